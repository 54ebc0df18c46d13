/- Part 7 of a proof in several texts (an abstract evaluator, what the functions compute). -/
import Derived.Test.YtlpdjhiggpblcaaGreatPkEdKeys6
import Derived.Shelf.Strings.Search1
import Derived.Shelf.Strings.Search2
import Derived.Shelf.Strings.Search3
import Derived.Shelf.LaysM
import Derived.Shelf.Strings.Shaped
import Derived.Test.YtlpdjhiggpblcaaGreatProg
open Go.Proofs.Tryz
namespace Go.Proofs.YtlpdjhiggpblcaaGreat
set_option linter.unusedSectionVars false
set_option linter.unusedSimpArgs false
set_option linter.unusedVariables false
open Go.RowKit
structure Enter (ρ ρ':Rel):Prop where
 K:ρ'.K=ρ.K
 Z:∀b o,ρ.Z b o→ρ'.Z b o
 src:ρ'.src=ρ.src
 b:∀i,ρ.Lb i→ρ'.Lb (bg+i)∧ρ'.bl (bg+i)=ρ.bl i
 t:∀i,ρ.Lt i→ρ'.Lt (bg+i)∧ρ'.hd (bg+i)=ρ.hd i
mutual
theorem FY {ρ ρ':Rel}(e:Enter ρ ρ'):∀{v:V} {u:Value},RV ρ v u→RV ρ' (mD v) u
 | .v _,_,h=>h
 | .nil,_,h=>h
 | .aL _ _,_,h=>⟨by rw [e.K];exact h.1,fun j i=>by rw [e.src];exact h.2 j i⟩
 | .own p,_,h=>⟨(e.t p h.1).1,by rw [(e.t p h.1).2];exact h.2⟩
 | .inn p _ _ _,_,h=>⟨(e.t p h.1).1,by rw [(e.t p h.1).2];exact h.2⟩
 | .fz _,_,h=>sK.mono h e.Z
 | .mp _,_,h=>RX.mono h e.Z
 | .ref b _,_,h=>⟨(e.b b h.1).1,by rw [(e.b b h.1).2];exact h.2⟩
 | .pe _ _ _ _,_,h=>by obtain⟨ub,h1,h2⟩:=h;exact⟨ub,FY e h1,h2⟩
 | .agg _,_,h=>by obtain⟨us,h1,h2⟩:=h;exact⟨us,h1,xI e h2⟩
 | .fU _,_,h=>by obtain⟨us,h1,h2⟩:=h;exact⟨us,h1,xI e h2⟩
 | .fn _ _,_,h=>by obtain⟨us,h1,h2⟩:=h;exact⟨us,h1,xI e h2⟩
 | .dead,_,_=>trivial
theorem xI {ρ ρ':Rel}(e:Enter ρ ρ'):∀{vs:List V} {us:List Value},jE ρ vs us→jE ρ' (oC vs) us
 | [],_,h=>h
 | _::_,_,h=>by obtain⟨u,q,h1,h2,h3⟩:=h;exact⟨u,q,h1,FY e h2,xI e h3⟩
end
theorem FZ {α:Type}{l:List (Nat×α)}(n:(l.map (·.1)).Nodup)(k:Nat):look k l.reverse=look k l:=by
 have n2:(l.reverse.map (·.1)).Nodup:=by rw [List.map_reverse];exact(List.reverse_perm _).nodup_iff.2 n
 cases e:look k l with
 | none=>
  cases e2:look k l.reverse with
  | none=>rfl
  | some x=>exact absurd (List.mem_map.2 ⟨_,List.mem_reverse.1 (fI e2),rfl⟩) (jX e)
 | some x=>exact jY n2 (List.mem_reverse.2 (fI e))
theorem IY {β:Type}(b n:Nat)(f:Nat→β):(List.range' b n).map f=(List.range' 0 n).map fun i=>f (b+i):=by
 apply List.ext_getElem?
 intro i
 rw [List.getElem?_map,List.getElem?_map]
 by_cases hi:i<n
 ·rw [List.getElem?_range' hi,List.getElem?_range' hi]
  simp
 ·rw [List.getElem?_eq_none (by simpa using hi),List.getElem?_eq_none (by simpa using hi)];rfl
theorem acH:∃f:Nat→Nat,∀i,f (bg+i)=i:=⟨fun b=>b-bg,fun i=>Nat.add_sub_cancel_left _ _⟩
def AL (args:List V)(boxes:List (List V))(trees:List (List (List D))):S:= {env:=(bW 0 (args.map mD)).reverse,box:=(bW bg (boxes.map oC)).reverse,tree:=(bW bg trees).reverse,dK:= []}
def lJ (n:Nat)(us:List Value):Act:= {tmps:=us.toArray++Array.replicate (n-us.toArray.size) undef,defers:= []}
theorem IZ {c:Ctx}{args:List V}{boxes:List (List V)}{trees:List (List (List D))}{y:Lay}{us:List Value}{w:World}(m:Mem c (pF boxes (bW 0 trees)) y w)(h:jE (aX c (pF boxes (bW 0 trees)) y) args us)(n:Nat){un:Nat→Nat}(hun:∀i,un (bg+i)=i)(hn:(lJ n us).tmps.size≤bg):
  At {c with n:=(lJ n us).tmps.size,bF:=fun b=>y.bl (un b),hF:=fun p=>y.hd (un p)} (AL args boxes trees) {bl:=fun b=>y.bl (un b),hd:=fun p=>y.hd (un p),T:=fun b=>y.T (un b),us:=fun b=>y.us (un b),w0:=y.w0,F:=y.F} (lJ n us) w:=by
 have sub:=hun
 have kB:∀b,b∈((bW bg (boxes.map oC)).reverse.map (·.1))↔∃i,i<boxes.length∧b=bg+i:=by
  intro b
  rw [List.map_reverse,List.mem_reverse,gT,List.mem_range'_1,List.length_map]
  constructor
  ·intro h;exact⟨b-bg,by omega,by omega⟩
  ·rintro ⟨i,h1,h2⟩;omega
 have kT:∀b,b∈((bW bg trees).reverse.map (·.1))↔∃i,i<trees.length∧b=bg+i:=by
  intro b
  rw [List.map_reverse,List.mem_reverse,gT,List.mem_range'_1]
  constructor
  ·intro h;exact⟨b-bg,by omega,by omega⟩
  ·rintro ⟨i,h1,h2⟩;omega
 have E:Enter (aX c (pF boxes (bW 0 trees)) y) (aX {c with n:=(lJ n us).tmps.size,bF:=fun b=>y.bl (un b),hF:=fun p=>y.hd (un p)} (AL args boxes trees) {bl:=fun b=>y.bl (un b),hd:=fun p=>y.hd (un p),T:=fun b=>y.T (un b),us:=fun b=>y.us (un b),w0:=y.w0,F:=y.F}):=by
  refine⟨rfl,fun b o ⟨p,hp,_⟩=>(by cases hp),rfl,fun i hi=>⟨?_,?_⟩,fun i hi=>⟨?_,?_⟩⟩
  ·have hi:i∈(bW 0 boxes).map (·.1):=hi
   rw [gT,List.mem_range'_1]at hi
   exact(kB _).2 ⟨i,by omega,rfl⟩
  ·show y.bl (un (bg+i))=y.bl i;rw [sub]
  ·have hi:i∈(bW 0 trees++([]:List (Nat×List (List D)))).map (·.1):=hi
   rw [List.append_nil,gT,List.mem_range'_1]at hi
   show bg+i∈((bW bg trees).reverse++([]:List (Nat×List (List D)))).map (·.1)
   rw [List.append_nil]
   exact(kT _).2 ⟨i,by omega,rfl⟩
  ·show y.hd (un (bg+i))=y.hd i;rw [sub]
 have nB:(((bW bg (boxes.map oC)).reverse).map (·.1)).Nodup:=by rw [List.map_reverse];exact(List.reverse_perm _).nodup_iff.2 jF
 have nT:(((bW bg trees).reverse).map (·.1)).Nodup:=by rw [List.map_reverse];exact(List.reverse_perm _).nodup_iff.2 jF
 refine⟨rfl,rfl,?_,fun t v e=>?_,fun b cs hb=>?_,fun p rows hp=>(by cases hp),nB,by show(((bW bg trees).reverse++([]:List (Nat×List (List D)))).map (·.1)).Nodup;rw [List.append_nil];exact nT,hn,fun i _ _=>⟨rfl,rfl⟩⟩
 ·have S0:St c.W w (dV y.bl y.T y.us (bW 0 boxes)++(bX y.hd (bW 0 trees)++([]++c.L))):=m.st
  show St c.W w (dV _ _ _ ((bW bg (boxes.map oC)).reverse)++(bX _ ((bW bg trees).reverse)++([]++c.L)))
  refine S0.perm (List.Perm.append ?_ (List.Perm.append ?_ (List.Perm.refl _)))
  ·rw [jU,jU,List.map_reverse,List.map_reverse,gT,gT,List.length_map,IY bg]
   simp only [sub]
   exact(List.reverse_perm _).symm
  ·rw [nL _ jF,nL _ nT,List.map_reverse,List.map_reverse,gT,gT,IY bg]
   simp only [sub]
   refine List.Perm.trans (List.Perm.of_eq (List.map_congr_left fun i hi=>?_)) (List.reverse_perm _).symm
   rw [FZ jF,l6]
   have:=l6 (l:=trees) (n:=0) i
   rw [Nat.zero_add]at this
   rw [this]
 ·have e:look t (bW 0 (args.map mD)).reverse=some v:=e
  rw [FZ jF]at e
  have e2:=l6 (l:=args.map mD) (n:=0) t
  rw [Nat.zero_add,e,List.getElem?_map]at e2
  obtain⟨v0,e3,rfl⟩:=Option.map_eq_some_iff.1 e2.symm
  obtain⟨u,e4,e5⟩:=h.get e3
  have:(lJ n us).tmps.getD t undef=u:=by
   have hl:=(List.getElem?_eq_some_iff.1 e4).1
   rw [Array.getD_eq_getD_getElem?]
   show((us.toArray++Array.replicate _ undef)[t]?).getD undef=u
   rw [Array.getElem?_append_left (by simpa using hl),List.getElem?_toArray,e4];rfl
  rw [this]
  exact FY E e5
 ·have hb:(b,cs)∈(bW bg (boxes.map oC)).reverse:=hb
  have hl:=jY nB hb
  obtain⟨i,h1,rfl⟩:=(kB b).1 (List.mem_map.2 ⟨_,hb,rfl⟩)
  rw [FZ jF,l6,List.getElem?_map]at hl
  obtain⟨cs0,e3,rfl⟩:=Option.map_eq_some_iff.1 hl
  have e4:=l6 (l:=boxes) (n:=0) i
  rw [Nat.zero_add,e3]at e4
  have:=m.box i cs0 (fI e4)
  show jE _ (oC cs0) (y.us (un (bg+i))).toList
  rw [sub]
  exact xI E this
def XL:List (Nat×List (List D))→List Hd→List Pc
 | x::l,u::us=>gK u x.2::XL l us
 | _,_=> []
theorem SF:∀{l:List (Nat×List (List D))} {H:List Hd} (x:Nat×List (List D)) (u:Hd),H.length=l.length→XL (l++ [x]) (H++ [u])=XL l H++ [gK u x.2]
 | [],[],x,u,_=>rfl
 | [],_::_,x,u,h=>by simp at h
 | y::l,[],x,u,h=>by simp at h
 | y::l,v::H,x,u,h=>by
  simp only [List.cons_append,XL]
  rw [SF x u (by simpa using h)]
def EI (s:S)(y:Lay)(p:Nat):Pc:=gK (y.hd p) ((s.rows (.own p)).getD [])
structure Out (s:S) (y:Lay) (n:Nat) (l:List (Nat×List (List D))) (H:List Hd):Prop where
 len:H.length=l.length
 ex:∃N:List Nat,N.Nodup∧(∀p∈N,p∈l.map (·.1))∧(∀p∈N,¬(bg≤p∧p<bg+n))∧(∀p∈N,∃rows,s.rows (.own p)=some rows)∧∀(W w:World) (R:List Pc),St W w (N.map (EI s y)++R)→St W w (XL l H++R)
structure als (ρ ρ':Rel) (s:S) (n:Nat) (H:List Hd):Prop where
 K:ρ'.K=ρ.K
 src:ρ'.src=ρ.src
 b:∀i,ρ.Lb (bg+i)→ρ'.Lb i∧ρ'.bl i=ρ.bl (bg+i)
 t:∀q,q<n→(look (bg+q) s.tree).isSome=true→ρ'.Lt q∧ρ'.hd q=ρ.hd (bg+q)
 h:∀k u,H[k]?=some u→ρ'.Lt (n+k)∧ρ'.hd (n+k)=u
section
variable {ρ:Rel} {s:S} {y:Lay} {n:Nat}
def amI (ρ:Rel)(s:S)(n:Nat)(H:List Hd)(v':V)(u:Value):Prop:= ∀(ρ':Rel) (Hf:List Hd),H <+: Hf→als ρ ρ' s n Hf→RV ρ' v' u
def aia (ρ:Rel)(s:S)(n:Nat)(H:List Hd)(vs:List V)(us:List Value):Prop:= ∀(ρ':Rel) (Hf:List Hd),H <+: Hf→als ρ ρ' s n Hf→jE ρ' vs us
mutual
theorem SG (hhd:ρ.hd=y.hd):∀{l l':List (Nat×List (List D))} {H:List Hd} {v v':V} {u:Value},Out s y n l H→zS s n l v=some (v',l')→RV ρ v u→∃H',H <+: H'∧Out s y n l' H'∧amI ρ s n H' v' u
 | l,l',H, .v x,v',u,o,h,hv=>by
  simp only [zS]at h;injection h with h;injection h with h1 h2;subst h1;subst h2
  exact⟨H,List.prefix_refl _,o,fun _ _ _ _=>hv⟩
 | l,l',H, .dead,v',u,o,h,hv=>by
  simp only [zS]at h;injection h with h;injection h with h1 h2;subst h1;subst h2
  exact⟨H,List.prefix_refl _,o,fun _ _ _ _=>trivial⟩
 | l,l',H, .aL q rows,v',u,o,h,hv=>by
  simp only [zS]at h;injection h with h;injection h with h1 h2;subst h1;subst h2
  exact⟨H,List.prefix_refl _,o,fun ρ' Hf _ O=>⟨by rw [O.K];exact hv.1,fun j e=>by rw [O.src];exact hv.2 j e⟩⟩
 | l,l',H, .nil,v',u,o,h,hv=>by
  simp only [zS]at h;injection h with h;injection h with h1 h2;subst h1;subst h2
  have hu:u= .slice none 0 0:=hv
  subst hu
  refine⟨H++ [rY],List.prefix_append _ _,⟨by simp [o.len],?_⟩,fun ρ' Hf le O=>?_⟩
  ·obtain⟨N,n1,n2,n3,n4,n5⟩:=o.ex
   refine⟨N,n1,fun p hp=>by rw [List.map_append];exact List.mem_append_left _ (n2 p hp),n3,n4,fun W w R S=>?_⟩
   rw [SF _ _ o.len,List.append_assoc]
   have S2:=(n5 W w R S).more (Ext.refl w) (h:=gK rY []) (F:= []) (kI.nil w) List.nodup_nil (fun b hb=>by cases hb)
   exact S2.perm List.perm_middle.symm
  ·have hk:=O.h l.length rY (yV le (by rw [←o.len];simp))
   exact⟨hk.1,by rw [hk.2];rfl⟩
 | l,l',H, .own p,v',u,o,h,hv=>by
  simp only [zS]at h
  by_cases hp:bg≤p∧p<bg+n
  ·rw [if_pos hp]at h
   obtain⟨h1,h⟩:=aB h
   injection h with h;injection h with h2 h3;subst h2;subst h3
   refine⟨H,List.prefix_refl _,o,fun ρ' Hf le O=>?_⟩
   obtain⟨i,hi⟩:∃i,p=bg+i:=⟨p-bg,by omega⟩
   have e:p-bg=i:=by omega
   rw [e]
   rw [hi]at hp h1 hv
   obtain⟨k1,k2⟩:=O.t i (by omega) h1
   exact⟨k1,by rw [k2];exact hv.2⟩
  ·rw [if_neg hp]at h
   obtain⟨rows,h1,h⟩:=aj h
   obtain⟨h2,h⟩:=aB h
   injection h with h;injection h with h3 h4;subst h3;subst h4
   have hnone:=jX (oD h2)
   have hu:u=(y.hd p).v:=by rw [←hhd];exact hv.2
   refine⟨H++ [y.hd p],List.prefix_append _ _,⟨by simp [o.len],?_⟩,fun ρ' Hf le O=>?_⟩
   ·obtain⟨N,n1,n2,n3,n4,n5⟩:=o.ex
    refine⟨p::N,List.nodup_cons.2 ⟨fun hx=>hnone (n2 p hx),n1⟩,fun q hq=>?_,fun q hq=>?_,fun q hq=>?_,fun W w R S=>?_⟩
    ·rw [List.map_append]
     rcases List.mem_cons.1 hq with hq|hq
     ·subst hq;exact List.mem_append_right _ (by simp)
     ·exact List.mem_append_left _ (n2 q hq)
    ·rcases List.mem_cons.1 hq with hq|hq
     ·subst hq;exact hp
     ·exact n3 q hq
    ·rcases List.mem_cons.1 hq with hq|hq
     ·subst hq;exact⟨rows,h1⟩
     ·exact n4 q hq
    ·rw [SF _ _ o.len,List.append_assoc]
     refine n5 W w _ (S.perm ?_)
     rw [List.map_cons,List.cons_append]
     have e:EI s y p=gK (y.hd p) rows:=by unfold EI;rw [h1];rfl
     rw [e]
     exact List.perm_middle.symm
   ·have hk:=O.h l.length (y.hd p) (yV le (by rw [←o.len];simp))
    exact⟨hk.1,by rw [hk.2];exact hu⟩
 | l,l',H, .ref b off,v',u,o,h,hv=>by
  simp only [zS]at h
  obtain⟨h1,h⟩:=aB h
  injection h with h;injection h with h2 h3;subst h2;subst h3
  refine⟨H,List.prefix_refl _,o,fun ρ' Hf le O=>?_⟩
  obtain⟨i,hi⟩:∃i,b=bg+i:=⟨b-bg,by omega⟩
  have e:b-bg=i:=by omega
  rw [e]
  rw [hi]at hv
  obtain⟨k1,k2⟩:=O.b i hv.1
  exact⟨k1,by rw [k2];exact hv.2⟩
 | l,l',H, .agg cs,v',u,o,h,hv=>by
  simp only [zS]at h
  obtain⟨x,h1,h⟩:=aj h
  injection h with h;injection h with h2 h3;subst h2;subst h3
  obtain⟨us,e1,e2⟩:=hv
  obtain⟨H',k1,k2,k3⟩:=F5 hhd (l':=x.2) (vs':=x.1) o h1 e2
  exact⟨H',k1,k2,fun ρ' Hf le O=>⟨us,e1,k3 ρ' Hf le O⟩⟩
 | l,l',H, .fU cs,v',u,o,h,hv=>by
  simp only [zS]at h
  obtain⟨x,h1,h⟩:=aj h
  injection h with h;injection h with h2 h3;subst h2;subst h3
  obtain⟨us,e1,e2⟩:=hv
  obtain⟨H',k1,k2,k3⟩:=F5 hhd (l':=x.2) (vs':=x.1) o h1 e2
  exact⟨H',k1,k2,fun ρ' Hf le O=>⟨us,e1,k3 ρ' Hf le O⟩⟩
 | l,l',H, .fz _,v',u,o,h,hv=>by simp only [zS]at h;cases h
 | l,l',H, .mp _,v',u,o,h,hv=>by simp only [zS]at h;cases h
 | l,l',H, .inn _ _ _ _,v',u,o,h,hv=>by simp only [zS]at h;cases h
 | l,l',H, .pe _ _ _ _,v',u,o,h,hv=>by simp only [zS]at h;cases h
 | l,l',H, .fn _ _,v',u,o,h,hv=>by simp only [zS]at h;cases h
theorem F5 (hhd:ρ.hd=y.hd):∀{l l':List (Nat×List (List D))} {H:List Hd} {vs vs':List V} {us:List Value},Out s y n l H→OJ s n l vs=some (vs',l')→jE ρ vs us→∃H',H <+: H'∧Out s y n l' H'∧aia ρ s n H' vs' us
 | l,l',H,[],vs',us,o,h,hv=>by
  simp only [OJ]at h;injection h with h;injection h with h1 h2;subst h1;subst h2
  exact⟨H,List.prefix_refl _,o,fun _ _ _ _=>hv⟩
 | l,l',H,v::vs,vs',us,o,h,hv=>by
  simp only [OJ]at h
  obtain⟨x,h1,h⟩:=aj h
  obtain⟨z,h2,h⟩:=aj h
  injection h with h;injection h with h3 h4;subst h3;subst h4
  obtain⟨u,q,rfl,e1,e2⟩:=hv
  obtain⟨H1,a1,a2,a3⟩:=SG hhd (l':=x.2) (v':=x.1) o h1 e1
  obtain⟨H2,b1,b2,b3⟩:=F5 hhd (l':=z.2) (vs':=z.1) a2 h2 e2
  exact⟨H2,a1.trans b1,b2,fun ρ' Hf le O=>⟨u,q,rfl,a3 ρ' Hf (b1.trans le) O,b3 ρ' Hf le O⟩⟩
end
theorem SH (hhd:ρ.hd=y.hd)(hB:∀b cs,look b s.box=some cs→jE ρ cs (y.us b).toList):∀{bs:List Nat} {l l':List (Nat×List (List D))} {H:List Hd} {css:List (List V)},Out s y n l H→Xt s n l bs=some (css,l')→
  ∃H',H <+: H'∧Out s y n l' H'∧css.length=bs.length∧(∀b∈bs,bg+b∈s.box.map (·.1))∧∀(i b:Nat) (cs:List V),bs[i]?=some b→css[i]?=some cs→aia ρ s n H' cs (y.us (bg+b)).toList
 | [],l,l',H,css,o,h=>by
  simp only [Xt]at h;injection h with h;injection h with h1 h2;subst h1;subst h2
  exact⟨H,List.prefix_refl _,o,rfl,(fun b hb=>by cases hb),fun i b cs e=>by simp at e⟩
 | b::bs,l,l',H,css,o,h=>by
  simp only [Xt]at h
  obtain⟨cs,h1,h⟩:=aj h
  obtain⟨x,h2,h⟩:=aj h
  obtain⟨z,h3,h⟩:=aj h
  injection h with h;injection h with h4 h5;subst h4;subst h5
  obtain⟨H1,a1,a2,a3⟩:=F5 hhd (l':=x.2) (vs':=x.1) o h2 (hB _ cs h1)
  obtain⟨H2,b1,b2,b3,b4,b5⟩:=SH hhd hB (l':=z.2) (css:=z.1) a2 h3
  refine⟨H2,a1.trans b1,b2,by rw [List.length_cons,List.length_cons,b3],fun b' hb=>?_,fun i b' cs' e1 e2=>?_⟩
  ·rcases List.mem_cons.1 hb with hb|hb
   ·rw [hb];exact eP.2 ⟨cs,h1⟩
   ·exact b4 b' hb
  ·cases i with
   | zero=>simp at e1 e2;rw [←e1,←e2];exact fun ρ' Hf le O=>a3 ρ' Hf (b1.trans le) O
   | succ i=>exact b5 i b' cs' (by simpa using e1) (by simpa using e2)
end
theorem xJ (s:S):∀(n j:Nat),iy s j n=(List.range' j n).filterMap fun q=>(look (bg+q) s.tree).map fun rows=>(q,rows)
 | 0,j=>rfl
 | n+1,j=>by
  simp only [iy,List.range'_succ]
  rw [xJ s n (j+1)]
  cases e:look (bg+j) s.tree with
  | none=>simp only [Ke,e,List.filterMap_cons,Option.map_none]
  | some rows=>simp only [Ke,e,List.filterMap_cons,Option.map_some]
theorem Qs {α:Type}:∀(l:List (Nat×α)) (n:Nat),kG n l=bW n (l.map (·.2))
 | [],_=>rfl
 | x::r,n=>by simp only [kG,List.map_cons,bW];rw [Qs r]
theorem Ht {hd:Nat→Hd}:∀{l:List (Nat×List (List D))} {H:List Hd} {n:Nat},H.length=l.length→(∀k u,H[k]?=some u→hd (n+k)=u)→bX hd (kG n l)=XL l H
 | [],[],_,_,_=>rfl
 | [],_::_,_,h,_=>by simp at h
 | x::l,[],_,h,_=>by simp at h
 | x::l,u::H,n,h,k=>by
  have h0:=k 0 u rfl
  rw [Nat.add_zero]at h0
  have:=Ht (hd:=hd) (l:=l) (H:=H) (n:=n+1) (by simpa using h) fun j v e=>by rw [show n+1+j=n+(j+1) by omega];exact k (j+1) v (by simpa using e)
  unfold bX at this⊢
  simp only [kG,List.map_cons,XL,h0]
  rw [this]
theorem St.thaw {W w:World}{y:Lay}{R:List Pc}:∀{l:List (Nat×List (List D))},(∀p rows,(p,rows)∈l→kI (y.w0 p) rows (y.hd p) (y.F p))→St W w (iD y.w0 y.F l++R)→St W w (bX y.hd l++R)
 | [],_,S=>S
 | x::l,h,S=>by
  have S1:St W w (lG (y.w0 x.1) (y.F x.1)::(iD y.w0 y.F l++R)):=S
  obtain⟨F,s,n,hb⟩:=S1.sep
  obtain⟨F1,G,rfl,⟨rfl,e⟩,g⟩:=s.gF
  have S2:St W w (gK (y.hd x.1) x.2::(iD y.w0 y.F l++R)):=⟨S1.ext,_,Sep.cons (h:=gK (y.hd x.1) x.2) ((h x.1 x.2 (by simp)).st e) g,n,hb⟩
  have S3:=(S2.perm (List.perm_middle (l₁:=iD y.w0 y.F l)).symm)
  have S4:=St.thaw (l:=l) (fun p rows hp=>h p rows (by simp [hp])) S3
  exact S4.perm List.perm_middle
section
variable {P:Program}
def O4 (tmps:Array Value):ResultVar→Sem Value
 | .tmp t=>pure (tmps.getD t undef)
 | .cell b t=>do loadVar t (←asAddr (tmps.getD b undef))
theorem acI (fn:Func)(tmps:Array Value):results fn tmps=(do
  let vs ←fn.results.mapM (O4 tmps)
  pure (if h:vs.size=1 then vs[0]else .tuple vs)):=by
 have e:(fun| .tmp t=>pure (tmps.getD t undef)| .cell a t=>do loadVar t (←asAddr (tmps.getD a undef)):ResultVar→Sem Value)=O4 tmps:=by
  funext x;cases x<;>rfl
 rw [←e];rfl
theorem Wv {c:Ctx}{s:S}{y:Lay}{a:Act}{w:World}(A:At c s y a w):∀{rs:List ResultVar} {vs:List V},bK (Xu P s) rs=some vs→∃us,(rs.mapM (O4 a.tmps)).run P w= .ok us w∧jE (aX c s y) vs us
 | [],vs,h=>by simp only [bK]at h;injection h with h;subst h;exact⟨[],by simp,rfl⟩
 | x::rs,vs,h=>by
  simp only [bK]at h
  obtain⟨v,h1,h⟩:=aj h
  obtain⟨vs',h2,h⟩:=aj h
  injection h with h;subst h
  obtain⟨us,k1,k2⟩:=Wv A h2
  cases x with
  | tmp t=>
   simp only [Xu]at h1
   refine⟨_::us,?_,_,us,rfl,A.env t v h1,k2⟩
   rw [List.mapM_cons]
   simp only [O4,Sem.run_bind,Sem.run_pure,Result.andThen_ok,k1]
  | cell b t=>
   simp only [Xu]at h1
   obtain⟨p,h3,h4⟩:=aj h1
   have hp:=A.env b p h3
   obtain⟨u,hr,hv⟩:=A.loadAt (P:=P) hp h4
   have aoc:∃ad,a.tmps.getD b undef= .pointer (some ad):=by
    cases p<;>simp only [S.load]at h4<;>try (cases h4;done)
    case ref b' off=>exact⟨_,hp.2⟩
    case pe base k i off=>obtain⟨ub,_,g,q,n,cc,_,_,e⟩:=hp;exact⟨_,e⟩
   obtain⟨ad,had⟩:=aoc
   rw [had]at hr
   have hr:(loadVar t ad).run P w= .ok u w:=by
    unfold Instr.loadAt at hr
    simpa only [Instr.sureAddr,Sem.run_bind,Sem.run_pure,Result.andThen_ok] using hr
   refine⟨u::us,?_,u,us,rfl,hv,k2⟩
   rw [List.mapM_cons]
   simp only [O4,Sem.run_bind,Sem.run_pure,Result.andThen_ok,k1,had,asAddr,hr]
theorem Eh {c:Ctx}{s:S}{y:Lay}{a:Act}{w:World}(A:At c s y a w){fn:Func}{vs:List V}(h:bK (Xu P s) fn.results.toList=some vs):∃u,(results fn a.tmps).run P w= .ok u w∧RV (aX c s y) (RN vs) u:=by
 obtain⟨us,h1,h2⟩:=Wv A h
 have hm:(fn.results.mapM (O4 a.tmps)).run P w= .ok us.toArray w:=by
  rw [Array.mapM_eq_mapM_toList]
  simp only [Sem.run_bind,Sem.run_map]
  rw [h1];rfl
 have hl:=h2.len
 rw [acI,Sem.run_bind,hm]
 simp only [Result.andThen_ok]
 cases vs with
 | nil=>
  have:us= []:=List.eq_nil_of_length_eq_zero hl
  subst this
  exact⟨.tuple #[],rfl,[],rfl,rfl⟩
 | cons v vs=>
  obtain⟨u,q,rfl,e1,e2⟩:=h2
  cases vs with
  | nil=>
   have:q= []:=e2
   subst this
   exact⟨u,rfl,e1⟩
  | cons v2 vs=>
   refine⟨.tuple (u::q).toArray,?_,u::q,rfl,u,q,rfl,e1,e2⟩
   have hne:¬((u::q).toArray.size=1):=by
    obtain⟨u2,q2,rfl,_⟩:=e2
    simp
   rw [dif_neg hne];rfl
end
section
variable {P:Program}
theorem I4 {c:Ctx}{s:S}{y:Lay}{a:Act}{w:World}(A:At c s y a w){rs:List ResultVar}{nb nt:Nat}{r:A9}{u:Value}{n0:Nat}{bF':Nat→Nat}{hF':Nat→Hd}{vs:List V}(hvs:bK (Xu P s) rs=some vs)(hu:RV (aX c s y) (RN vs) u)(h:tu P rs nb nt s=some r):
  ∃y':Lay,Mem {c with n:=n0,bF:=bF',hF:=hF'} (pF r.box r.tree) y' w∧RV (aX {c with n:=n0,bF:=bF',hF:=hF'} (pF r.box r.tree) y') r.val u∧r.box.length=nb∧(∀i,i<nb→y'.bl i=y.bl (bg+i))∧∀q,q<nt→y'.hd q=y.hd (bg+q):=by
 unfold tu at h
 rw [hvs,bq]at h
 obtain⟨x,h1,h⟩:=aj h
 obtain⟨z,h2,h⟩:=aj h
 obtain⟨h3,h⟩:=aB h
 injection h with h;subst h
 have o0:Out s y nt [] []:=⟨rfl,[],List.nodup_nil,(fun p hp=>by cases hp),(fun p hp=>by cases hp),(fun p hp=>by cases hp),fun W w R S=>S⟩
 obtain⟨H1,a1,a2,a3⟩:=SG (ρ:=aX c s y) (y:=y) rfl (l':=x.2) (v':=x.1) o0 h1 hu
 obtain⟨H,b1,b2,b3,b4,b5⟩:=SH (ρ:=aX c s y) (y:=y) rfl (fun b cs e=>A.box b cs (fI e)) (l':=z.2) (css:=z.1) a2 h2
 rw [List.length_range']at b3
 have An:=A.nt
 have An2:=An
 rw [List.map_append,List.nodup_append]at An2
 obtain⟨N,n1,n2,n3,n4,n5⟩:=b2.ex
 let y2:Lay:= {bl:=fun i=>y.bl (bg+i),hd:=fun q=>if q<nt then y.hd (bg+q)else H[q-nt]?.getD rY,T:=fun i=>y.T (bg+i),us:=fun i=>y.us (bg+i),w0:=y.w0,F:=y.F}
 have hlow:∀q,q<nt→y2.hd q=y.hd (bg+q):=fun q hq=>if_pos hq
 have hhigh:∀k u,H[k]?=some u→y2.hd (nt+k)=u:=fun k u e=>by
  show(if nt+k<nt then _ else H[nt+k-nt]?.getD rY)=u
  rw [if_neg (by omega),Nat.add_sub_cancel_left,e];rfl
 have ae1:∀q,q∈(iy s 0 nt).map (·.1)↔q<nt∧∃rows,look (bg+q) s.tree=some rows:=by
  intro q
  rw [xJ,List.mem_map]
  constructor
  ·rintro ⟨x,hx,rfl⟩
   obtain⟨q',h4,h5⟩:=List.mem_filterMap.1 hx
   obtain⟨rows,h6,rfl⟩:=Option.map_eq_some_iff.1 h5
   rw [List.mem_range'_1]at h4
   exact⟨by omega,rows,h6⟩
  ·rintro ⟨h4,rows,h5⟩
   exact⟨(q,rows),List.mem_filterMap.2 ⟨q,by rw [List.mem_range'_1];omega,by rw [h5];rfl⟩,rfl⟩
 have amJ:(kG nt z.2).map (·.1)=List.range' nt z.2.length:=by rw [Qs,gT,List.length_map]
 have hrt:(iy s 0 nt++kG nt z.2).map (·.1)=(iy s 0 nt).map (·.1)++List.range' nt z.2.length:=by rw [List.map_append,amJ]
 have Os:als (aX c s y) (aX {c with n:=n0,bF:=bF',hF:=hF'} (pF z.1 (iy s 0 nt++kG nt z.2)) y2) s nt H:=by
  refine⟨rfl,rfl,fun i hi=>⟨?_,rfl⟩,fun q hq e=>⟨?_,hlow q hq⟩,fun k u e=>⟨?_,hhigh k u e⟩⟩
  ·show i∈(bW 0 z.1).map (·.1)
   rw [gT,List.mem_range'_1,b3]
   obtain⟨xx,hx1,hx2⟩:=List.mem_map.1 (show bg+i∈s.box.map (·.1)from hi)
   have:=List.all_eq_true.1 h3 xx hx1
   rw [decide_eq_true_eq,hx2]at this
   omega
  ·show q∈((iy s 0 nt++kG nt z.2)++([]:List (Nat×List (List D)))).map (·.1)
   rw [List.append_nil,hrt,List.mem_append]
   exact .inl ((ae1 q).2 ⟨hq,Option.isSome_iff_exists.1 e⟩)
  ·show nt+k∈((iy s 0 nt++kG nt z.2)++([]:List (Nat×List (List D)))).map (·.1)
   rw [List.append_nil,hrt,List.mem_append]
   refine .inr ?_
   rw [List.mem_range'_1,←b2.len]
   have:=(List.getElem?_eq_some_iff.1 e).1
   omega
 refine⟨y2,⟨?_,fun b cs hb=>?_,fun p rows hp=>(by cases hp),jF,?_⟩,a3 _ _ b1 Os,b3,fun i _=>rfl,hlow⟩
 ·
  have hall:∀n,(∃rows,s.rows (.own n)=some rows)↔n∈(s.tree++s.dK).map (·.1):=by
   intro n
   rw [List.map_append,List.mem_append,eP,eP]
   simp only [S.rows]
   cases look n s.tree with
   | some r0=>simp [lY]
   | none=>simp [lY]
  have S1:St c.W w ((s.box.map (·.1)).map (fun b=>rowP (y.bl b) (y.T b) (y.us b))++(((s.tree++s.dK).map (·.1)).map (EI s y)++c.L)):=by
   have S0:=A.st
   have S2:St c.W w (iD y.w0 y.F s.dK++(dV y.bl y.T y.us s.box++(bX y.hd s.tree++c.L))):=S0.perm (by
    have:=ZM (dV y.bl y.T y.us s.box) [] (bX y.hd s.tree) (iD y.w0 y.F s.dK) c.L
    simp only [List.append_nil,List.nil_append]at this
    rw [←List.append_assoc,←List.append_assoc]
    refine((List.Perm.append_right c.L List.perm_append_comm).trans ?_)
    simp only [List.append_assoc]
    exact List.Perm.refl _)
   have S3:=St.thaw A.dK S2
   refine S3.perm ?_
   have e1:bX y.hd s.tree++bX y.hd s.dK=((s.tree++s.dK).map (·.1)).map (EI s y):=by
    rw [List.map_append,List.map_append,nL _ An2.1,nL _ An2.2.1]
    congr 1
    ·refine List.map_congr_left fun p hp=>?_
     obtain⟨rows,hr⟩:=eP.1 hp
     unfold EI
     simp only [S.rows,hr,lY]
    ·refine List.map_congr_left fun p hp=>?_
     obtain⟨rows,hr⟩:=eP.1 hp
     have hn:look p s.tree=none:=by
      cases e:look p s.tree with
      | none=>rfl
      | some r0=>exact absurd rfl (An2.2.2 p (eP.2 ⟨r0,e⟩) p hp)
     unfold EI
     simp only [S.rows,hr,hn,lY]
   rw [←e1,jU]
   refine(List.perm_append_comm (l₁:=bX y.hd s.dK)).trans ?_
   rw [List.append_assoc,List.append_assoc]
   refine List.Perm.append_left _ ?_
   rw [List.append_assoc]
   exact List.Perm.append_left _ List.perm_append_comm
  have hbk:∀b∈List.range' bg nb,b∈s.box.map (·.1):=by
   intro b hb
   rw [List.mem_range'_1]at hb
   have:=b4 (b-bg) (by rw [List.mem_range'_1];omega)
   rw [show bg+(b-bg)=b by omega]at this
   exact this
  have p1:=(vQ A.nb List.nodup_range' hbk).map fun b=>rowP (y.bl b) (y.T b) (y.us b)
  rw [List.map_append]at p1
  have kn:((iy s 0 nt).map (·.1)).Nodup:=by
   rw [xJ,List.nodup_iff_pairwise_ne,List.pairwise_map,List.pairwise_filterMap]
   refine List.Pairwise.imp (fun {q q'} hne b hb b' hb' e=>?_) (List.nodup_iff_pairwise_ne.1 (List.nodup_range' (s:=0) (n:=nt)))
   obtain⟨r1,_,rfl⟩:=Option.map_eq_some_iff.1 hb
   obtain⟨r2,_,rfl⟩:=Option.map_eq_some_iff.1 hb'
   exact hne e
  have hnd:(((iy s 0 nt).map (·.1)).map (fun q=>bg+q)++N).Nodup:=by
   refine List.nodup_append.2 ⟨?_,n1,fun x hx p hp e=>?_⟩
   ·rw [List.nodup_iff_pairwise_ne,List.pairwise_map]
    exact List.Pairwise.imp (fun {q q'} hne e=>hne (by omega)) (List.nodup_iff_pairwise_ne.1 kn)
   ·obtain⟨q,hq,rfl⟩:=List.mem_map.1 hx
    have hq2:=((ae1 q).1 hq).1
    rw [←e]at hp
    exact n3 _ hp (by omega)
  have hsub:∀p∈(((iy s 0 nt).map (·.1)).map (fun q=>bg+q)++N),p∈(s.tree++s.dK).map (·.1):=by
   intro p hp
   rcases List.mem_append.1 hp with hp|hp
   ·obtain⟨q,hq,rfl⟩:=List.mem_map.1 hp
    obtain⟨_,rows,hr⟩:=(ae1 q).1 hq
    rw [List.map_append,List.mem_append];exact .inl (eP.2 ⟨rows,hr⟩)
   ·exact(hall p).1 (n4 p hp)
  have p2:=((vQ An hnd hsub).map (EI s y)).trans (List.Perm.of_eq (by rw [List.map_append,List.map_append]))
  have S4:=S1.perm (List.Perm.append p1 (List.Perm.append p2 (List.Perm.refl c.L)))
  have S5:St c.W w (N.map (EI s y)++((List.range' bg nb).map (fun b=>rowP (y.bl b) (y.T b) (y.us b))++(((iy s 0 nt).map (·.1)).map (fun q=>bg+q)).map (EI s y)++c.L)):=by
   have hp:∀(A B C D E Z:List Pc),((A++B)++(((C++D)++E)++Z)).Perm ((B++E)++(D++((A++C)++Z))):=by
    intro A B C D E Z
    have q1:((A++B)++(((C++D)++E)++Z)).Perm (B++(A++(((C++D)++E)++Z))):=by
     rw [←List.append_assoc B];exact List.Perm.append_right _ List.perm_append_comm
    refine q1.trans ?_
    rw [List.append_assoc B E]
    refine List.Perm.append_left _ ?_
    have q2:(A++(((C++D)++E)++Z)).Perm (E++(A++((C++D)++Z))):=by
     have:=List.Perm.append_right Z (List.perm_append_comm (l₁:=C++D) (l₂:=E))
     refine(List.Perm.append_left A this).trans ?_
     rw [List.append_assoc E,←List.append_assoc A,←List.append_assoc E]
     exact List.Perm.append_right _ List.perm_append_comm
    refine q2.trans (List.Perm.append_left _ ?_)
    have q3:=List.Perm.append_right Z (List.perm_append_comm (l₁:=C) (l₂:=D))
    refine(List.Perm.append_left A q3).trans ?_
    rw [List.append_assoc D,←List.append_assoc A,List.append_assoc A C,←List.append_assoc D]
    exact List.Perm.append_right _ List.perm_append_comm
   exact St.sO (S4.perm (hp _ _ _ _ _ _))
  have S6:=n5 _ _ _ S5
  show St c.W w (dV y2.bl y2.T y2.us (bW 0 z.1)++(bX y2.hd (iy s 0 nt++kG nt z.2)++([]++c.L)))
  have e1:dV y2.bl y2.T y2.us (bW 0 z.1)=(List.range' bg nb).map fun b=>rowP (y.bl b) (y.T b) (y.us b):=by
   rw [jU,gT,b3,IY bg]
  have e2:bX y2.hd (iy s 0 nt++kG nt z.2)=(((iy s 0 nt).map (·.1)).map (fun q=>bg+q)).map (EI s y)++XL z.2 H:=by
   have e3:bX y2.hd (kG nt z.2)=XL z.2 H:=Ht b2.len hhigh
   have e4:bX y2.hd (iy s 0 nt)=(((iy s 0 nt).map (·.1)).map (fun q=>bg+q)).map (EI s y):=by
    unfold bX
    rw [List.map_map,List.map_map]
    refine List.map_congr_left fun x hx=>?_
    rw [xJ]at hx
    obtain⟨q',h4,h5⟩:=List.mem_filterMap.1 hx
    obtain⟨rows,h6,rfl⟩:=Option.map_eq_some_iff.1 h5
    rw [List.mem_range'_1]at h4
    simp only [Function.comp]
    rw [hlow q' (by omega)]
    unfold EI
    simp only [S.rows,h6,lY,Option.getD_some]
   rw [←e3,←e4];unfold bX;rw [List.map_append]
  rw [e1,e2,List.nil_append]
  refine S6.perm ?_
  refine List.perm_append_comm.trans ?_
  rw [List.append_assoc,List.append_assoc]
  refine List.Perm.append_left _ ?_
  rw [List.append_assoc]
  exact List.Perm.append_left _ List.perm_append_comm
 ·have hl:=jY jF (show(b,cs)∈bW 0 z.1 from hb)
  have e5:=l6 (l:=z.1) (n:=0) b
  rw [Nat.zero_add,hl]at e5
  have hlt:b<nb:=by rw [←b3];exact(List.getElem?_eq_some_iff.1 e5.symm).1
  exact b5 b b cs (by rw [List.getElem?_range' hlt];simp) e5.symm _ _ (List.prefix_refl _) Os
 ·show((iy s 0 nt++kG nt z.2++([]:List (Nat×List (List D)))).map (·.1)).Nodup
  have kn:((iy s 0 nt).map (·.1)).Nodup:=by
   rw [xJ,List.nodup_iff_pairwise_ne,List.pairwise_map,List.pairwise_filterMap]
   refine List.Pairwise.imp (fun {q q'} hne b hb b' hb' e=>?_) (List.nodup_iff_pairwise_ne.1 (List.nodup_range' (s:=0) (n:=nt)))
   obtain⟨r1,_,rfl⟩:=Option.map_eq_some_iff.1 hb
   obtain⟨r2,_,rfl⟩:=Option.map_eq_some_iff.1 hb'
   exact hne e
  rw [List.append_nil,hrt,List.nodup_append]
  refine⟨kn,List.nodup_range',fun q hq q' hq' e=>?_⟩
  have:=((ae1 q).1 hq).1
  rw [List.mem_range'_1]at hq'
  omega
theorem nM {gh:oI}{n m:Nat}(h:n≤m):∀(x:Code),ku gh n x=true→ku gh m x=true
 | .region _ ops d,k=>by
  unfold ku at k⊢
  rw [Bool.and_eq_true]at k⊢
  refine⟨List.all_eq_true.2 fun o ho=>?_,k.2⟩
  have:=List.all_eq_true.1 k.1 o ho
  unfold fP at this⊢
  split at this
  ·simp at this⊢;omega
  ·rfl
 | .seq x y,k=>by unfold ku at k⊢;rw [Bool.and_eq_true]at k⊢;exact⟨nM h x k.1,nM h y k.2⟩
 | .cond _ x y,k=>by unfold ku at k⊢;rw [Bool.and_eq_true]at k⊢;exact⟨nM h x k.1,nM h y k.2⟩
 | .block _ x,k=>by unfold ku at k⊢;exact nM h x k
 | .loop x,k=>by unfold ku at k⊢;exact nM h x k
 | .scope x,k=>by unfold ku at k⊢;exact nM h x k
 | .skip,_=>rfl
 | .label _,_=>rfl
 | .exit _,_=>rfl
 | .ret,_=>rfl
 | .goto _,k=>k
 | .rangeFunc ..,k=>k
 | .refuse ..,k=>k
theorem afT {G : List (FuncId × Bool × aN)} (hG : ∀ f M, look f G = some M → aF P f M.2) {gh : oI} (hM : Kl gh) {f : FuncId} {fn : Func} {x : Code} (hf : P.funcs[f]? = some fn) (hb : fn.body = some x) (hn : (fn.name == "runtime.NumGoroutine") = false) (hsm : fn.ntmps ≤ 1000000) (hx : ku gh fn.ntmps x = true) (hm : P.follows .mixedOrders = true) : aF P f (aI P G gh f) := by
 refine⟨⟨fn,hf,hn,by rw [hb];rfl⟩,fun c args boxes trees r h y us w m hargs=>?_⟩
 unfold aI at h
 rw [hf,bq,hb,bq]at h
 obtain⟨⟨hal,aC5,aC6⟩,h⟩:=aB h
 obtain⟨e,h1,h⟩:=aj h
 obtain⟨un,hun⟩:=acH
 have hle:us.length≤1000:=by rw [hargs.len];exact hal
 have hsz0:(lJ fn.ntmps us).tmps.size=us.length+(fn.ntmps-us.length):=by
  show(us.toArray++Array.replicate (fn.ntmps-us.toArray.size) undef).size=_
  rw [Array.size_append,Array.size_replicate,List.size_toArray]
 have hsz:fn.ntmps≤(lJ fn.ntmps us).tmps.size:=by rw [hsz0];omega
 have hpb:(lJ fn.ntmps us).tmps.size≤bg:=by rw [hsz0];unfold bg;omega
 have A:=IZ m hargs fn.ntmps hun hpb
 refine calls_of_wp hf hb ?_
 refine rA (c:= {c with n:=(lJ fn.ntmps us).tmps.size,bF:=fun b=>y.bl (un b),hF:=fun p=>y.hd (un p)}) (IX hG) hM hm x (.on (AL args boxes trees)) e (lJ fn.ntmps us) w _ (nM hsz x hx) h1 ⟨_,A⟩ fun a' w' g=>?_
 obtain⟨ex,q⟩:=e
 have fin:∀s,Hq {c with n:=(lJ fn.ntmps us).tmps.size,bF:=fun b=>y.bl (un b),hF:=fun p=>y.hd (un p)} (.on s) a' w'→tu P fn.results.toList boxes.length trees.length s=some r→a'.defers= []∧∃v,(results fn a'.tmps).run P w'= .ok v w'∧∃u y',Ending.returned v= .returned u∧Ends c boxes.length trees.length r y u y' w':=by
  intro s ⟨y1,A1⟩ hr
  have hr2:=hr
  unfold tu at hr2
  obtain⟨vs,hvs,_⟩:=aj hr2
  obtain⟨u,k1,k2⟩:=Eh A1 hvs
  obtain⟨y',k3,k4,k5,k6,k7⟩:=I4 (n0:=c.n) (bF':=c.bF) (hF':=c.hF) A1 hvs k2 hr
  refine⟨A1.defers,u,k1,u,y',rfl,k3,k4, .inl k5,fun i hi=>?_,fun q hq=>?_⟩
  ·rw [k6 i hi]
   have:=(A1.fix.2 (bg+i) (by omega) (by unfold bg;omega)).1
   rw [this]
   show y.bl (un (bg+i))=y.bl i
   rw [hun]
  ·rw [k7 q hq]
   have:=(A1.fix.2 (bg+q) (by omega) (by unfold bg;omega)).2
   rw [this]
   show y.hd (un (bg+q))=y.hd q
   rw [hun]
 cases ex with
 | normal=>
  cases q with
  | off=>exact g.elim
  | on s=>exact fin s g h
 | ret=>
  cases q with
  | off=>exact g.elim
  | on s=>exact fin s g h
 | exit i=>simp only [RO]at h;cases h
end
theorem Qt {w0:Nat→World}{F:Nat→List Nat}{k:Nat}{u:World}{f:List Nat}:∀{l:List (Nat×List (List D))},k∉l.map (·.1)→iD (dR w0 k u) (dR F k f) l=iD w0 F l
 | [],_=>rfl
 | (j,x)::r,h=>by
  simp only [List.map_cons,List.mem_cons,not_or]at h
  have:=Qt (w0:=w0) (F:=F) (u:=u) (f:=f) h.2
  unfold iD at this⊢
  rw [List.map_cons,List.map_cons,this]
  simp only [fT _ _ (fun e=>h.1 e.symm:j≠k)]
theorem At.freeze {c:Ctx}{s:S}{y:Lay}{a:Act}{w:World}(A:At c s y a w){p:Nat}{rows:List (List D)}(hl:look p s.tree=some rows):Good c {s with tree:=drop1 p s.tree,dK:=(p,rows)::s.dK} a w:=by
 have S0:=A.out' hl
 obtain⟨F,o,hn,hb,k⟩:=S0.open_
 have S1:St c.W w (lG w F::(Ox (s.kill p) y++c.L)):=k w (lG w F) F rfl rfl rfl (Nat.le_refl _) (fun _ _ _=>rfl) ⟨rfl,fun _ _=>rfl⟩ hn (fun b hx=>⟨.inl hx,(hb b hx).2⟩)
 have An:=A.nt
 rw [List.map_append,List.nodup_append]at An
 have hp:p∈s.tree.map (·.1):=eP.2 ⟨rows,hl⟩
 have hpf:p∉s.dK.map (·.1):=fun h=>An.2.2 p hp p h rfl
 have kk:∀n,n∈(drop1 p s.tree++(p,rows)::s.dK).map (·.1)↔n∈(s.tree++s.dK).map (·.1):=by
  intro n
  rw [List.map_append,List.map_append,List.mem_append,List.mem_append,List.map_cons,List.mem_cons,Km]
  constructor
  ·rintro (h|h|h)
   ·exact .inl h.1
   ·subst h;exact .inl hp
   ·exact .inr h
  ·rintro (h|h)
   ·by_cases e:n=p
    ·exact .inr (.inl e)
    ·exact .inl ⟨h,e⟩
   ·exact .inr (.inr h)
 have le:(aX c s y).le (aX c {s with tree:=drop1 p s.tree,dK:=(p,rows)::s.dK} {y with w0:=dR y.w0 p w,F:=dR y.F p F}):=by
  refine⟨fun _ _ h=>h,fun b o ⟨q,h1,h2,h3⟩=>?_,rfl,fun b h=>⟨h,rfl⟩,fun q h=>⟨(kk q).2 h,rfl⟩⟩
  have hq:q≠p:=fun e=>hpf (by rw [←e];exact h1)
  exact⟨q,List.mem_cons_of_mem _ h1,by show b∈dR y.F p F q;rw [fT _ _ hq];exact h2,by show(dR y.w0 p w q).heap[b]?=some o;rw [fT _ _ hq];exact h3⟩
 refine⟨{y with w0:=dR y.w0 p w,F:=dR y.F p F},A.defers,A.size,?_,fun t v e=>(A.env t v e).le le,fun b cs h=>(A.box b cs h).le le,fun q r h=>?_,A.nb,?_,A.fix⟩
 ·show St c.W w (dV y.bl y.T y.us s.box++(bX y.hd (drop1 p s.tree)++((lG (dR y.w0 p w p) (dR y.F p F p)::iD (dR y.w0 p w) (dR y.F p F) s.dK)++c.L)))
  rw [dS,dS,Qt hpf]
  rw [Iy]at S1
  have q:=(List.perm_middle (a:=lG w F) (l₁:=dV y.bl y.T y.us s.box++bX y.hd (drop1 p s.tree)) (l₂:=iD y.w0 y.F s.dK++c.L)).symm
  simp only [List.append_assoc,List.cons_append]at q⊢S1
  exact S1.perm q
 ·show kI (dR y.w0 p w q) _ (y.hd q) (dR y.F p F q)
  rcases List.mem_cons.1 h with h|h
  ·injection h with h1 h2;subst h1;subst h2
   rw [dS,dS];exact o
  ·have hq:q≠p:=fun e=>hpf (by rw [←e];exact List.mem_map.2 ⟨_,h,rfl⟩)
   rw [fT _ _ hq,fT _ _ hq];exact A.dK q r h
 ·show((drop1 p s.tree++(p,rows)::s.dK).map (·.1)).Nodup
  rw [List.map_append,List.nodup_append]
  refine⟨Dk An.1,List.nodup_cons.2 ⟨hpf,An.2.1⟩,fun x hx z hz e=>?_⟩
  subst e
  have hx:=Km.1 hx
  rcases List.mem_cons.1 hz with h|h
  ·exact hx.2 h
  ·exact An.2.2 x hx.1 x h rfl
theorem I5 {c:Ctx}{s s':S}{p:Nat}{a:Act}{w:World}(h1:zR s p (look p s.tree)=some s')(g:Good c s a w):Good c s' a w:=by
 obtain⟨y,A⟩:=g
 unfold zR at h1
 split at h1
 ·rename_i rows e
  injection h1 with h1;subst h1
  exact A.freeze e
 ·injection h1 with h1;subst h1;exact⟨y,A⟩
theorem Ei {c:Ctx}:∀{cs:List V} {s s':S} {a:Act} {w:World},ko s cs=some s'→Good c s a w→Good c s' a w
 | [],s,s',a,w,h,g=>by simp only [ko]at h;injection h with h;subst h;exact g
 | v::cs,s,s',a,w,h,g=>by
  cases v<;>simp only [ko]at h
  case own p=>
   obtain⟨s1,h1,h⟩:=aj h
   exact Ei h (I5 h1 g)
  all_goals exact Ei h g
theorem Hu {c:Ctx}:∀{ts:List Nat} {s s':S} {a:Act} {w:World},uK s ts=some s'→Good c s a w→Good c s' a w
 | [],s,s',a,w,h,g=>by simp only [uK]at h;injection h with h;subst h;exact g
 | t::ts,s,s',a,w,h,g=>by
  simp only [uK]at h
  obtain⟨s1,h1,h⟩:=aj h
  refine Hu h ?_
  unfold S.freeze at h1
  obtain⟨v,h2,h1⟩:=aj h1
  unfold MK at h1
  split at h1
  ·exact I5 h1 g
  ·obtain⟨cs,h3,h1⟩:=aj h1
   exact Ei h1 g
  ·injection h1 with h1;subst h1;exact g
theorem ZO {c:Ctx}{o:Option (List Nat)}{s s':S}(h:VJ s o=some s'){a:Act}{w:World}(g:Good c s a w):Good c s' a w:=by
 unfold VJ at h
 split at h
 ·exact Hu h g
 ·injection h with h;subst h;exact g
mutual
theorem ZP:∀(l:List Nat) (v:V),(∀x∈l,x∈uJ l v)∧(∀p,aP p v=true→p∈uJ l v)∧(l.Nodup→(uJ l v).Nodup)
 | l, .own p=>by
  simp only [uJ]
  by_cases h:l.contains p=true
  ·rw [if_pos h]
   exact⟨fun x hx=>hx,fun q hq=>by simp [aP]at hq;subst hq;simpa using h,fun n=>n⟩
  ·rw [if_neg h]
   have hp:p∉l:=by simpa using h
   exact⟨fun x hx=>List.mem_append_left _ hx,fun q hq=>by simp [aP]at hq;subst hq;simp,fun n=>List.nodup_append.2 ⟨n,by simp,fun x hx z hz e=>by simp at hz;rw [e,hz]at hx;exact hp hx⟩⟩
 | l, .inn p _ _ _=>by
  simp only [uJ]
  by_cases h:l.contains p=true
  ·rw [if_pos h]
   exact⟨fun x hx=>hx,fun q hq=>by simp [aP]at hq;subst hq;simpa using h,fun n=>n⟩
  ·rw [if_neg h]
   have hp:p∉l:=by simpa using h
   exact⟨fun x hx=>List.mem_append_left _ hx,fun q hq=>by simp [aP]at hq;subst hq;simp,fun n=>List.nodup_append.2 ⟨n,by simp,fun x hx z hz e=>by simp at hz;rw [e,hz]at hx;exact hp hx⟩⟩
 | l, .pe b _ _ _=>by simp only [uJ,aP];exact ZP l b
 | l, .agg cs=>by simp only [uJ,aP];exact EJ l cs
 | l, .fU cs=>by simp only [uJ,aP];exact EJ l cs
 | l, .fn _ cs=>by simp only [uJ,aP];exact EJ l cs
 | l, .v _=>by simp only [uJ,aP];exact⟨fun x hx=>hx,(fun q hq=>by cases hq),fun n=>n⟩
 | l, .nil=>by simp only [uJ,aP];exact⟨fun x hx=>hx,(fun q hq=>by cases hq),fun n=>n⟩
 | l, .aL _ _=>by simp only [uJ,aP];exact⟨fun x hx=>hx,(fun q hq=>by cases hq),fun n=>n⟩
 | l, .mp _=>by simp only [uJ,aP];exact⟨fun x hx=>hx,(fun q hq=>by cases hq),fun n=>n⟩
 | l, .fz _=>by simp only [uJ,aP];exact⟨fun x hx=>hx,(fun q hq=>by cases hq),fun n=>n⟩
 | l, .ref _ _=>by simp only [uJ,aP];exact⟨fun x hx=>hx,(fun q hq=>by cases hq),fun n=>n⟩
 | l, .dead=>by simp only [uJ,aP];exact⟨fun x hx=>hx,(fun q hq=>by cases hq),fun n=>n⟩
theorem EJ:∀(l:List Nat) (vs:List V),(∀x∈l,x∈Ba l vs)∧(∀p,aP.any p vs=true→p∈Ba l vs)∧(l.Nodup→(Ba l vs).Nodup)
 | l,[]=>by simp only [Ba,aP.any];exact⟨fun x hx=>hx,(fun q hq=>by cases hq),fun n=>n⟩
 | l,v::vs=>by
  obtain⟨a1,a2,a3⟩:=ZP l v
  obtain⟨b1,b2,b3⟩:=EJ (uJ l v) vs
  simp only [Ba,aP.any]
  refine⟨fun x hx=>b1 x (a1 x hx),fun p hp=>?_,fun n=>b3 (a3 n)⟩
  rw [Bool.or_eq_true]at hp
  exact hp.elim (fun h=>b1 p (a2 p h)) (b2 p)
end
end Go.Proofs.YtlpdjhiggpblcaaGreat
namespace Go.Proofs.YtlpdjhiggpblcaaGreat
open Go.RowKit
set_option linter.unusedSimpArgs false
set_option linter.unusedVariables false
mutual
theorem RV.refs {ρ ρ':Rel}(hK:ρ'.K=ρ.K)(hZ:ρ'.Z=ρ.Z)(hs:ρ'.src=ρ.src)(ht:∀p,ρ.Lt p→ρ'.Lt p∧ρ'.hd p=ρ.hd p){bs:List Nat}(hb:∀b∈bs,ρ.Lb b→ρ'.Lb b∧ρ'.bl b=ρ.bl b):∀{v:V} {u:Value},iV bs v=true→RV ρ v u→RV ρ' v u
 | .v _,_,_,h=>h
 | .nil,_,_,h=>h
 | .aL _ _,_,_,h=>⟨by rw [hK];exact h.1,fun j i=>by rw [hs];exact h.2 j i⟩
 | .own p,_,_,h=>⟨(ht p h.1).1,by rw [(ht p h.1).2];exact h.2⟩
 | .inn p _ _ _,_,_,h=>⟨(ht p h.1).1,by rw [(ht p h.1).2];exact h.2⟩
 | .fz _,_,_,h=>sK.mono h (by rw [hZ];exact fun _ _ h=>h)
 | .mp _,_,_,h=>RX.mono h (by rw [hZ];exact fun _ _ h=>h)
 | .ref b _,_,r,h=>by
  have:=hb b (by simpa [iV] using r) h.1
  exact⟨this.1,by rw [this.2];exact h.2⟩
 | .pe _ _ _ _,_,r,h=>by obtain⟨ub,h1,h2⟩:=h;exact⟨ub,RV.refs hK hZ hs ht hb (by simpa [iV] using r) h1,h2⟩
 | .agg _,_,r,h=>by obtain⟨us,h1,h2⟩:=h;exact⟨us,h1,jE.refs hK hZ hs ht hb (by simpa [iV] using r) h2⟩
 | .fU _,_,r,h=>by obtain⟨us,h1,h2⟩:=h;exact⟨us,h1,jE.refs hK hZ hs ht hb (by simpa [iV] using r) h2⟩
 | .fn _ _,_,r,h=>by obtain⟨us,h1,h2⟩:=h;exact⟨us,h1,jE.refs hK hZ hs ht hb (by simpa [iV] using r) h2⟩
 | .dead,_,_,_=>trivial
theorem jE.refs {ρ ρ':Rel}(hK:ρ'.K=ρ.K)(hZ:ρ'.Z=ρ.Z)(hs:ρ'.src=ρ.src)(ht:∀p,ρ.Lt p→ρ'.Lt p∧ρ'.hd p=ρ.hd p){bs:List Nat}(hb:∀b∈bs,ρ.Lb b→ρ'.Lb b∧ρ'.bl b=ρ.bl b):∀{vs:List V} {us:List Value},iV.go bs vs=true→jE ρ vs us→jE ρ' vs us
 | [],_,_,h=>h
 | _::_,_,r,h=>by
  simp [iV.go]at r
  obtain⟨u,q,h1,h2,h3⟩:=h
  exact⟨u,q,h1,RV.refs hK hZ hs ht hb r.1 h2,jE.refs hK hZ hs ht hb r.2 h3⟩
end
mutual
theorem RV.ren {ρ ρ':Rel}(hK:ρ'.K=ρ.K)(hZ:ρ'.Z=ρ.Z)(hs:ρ'.src=ρ.src)(hb:∀b,ρ.Lb b→ρ'.Lb b∧ρ'.bl b=ρ.bl b){mp:List (Nat×Nat)}:∀{v:V} {u:Value},(∀p,aP p v=true→ρ.Lt p→ρ'.Lt (YtlpdjhiggpblcaaGreat.ren mp p)∧ρ'.hd (YtlpdjhiggpblcaaGreat.ren mp p)=ρ.hd p)→RV ρ v u→RV ρ' (Ck mp v) u
 | .v _,_,_,h=>h
 | .nil,_,_,h=>h
 | .aL _ _,_,_,h=>⟨by rw [hK];exact h.1,fun j i=>by rw [hs];exact h.2 j i⟩
 | .own p,_,m,h=>by
  have:=m p (by simp [aP]) h.1
  exact⟨this.1,by rw [this.2];exact h.2⟩
 | .inn p _ _ _,_,m,h=>by
  have:=m p (by simp [aP]) h.1
  exact⟨this.1,by rw [this.2];exact h.2⟩
 | .fz _,_,_,h=>sK.mono h (by rw [hZ];exact fun _ _ h=>h)
 | .mp _,_,_,h=>RX.mono h (by rw [hZ];exact fun _ _ h=>h)
 | .ref b _,_,_,h=>⟨(hb b h.1).1,by rw [(hb b h.1).2];exact h.2⟩
 | .pe _ _ _ _,_,m,h=>by obtain⟨ub,h1,h2⟩:=h;exact⟨ub,RV.ren hK hZ hs hb (fun p hp=>m p (by simpa [aP] using hp)) h1,h2⟩
 | .agg _,_,m,h=>by obtain⟨us,h1,h2⟩:=h;exact⟨us,h1,jE.ren hK hZ hs hb (fun p hp=>m p (by simpa [aP] using hp)) h2⟩
 | .fU _,_,m,h=>by obtain⟨us,h1,h2⟩:=h;exact⟨us,h1,jE.ren hK hZ hs hb (fun p hp=>m p (by simpa [aP] using hp)) h2⟩
 | .fn _ _,_,m,h=>by obtain⟨us,h1,h2⟩:=h;exact⟨us,h1,jE.ren hK hZ hs hb (fun p hp=>m p (by simpa [aP] using hp)) h2⟩
 | .dead,_,_,_=>trivial
theorem jE.ren {ρ ρ':Rel}(hK:ρ'.K=ρ.K)(hZ:ρ'.Z=ρ.Z)(hs:ρ'.src=ρ.src)(hb:∀b,ρ.Lb b→ρ'.Lb b∧ρ'.bl b=ρ.bl b){mp:List (Nat×Nat)}:∀{vs:List V} {us:List Value},(∀p,aP.any p vs=true→ρ.Lt p→ρ'.Lt (YtlpdjhiggpblcaaGreat.ren mp p)∧ρ'.hd (YtlpdjhiggpblcaaGreat.ren mp p)=ρ.hd p)→jE ρ vs us→jE ρ' (HY mp vs) us
 | [],_,_,h=>h
 | _::_,_,m,h=>by
  obtain⟨u,q,h1,h2,h3⟩:=h
  exact⟨u,q,h1,RV.ren hK hZ hs hb (fun p hp=>m p (by simp [aP.any,hp])) h2,jE.ren hK hZ hs hb (fun p hp=>m p (by simp [aP.any,hp])) h3⟩
end
section
variable {c:Ctx} {s:S} {y:Lay} {a:Act} {w:World}
theorem At.restrict (A:At c s y a w){env:List (Nat×V)}{box:List (Nat×List V)}{bs:List Nat}(hE:∀t v,look t env=some v→look t s.env=some v∧iV bs v=true)(hB:∀b cs,(b,cs)∈box→(b,cs)∈s.box∧iV.go bs cs=true)(hk:box.map (·.1)=bs)(nb:bs.Nodup):At c {s with env:=env,box:=box} y a w:=by
 have hsub:∀b∈box.map (·.1),b∈s.box.map (·.1):=by
  intro b hb
  obtain⟨x,hx,rfl⟩:=List.mem_map.1 hb
  exact List.mem_map.2 ⟨x,(hB x.1 x.2 hx).1,rfl⟩
 have hb:∀b∈bs,(aX c s y).Lb b→(aX c {s with env:=env,box:=box} y).Lb b∧(aX c {s with env:=env,box:=box} y).bl b=(aX c s y).bl b:=fun b hb _=>⟨by show b∈box.map (·.1);rw [hk];exact hb,rfl⟩
 refine⟨A.defers,A.size,?_,fun t v e=>RV.refs (ρ:=aX c s y) (ρ':=aX c {s with env:=env,box:=box} y) rfl rfl rfl (fun p h=>⟨h,rfl⟩) hb (hE t v e).2 (A.env t v (hE t v e).1),fun b cs h=>jE.refs (ρ:=aX c s y) (ρ':=aX c {s with env:=env,box:=box} y) rfl rfl rfl (fun p h=>⟨h,rfl⟩) hb (hB b cs h).2 (A.box b cs (hB b cs h).1),A.dK,by show(box.map (·.1)).Nodup;rw [hk];exact nb,A.nt,A.fix⟩
 have S0:=A.st
 rw [jU]at S0
 show St c.W w (dV y.bl y.T y.us box++(bX y.hd s.tree++(iD y.w0 y.F s.dK++c.L)))
 rw [jU]
 have p:=(vQ A.nb (by rw [hk];exact nb) hsub).map fun b=>rowP (y.bl b) (y.T b) (y.us b)
 rw [List.map_append]at p
 have q:=S0.perm (List.Perm.append_right _ (p.trans List.perm_append_comm))
 rw [List.append_assoc]at q
 exact St.sO q
theorem At.aod (A:At c s y a w){ps:List Nat}(np:ps.Nodup)(hf:∀k∈ps,k∉(s.tree++s.dK).map (·.1))(hb:∀k∈ps,2*bg≤k){env:List (Nat×V)}{box:List (Nat×List V)}(hE:∀t v,look t env=some v→look t s.env=some v∨(look t s.env=some .nil∧∃k∈ps,v= .own k))
  (hk:box.map (·.1)=s.box.map (·.1)) (hB:∀b cs,(b,cs)∈box→∃cs0,(b,cs0)∈s.box∧cs.length=cs0.length∧∀(i:Nat) (v:V),cs[i]?=some v→cs0[i]?=some v∨(cs0[i]?=some .nil∧∃k∈ps,v= .own k)):
  Good c {env:=env,box:=box,tree:=s.tree++ps.map (fun p=>(p,[])),dK:=s.dK} a w:=by
 classical
 let y2:Lay:= {y with hd:=fun n=>if n∈ps then rY else y.hd n}
 have keys:∀n,n∈((s.tree++ps.map (fun p=>(p,([]:List (List D)))))++s.dK).map (·.1)↔n∈(s.tree++s.dK).map (·.1)∨n∈ps:=by
  intro n
  simp only [List.map_append,List.mem_append,List.map_map]
  have:(ps.map ((fun x:Nat×List (List D)=>x.1) ∘ fun p=>(p,[])))=ps:=by simp [Function.comp_def]
  rw [this]
  constructor
  ·rintro ((h|h)|h)
   ·exact .inl (.inl h)
   ·exact .inr h
   ·exact .inl (.inr h)
  ·rintro ((h|h)|h)
   ·exact .inl (.inl h)
   ·exact .inr h
   ·exact .inl (.inr h)
 have le:(aX c s y).le (aX c {env:=env,box:=box,tree:=s.tree++ps.map (fun p=>(p,[])),dK:=s.dK} y2):=
  ⟨fun _ _ h=>h,fun _ _ h=>h,rfl,fun b h=>⟨by show b∈box.map (·.1);rw [hk];exact h,rfl⟩,fun p h=>⟨(keys p).2 (.inl h),if_neg fun hp=>hf p hp h⟩⟩
 have hnew:∀k∈ps,RV (aX c {env:=env,box:=box,tree:=s.tree++ps.map (fun p=>(p,[])),dK:=s.dK} y2) (.own k) (.slice none 0 0):=fun k hk=>⟨(keys k).2 (.inr hk),by show _=Hd.v (if k∈ps then rY else y.hd k);rw [if_pos hk];rfl⟩
 have An:=A.nt
 rw [List.map_append,List.nodup_append]at An
 refine⟨y2,A.defers,A.size,?_,fun t v e=>?_,fun b cs h=>?_,fun p rows hp=>?_,by show(box.map (·.1)).Nodup;rw [hk];exact A.nb,?_,A.fix.1,fun i h1 h2=>⟨(A.fix.2 i h1 h2).1,(show(if i∈ps then rY else y.hd i)=y.hd i from if_neg fun hp=>by have:=hb i hp;omega).trans (A.fix.2 i h1 h2).2⟩⟩
 ·show St c.W w (dV y.bl y.T y.us box++(bX y2.hd (s.tree++ps.map (fun p=>(p,[])))++(iD y.w0 y.F s.dK++c.L)))
  have e1:dV y.bl y.T y.us box=dV y.bl y.T y.us s.box:=by rw [jU,jU,hk]
  have e2:bX y2.hd (s.tree++ps.map (fun p=>(p,[])))=bX y.hd s.tree++ps.map fun _=>gK rY []:=by
   unfold bX
   rw [List.map_append,List.map_map]
   congr 1
   ·refine List.map_congr_left fun x hx=>?_
    have:¬x.1∈ps:=fun hp=>hf x.1 hp (List.mem_map.2 ⟨x,List.mem_append_left _ hx,rfl⟩)
    show gK (if x.1∈ps then _ else y.hd x.1) x.2=_
    rw [if_neg this]
   ·refine List.map_congr_left fun p hp=>?_
    show gK (if p∈ps then _ else _) []=_
    rw [if_pos hp]
  have more:∀(l:List Nat) (L:List Pc),St c.W w L→St c.W w (l.map (fun _=>gK rY [])++L):=by
   intro l;induction l with
   | nil=>intro L S;exact S
   | cons x l ih=>intro L S;exact(ih L S).more (Ext.refl w) (h:=gK rY []) (F:= []) (kI.nil w) List.nodup_nil (fun b hb=>by cases hb)
  have S1:=more ps _ A.st
  rw [e1,e2]
  refine S1.perm ?_
  have q:=ZM (dV y.bl y.T y.us s.box) [] (bX y.hd s.tree) (ps.map fun _=>gK rY []) (iD y.w0 y.F s.dK++c.L)
  simp only [List.append_nil,List.nil_append,List.append_assoc]at q⊢
  refine List.Perm.trans ?_ q.symm
  rw [←List.append_assoc,←List.append_assoc,←List.append_assoc (dV y.bl y.T y.us s.box) (bX y.hd s.tree),←List.append_assoc (dV y.bl y.T y.us s.box++bX y.hd s.tree)]
  refine List.Perm.append_right _ ?_
  rw [List.append_assoc]
  exact List.perm_append_comm
 ·rcases hE t v e with h|⟨h,k,hk,rfl⟩
  ·exact(A.env t v h).le le
  ·have h0:=A.env t .nil h
   rw [show a.tmps.getD t undef=_ from h0];exact hnew k hk
 ·obtain⟨cs0,h1,h2,h3⟩:=hB b cs h
  have h0:=A.box b cs0 h1
  refine jE.of (by rw [show (y2.us b)=y.us b from rfl,h0.len,h2]) fun i v u e1 e2=>?_
  have e2:(y.us b).toList[i]?=some u:=e2
  rcases h3 i v e1 with h|⟨h,k,hk,rfl⟩
  ·obtain⟨u',g1,g2⟩:=h0.get h
   rw [e2]at g1;injection g1 with g1;subst g1
   exact g2.le le
  ·obtain⟨u',g1,g2⟩:=h0.get h
   rw [e2]at g1;injection g1 with g1;subst g1
   rw [show u=_ from g2];exact hnew k hk
 ·show kI (y.w0 p) _ (if p∈ps then _ else y.hd p) (y.F p)
  rw [if_neg fun hx=>hf p hx (by rw [List.map_append,List.mem_append];exact .inr (List.mem_map.2 ⟨_,hp,rfl⟩))]
  exact A.dK p rows hp
 ·show(((s.tree++ps.map (fun p=>(p,([]:List (List D)))))++s.dK).map (·.1)).Nodup
  have e:(ps.map ((fun x:Nat×List (List D)=>x.1) ∘ fun p=>(p,[])))=ps:=by simp [Function.comp_def]
  rw [List.map_append,List.map_append,List.map_map,e,List.nodup_append,List.nodup_append]
  refine⟨⟨An.1,np,fun x hx z hz e=>?_⟩,An.2.1,fun x hx z hz e=>?_⟩
  ·subst e;exact hf x hz (by rw [List.map_append,List.mem_append];exact .inl hx)
  ·subst e
   rcases List.mem_append.1 hx with hx|hx
   ·exact An.2.2 x hx x hz rfl
   ·exact hf x hx (by rw [List.map_append,List.mem_append];exact .inr hz)
end
end Go.Proofs.YtlpdjhiggpblcaaGreat
namespace Go.Proofs.YtlpdjhiggpblcaaGreat
set_option linter.unusedSectionVars false
set_option linter.unusedSimpArgs false
set_option linter.unusedVariables false
open Go.RowKit
theorem ae2 {bs:List Nat}:∀{cs:List V},cs.all (iV bs)=true→iV.go bs cs=true
 | [],_=>rfl
 | c::r,h=>by
  simp only [List.all_cons,Bool.and_eq_true]at h
  simp only [iV.go,h.1,ae2 h.2,Bool.and_self]
theorem ae3:∀{l:List Nat} {a:Nat},desc (a::l)=true→∀b∈l,b<a
 | [],a,_,b,hb=>by cases hb
 | x::r,a,h,b,hb=>by
  simp only [desc,Bool.and_eq_true,decide_eq_true_eq]at h
  rcases List.mem_cons.1 hb with hb|hb
  ·subst hb;exact h.1
  ·exact Nat.lt_trans (ae3 h.2 b hb) h.1
theorem SI:∀{l:List Nat},desc l=true→l.Nodup
 | [],_=>List.nodup_nil
 | a::r,h=>by
  refine List.nodup_cons.2 ⟨fun hx=>Nat.lt_irrefl _ (ae3 h a hx),?_⟩
  cases r with
  | nil=>exact List.nodup_nil
  | cons b r=>simp only [desc,Bool.and_eq_true]at h;exact SI h.2
theorem O5 {α:Type}{l:List (Nat×α)}:∀{ts:List Nat} {r:List (Nat×α)},bK (fun t=>bnd (look t l) fun v=>some (t,v)) ts=some r→r.map (·.1)=ts∧∀t v,(t,v)∈r→look t l=some v
 | [],r,h=>by simp only [bK]at h;injection h with h;subst h;exact⟨rfl,fun t v h=>by cases h⟩
 | t::ts,r,h=>by
  simp only [bK]at h
  obtain⟨x,h1,h⟩:=aj h
  obtain⟨z,h2,h⟩:=aj h
  obtain⟨v,h3,h1⟩:=aj h1
  injection h with h;subst h
  injection h1 with h1;subst h1
  obtain⟨k1,k2⟩:=O5 h2
  refine⟨by rw [List.map_cons,k1],fun t' v' hm=>?_⟩
  rcases List.mem_cons.1 hm with hm|hm
  ·injection hm with e1 e2;subst e1;subst e2;exact h3
  ·exact k2 t' v' hm
theorem acJ (n t:Nat)(r:List (Nat×V)):eH n ((t, .nil)::r)=((t, .own n)::(eH (n+1) r).1,n::(eH (n+1) r).2):=rfl
theorem XM {n t:Nat}{v:V}{r:List (Nat×V)}(h:v≠ .nil):eH n ((t,v)::r)=((t,v)::(eH n r).1,(eH n r).2):=by
 cases v<;>first|rfl|exact absurd rfl h
theorem I6:∀(l:List (Nat×V)) (n:Nat),(eH n l).2=List.range' n (eH n l).2.length∧∀t v,look t (eH n l).1=some v→look t l=some v∨(look t l=some .nil∧∃k∈(eH n l).2,v= .own k)
 | [],n=>⟨rfl,fun t v h=>by cases h⟩
 | (t0,v0)::r,n=>by
  by_cases hv:v0= .nil
  ·subst hv
   obtain⟨k1,k2⟩:=I6 r (n+1)
   rw [acJ]
   refine⟨by simp only [List.length_cons,List.range'_succ];rw [←k1],fun t v h=>?_⟩
   simp only [look]at h⊢
   by_cases e:t=t0
   ·rw [if_pos e]at h⊢;injection h with h;exact .inr ⟨rfl,n,List.mem_cons_self,h.symm⟩
   ·rw [if_neg e]at h⊢
    rcases k2 t v h with h|⟨h,k,hk,hv⟩
    ·exact .inl h
    ·exact .inr ⟨h,k,List.mem_cons_of_mem _ hk,hv⟩
  ·obtain⟨k1,k2⟩:=I6 r n
   rw [XM hv]
   refine⟨k1,fun t v h=>?_⟩
   simp only [look]at h⊢
   by_cases e:t=t0
   ·rw [if_pos e]at h⊢;exact .inl h
   ·rw [if_neg e]at h⊢;exact k2 t v h
theorem ZQ (n:Nat)(r:List V):cu n (.nil::r)=(.own n::(cu (n+1) r).1,n::(cu (n+1) r).2):=rfl
theorem UY {n:Nat}{v:V}{r:List V}(h:v≠ .nil):cu n (v::r)=(v::(cu n r).1,(cu n r).2):=by
 cases v<;>first|rfl|exact absurd rfl h
theorem F6:∀(l:List V) (n:Nat),(cu n l).2=List.range' n (cu n l).2.length∧(cu n l).1.length=l.length∧∀(i:Nat) (v:V),(cu n l).1[i]?=some v→l[i]?=some v∨(l[i]?=some .nil∧∃k∈(cu n l).2,v= .own k)
 | [],n=>⟨rfl,rfl,fun i v h=>by simp [cu]at h⟩
 | v0::r,n=>by
  by_cases hv:v0= .nil
  ·subst hv
   obtain⟨k1,k3,k2⟩:=F6 r (n+1)
   rw [ZQ]
   refine⟨by simp only [List.length_cons,List.range'_succ];rw [←k1],by simp only [List.length_cons,k3],fun i v h=>?_⟩
   cases i with
   | zero=>simp at h;exact .inr ⟨rfl,n,List.mem_cons_self,h.symm⟩
   | succ i=>
    rcases k2 i v (by simpa using h)with h|⟨h,k,hk,hv⟩
    ·exact .inl (by simpa using h)
    ·exact .inr ⟨by simpa using h,k,List.mem_cons_of_mem _ hk,hv⟩
  ·obtain⟨k1,k3,k2⟩:=F6 r n
   rw [UY hv]
   refine⟨k1,by simp only [List.length_cons,k3],fun i v h=>?_⟩
   cases i with
   | zero=>exact .inl (by simpa using h)
   | succ i=>simpa using k2 i v (by simpa using h)
theorem XO (n b:Nat)(cs:List V)(r:List (Nat×List V)):mQ n ((b,cs)::r)=((b,(cu n cs).1)::(mQ (n+(cu n cs).2.length) r).1,(cu n cs).2++(mQ (n+(cu n cs).2.length) r).2):=rfl
theorem Nl:∀(l:List (Nat×List V)) (n:Nat),(mQ n l).2=List.range' n (mQ n l).2.length∧(mQ n l).1.map (·.1)=l.map (·.1)∧∀b cs,(b,cs)∈(mQ n l).1→∃cs0,(b,cs0)∈l∧cs.length=cs0.length∧∀(i:Nat) (v:V),cs[i]?=some v→cs0[i]?=some v∨(cs0[i]?=some .nil∧∃k∈(mQ n l).2,v= .own k)
 | [],n=>⟨rfl,rfl,fun b cs h=>by cases h⟩
 | (b0,cs0)::r,n=>by
  rw [XO]
  obtain⟨k1,k3,k2⟩:=F6 cs0 n
  obtain⟨m1,m3,m2⟩:=Nl r (n+(cu n cs0).2.length)
  refine⟨?_,by simp only [List.map_cons,m3],fun b cs h=>?_⟩
  ·show(cu n cs0).2++(mQ (n+(cu n cs0).2.length) r).2=List.range' n ((cu n cs0).2++(mQ (n+(cu n cs0).2.length) r).2).length
   rw [List.length_append,←List.range'_append_1,←k1,←m1]
  ·rcases List.mem_cons.1 h with h|h
   ·injection h with e1 e2;subst e1;subst e2
    refine⟨cs0,List.mem_cons_self,k3,fun i v e=>(k2 i v e).imp _root_.id fun⟨h1,k,h2,h3⟩=>⟨h1,k,List.mem_append_left _ h2,h3⟩⟩
   ·obtain⟨cs1,h1,h2,h3⟩:=m2 b cs h
    exact⟨cs1,List.mem_cons_of_mem _ h1,h2,fun i v e=>(h3 i v e).imp _root_.id fun⟨h1,k,h2,h3⟩=>⟨h1,k,List.mem_append_right _ h2,h3⟩⟩
theorem F7 {tree:List (Nat×List (List D))}:∀{l:List Nat} {i:Nat},(∀x∈metIn tree l i,(x.2.1=x.1∧1000000000≤x.1∧x.1<2000000000)∨2000000000+i≤x.2.1)∧(∀x∈metIn tree l i,look x.1 tree=some x.2.2∧x.1∈l)∧(∀p∈l,p∈tree.map (·.1)→p∈(metIn tree l i).map (·.1))∧(l.Nodup→((metIn tree l i).map (·.1)).Nodup∧((metIn tree l i).map (·.2.1)).Nodup)
 | [],i=>⟨(fun x h=>by cases h),(fun x h=>by cases h),(fun p h=>by cases h),fun _=>⟨List.nodup_nil,List.nodup_nil⟩⟩
 | p::r,i=>by
  simp only [metIn]
  cases e:look p tree with
  | some rows=>
   simp only [OD]
   by_cases hp:1000000000≤p∧p<2000000000
   ·obtain⟨k1,k2,k3,k4⟩:=F7 (tree:=tree) (l:=r) (i:=i)
    rw [if_pos hp]
    refine⟨fun x hx=>?_,fun x hx=>?_,fun q hq hin=>?_,fun n=>?_⟩
    ·rcases List.mem_cons.1 hx with hx|hx
     ·subst hx;exact .inl ⟨rfl,hp⟩
     ·exact k1 x hx
    ·rcases List.mem_cons.1 hx with hx|hx
     ·subst hx;exact⟨e,List.mem_cons_self⟩
     ·exact⟨(k2 x hx).1,List.mem_cons_of_mem _ (k2 x hx).2⟩
    ·rw [List.map_cons]
     rcases List.mem_cons.1 hq with hq|hq
     ·subst hq;exact List.mem_cons_self
     ·exact List.mem_cons_of_mem _ (k3 q hq hin)
    ·have n2:=List.nodup_cons.1 n
     rw [List.map_cons,List.map_cons]
     refine⟨List.nodup_cons.2 ⟨fun hx=>?_,(k4 n2.2).1⟩,List.nodup_cons.2 ⟨fun hx=>?_,(k4 n2.2).2⟩⟩
     ·obtain⟨x,hx,e2⟩:=List.mem_map.1 hx
      have:=(k2 x hx).2
      rw [e2]at this;exact n2.1 this
     ·obtain⟨x,hx,e2⟩:=List.mem_map.1 hx
      have e2:x.2.1=p:=e2
      rcases k1 x hx with h|h
      ·have:=(k2 x hx).2
       rw [←h.1,e2]at this;exact n2.1 this
      ·omega
   ·obtain⟨k1,k2,k3,k4⟩:=F7 (tree:=tree) (l:=r) (i:=i+1)
    rw [if_neg hp]
    refine⟨fun x hx=>?_,fun x hx=>?_,fun q hq hin=>?_,fun n=>?_⟩
    ·rcases List.mem_cons.1 hx with hx|hx
     ·subst hx;exact .inr (Nat.le_refl _)
     ·exact(k1 x hx).imp _root_.id fun h=>by omega
    ·rcases List.mem_cons.1 hx with hx|hx
     ·subst hx;exact⟨e,List.mem_cons_self⟩
     ·exact⟨(k2 x hx).1,List.mem_cons_of_mem _ (k2 x hx).2⟩
    ·rw [List.map_cons]
     rcases List.mem_cons.1 hq with hq|hq
     ·subst hq;exact List.mem_cons_self
     ·exact List.mem_cons_of_mem _ (k3 q hq hin)
    ·have n2:=List.nodup_cons.1 n
     rw [List.map_cons,List.map_cons]
     refine⟨List.nodup_cons.2 ⟨fun hx=>?_,(k4 n2.2).1⟩,List.nodup_cons.2 ⟨fun hx=>?_,(k4 n2.2).2⟩⟩
     ·obtain⟨x,hx,e2⟩:=List.mem_map.1 hx
      have:=(k2 x hx).2
      rw [e2]at this;exact n2.1 this
     ·obtain⟨x,hx,e2⟩:=List.mem_map.1 hx
      have e2:x.2.1=2000000000+i:=e2
      rcases k1 x hx with h|h<;>omega
  | none=>
   obtain⟨k1,k2,k3,k4⟩:=F7 (tree:=tree) (l:=r) (i:=i)
   simp only [OD]
   refine⟨k1,fun x hx=>⟨(k2 x hx).1,List.mem_cons_of_mem _ (k2 x hx).2⟩,fun q hq hin=>?_,fun n=>k4 (List.nodup_cons.1 n).2⟩
   rcases List.mem_cons.1 hq with hq|hq
   ·subst hq;obtain⟨x,hx⟩:=eP.1 hin;rw [e]at hx;cases hx
   ·exact k3 q hq hin
section
variable {c:Ctx} {s:S} {y:Lay} {a:Act} {w:World}
theorem At.rename (A:At c s y a w){m:List (Nat×Nat×List (List D))}(h1:(m.map (·.2.1)).Nodup)(h2:∀x∈m,look x.1 s.tree=some x.2.2)(h3:(m.map (·.1)).Nodup)(h4:∀x∈m,x.2.1∉s.dK.map (·.1))(h5:∀x∈m,2*bg≤x.2.1∨x.2.1=x.1)
  (hE:∀t v,look t s.env=some v→∀p,aP p v=true→p∈s.tree.map (·.1)→p∈m.map (·.1)) (hB:∀b cs,(b,cs)∈s.box→∀p,aP.any p cs=true→p∈s.tree.map (·.1)→p∈m.map (·.1)):Good c (S.K5 m s.env s.box s.dK) a w:=by
 let inv:List (Nat×Nat):=m.map fun x=>(x.2.1,x.1)
 let mp:List (Nat×Nat):=m.map fun x=>(x.1,x.2.1)
 have amK:inv.map (·.1)=m.map (·.2.1):=by show(m.map _).map _=_;rw [List.map_map];rfl
 have kmp:mp.map (·.1)=m.map (·.1):=by show(m.map _).map _=_;rw [List.map_map];rfl
 have linv:∀x∈m,look x.2.1 inv=some x.1:=fun x hx=>jY (by rw [amK];exact h1) (List.mem_map.2 ⟨x,hx,rfl⟩)
 have lmp:∀x∈m,look x.1 mp=some x.2.1:=fun x hx=>jY (by rw [kmp];exact h3) (List.mem_map.2 ⟨x,hx,rfl⟩)
 let y2:Lay:= {y with hd:=fun n=>match look n inv with|some p=>y.hd p|none=>y.hd n}
 have O1:∀x∈m,y2.hd x.2.1=y.hd x.1:=fun x hx=>by show(match look x.2.1 inv with|some p=>y.hd p|none=>y.hd x.2.1)=_;rw [linv x hx]
 have FX:∀n,n∉m.map (·.2.1)→y2.hd n=y.hd n:=fun n hn=>by
  show(match look n inv with|some p=>y.hd p|none=>y.hd n)=_
  cases e:look n inv with
  | none=>rfl
  | some p=>exact absurd (by rw [←amK];exact eP.2 ⟨p,e⟩) hn
 have XP:∀n,n∈s.dK.map (·.1)→n∉m.map (·.2.1):=fun n hn hx=>by
  obtain⟨x,hx7,rfl⟩:=List.mem_map.1 hx
  exact h4 x hx7 hn
 have An:=A.nt
 rw [List.map_append,List.nodup_append]at An
 have akT:((m.map (·.2)).reverse).map (·.1)=(m.map (·.2.1)).reverse:=by rw [List.map_reverse,List.map_map];rfl
 have ht:∀p,(p∈s.tree.map (·.1)→p∈m.map (·.1))→(aX c s y).Lt p→(aX c (S.K5 m s.env s.box s.dK) y2).Lt (ren mp p)∧(aX c (S.K5 m s.env s.box s.dK) y2).hd (ren mp p)=(aX c s y).hd p:=by
  intro p hp hin
  have hin:p∈(s.tree++s.dK).map (·.1):=hin
  rw [List.map_append,List.mem_append]at hin
  by_cases hm:p∈m.map (·.1)
  ·obtain⟨x,hx,rfl⟩:=List.mem_map.1 hm
   have e:ren mp x.1=x.2.1:=by unfold ren;rw [lmp x hx];rfl
   rw [e]
   refine⟨?_,O1 x hx⟩
   show x.2.1∈((m.map (·.2)).reverse++s.dK).map (·.1)
   rw [List.map_append,akT,List.mem_append,List.mem_reverse]
   exact .inl (List.mem_map.2 ⟨x,hx,rfl⟩)
  ·have e:ren mp p=p:=by
    unfold ren
    cases e:look p mp with
    | none=>rfl
    | some q=>exact absurd (by rw [←kmp];exact eP.2 ⟨q,e⟩) hm
   rw [e]
   have hf:p∈s.dK.map (·.1):=hin.resolve_left fun h=>hm (hp h)
   refine⟨?_,FX p (XP p hf)⟩
   show p∈((m.map (·.2)).reverse++s.dK).map (·.1)
   rw [List.map_append,List.mem_append];exact .inr hf
 have hb:∀b,(aX c s y).Lb b→(aX c (S.K5 m s.env s.box s.dK) y2).Lb b∧(aX c (S.K5 m s.env s.box s.dK) y2).bl b=(aX c s y).bl b:=fun b h=>⟨by
  show b∈(s.box.map fun x=>(x.1,HY mp x.2)).map (·.1)
  rw [List.map_map];exact h,rfl⟩
 have amL:(s.box.map fun x=>(x.1,HY mp x.2)).map (·.1)=s.box.map (·.1):=by rw [List.map_map];rfl
 refine⟨y2,A.defers,A.size,?_,fun t v e=>?_,fun b cs h=>?_,fun p rows hp=>?_,by show((s.box.map fun x=>(x.1,HY mp x.2)).map (·.1)).Nodup;rw [amL];exact A.nb,?_,A.fix.1,fun i g1 g2=>⟨(A.fix.2 i g1 g2).1,Eq.trans ?_ (A.fix.2 i g1 g2).2⟩⟩
 ·show St c.W w (dV y.bl y.T y.us (s.box.map fun x=>(x.1,HY mp x.2))++(bX y2.hd (m.map (·.2)).reverse++(iD y.w0 y.F s.dK++c.L)))
  rw [jU,amL,←jU]
  have e2:bX y2.hd (m.map (·.2)).reverse=((m.map (·.1)).map fun p=>gK (y.hd p) ((look p s.tree).getD [])).reverse:=by
   unfold bX
   rw [List.map_reverse,List.map_map,List.map_map]
   congr 1
   refine List.map_congr_left fun x hx=>?_
   simp only [Function.comp]
   rw [O1 x hx,h2 x hx];rfl
  rw [e2]
  have p:=(vQ An.1 h3 (fun q hq=>by obtain⟨x,hx,rfl⟩:=List.mem_map.1 hq;exact eP.2 ⟨_,h2 x hx⟩)).map fun p=>gK (y.hd p) ((look p s.tree).getD [])
  rw [←nL _ An.1,List.map_append]at p
  have S1:=A.st.perm (List.Perm.append_left _ (List.Perm.append_right _ (p.trans (List.Perm.append_right _ (List.reverse_perm _).symm))))
  have q:=ZM (dV y.bl y.T y.us s.box) [] ((m.map (·.1)).map fun p=>gK (y.hd p) ((look p s.tree).getD [])).reverse (((s.tree.map (·.1)).filter fun k=> !(m.map (·.1)).contains k).map fun p=>gK (y.hd p) ((look p s.tree).getD [])) (iD y.w0 y.F s.dK++c.L)
  simp only [List.append_nil,List.nil_append]at q
  have S2:=S1.perm q
  have q2:∀(X Y Z W:List Pc),(X++(Y++(Z++W))).Perm (Z++(X++(Y++W))):=by
   intro X Y Z W
   rw [←List.append_assoc X Y,←List.append_assoc X Y,←List.append_assoc (X++Y),←List.append_assoc Z]
   exact List.Perm.append_right _ List.perm_append_comm
  exact St.sO (S2.perm (q2 _ _ _ _))
 ·have e:look t (s.env.map fun x=>(x.1,Ck mp x.2))=some v:=e
  have:∀(l:List (Nat×V)),look t (l.map fun x=>(x.1,Ck mp x.2))=(look t l).map (Ck mp):=by
   intro l;induction l with
   | nil=>rfl
   | cons x l ih=>
    simp only [List.map_cons,look]
    by_cases ht:t=x.1
    ·rw [if_pos ht,if_pos ht];rfl
    ·rw [if_neg ht,if_neg ht];exact ih
  rw [this]at e
  obtain⟨v0,e1,rfl⟩:=Option.map_eq_some_iff.1 e
  exact RV.ren (ρ:=aX c s y) (ρ':=aX c (S.K5 m s.env s.box s.dK) y2) rfl rfl rfl hb (fun p hp hin=>ht p (hE t v0 e1 p hp) hin) (A.env t v0 e1)
 ·obtain⟨x,hx,e⟩:=List.mem_map.1 (show(b,cs)∈s.box.map fun x=>(x.1,HY mp x.2)from h)
  injection e with e1 e2;subst e1;subst e2
  exact jE.ren (ρ:=aX c s y) (ρ':=aX c (S.K5 m s.env s.box s.dK) y2) rfl rfl rfl hb (fun p hp hin=>ht p (hB x.1 x.2 hx p hp) hin) (A.box x.1 x.2 hx)
 ·have hp:(p,rows)∈s.dK:=hp
  have e:=FX p (XP p (List.mem_map.2 ⟨_,hp,rfl⟩))
  show kI (y.w0 p) _ (y2.hd p) (y.F p)
  rw [e];exact A.dK p rows hp
 ·show(((m.map (·.2)).reverse++s.dK).map (·.1)).Nodup
  rw [List.map_append,akT,List.nodup_append]
  refine⟨(List.reverse_perm _).nodup_iff.2 h1,An.2.1,fun x hx z hz e=>?_⟩
  subst e
  exact XP x hz (List.mem_reverse.1 hx)
 ·by_cases hx:i∈m.map (·.2.1)
  ·obtain⟨x,hx7,rfl⟩:=List.mem_map.1 hx
   rcases h5 x hx7 with h|h
   ·omega
   ·rw [O1 x hx7,h]
  ·exact FX i hx
theorem ajR {l:List (Nat×V)}{t:Nat}{v:V}(h:look t l=some v){p:Nat}(hp:aP p v=true):aP.any p (l.map (·.2))=true:=by
 induction l with
 | nil=>cases h
 | cons x l ih=>
  simp only [look]at h
  simp only [List.map_cons,aP.any,Bool.or_eq_true]
  split at h
  ·injection h with h;rw [h];exact .inl hp
  ·exact .inr (ih h)
theorem any_append {p:Nat}:∀{l r:List V},aP.any p (l++r)=(aP.any p l||aP.any p r)
 | [],r=>by simp [aP.any]
 | v::l,r=>by simp only [List.cons_append,aP.any,any_append,Bool.or_assoc]
theorem ajS {l:List (Nat×List V)}{b:Nat}{cs:List V}(h:(b,cs)∈l){p:Nat}(hp:aP.any p cs=true):aP.any p (l.flatMap (·.2))=true:=by
 induction l with
 | nil=>cases h
 | cons x l ih=>
  rw [List.flatMap_cons,any_append,Bool.or_eq_true]
  rcases List.mem_cons.1 h with h|h
  ·subst h;exact .inl hp
  ·exact .inr (ih h)
theorem acK {ts bs:List Nat}{s':S}(h:s.head ts bs=some s')(g:Good c s a w):Good c s' a w:=by
 unfold S.head at h
 obtain⟨env,h1,h⟩:=aj h
 obtain⟨box,h2,h⟩:=aj h
 obtain⟨h3,h⟩:=aB h
 injection h with h;subst h
 simp only [Bool.and_eq_true,decide_eq_true_eq]at h3
 obtain⟨⟨⟨⟨⟨⟨d1,d2⟩,d3⟩,d4⟩,d5⟩,d6⟩,d7⟩:=h3
 obtain⟨k1,k2⟩:=O5 h1
 obtain⟨m1,m2⟩:=O5 h2
 obtain⟨y,A⟩:=g
 have A1:At c {s with env:=env,box:=box} y a w:=A.restrict (bs:=bs) (fun t v e=>⟨k2 t v (fI e),List.all_eq_true.1 d3 _ (fI e)⟩) (fun b cs hb=>⟨fI (m2 b cs hb),ae2 (List.all_eq_true.1 d4 _ hb)⟩) m1 (SI d2)
 obtain⟨e1,e2⟩:=I6 env 3000000000
 obtain⟨f1,f3,f2⟩:=Nl box (3000000000+(eH 3000000000 env).2.length)
 generalize hE:eH 3000000000 env=E at*
 generalize hBx:mQ (3000000000+E.2.length) box=B at*
 have hps:E.2++B.2=List.range' 3000000000 (E.2.length+B.2.length):=by
  rw [←List.range'_append_1,←e1,←f1]
 have hge:∀k∈E.2++B.2,3000000000≤k:=fun k hk=>by rw [hps,List.mem_range'_1]at hk;exact hk.1
 have hlow:∀k,k∈(s.tree++s.dK).map (·.1)→k<3000000000:=by
  intro k hk
  rw [List.map_append,List.mem_append]at hk
  rcases hk with hk|hk
  ·obtain⟨x,hx,rfl⟩:=List.mem_map.1 hk
   have:=List.all_eq_true.1 d5 x hx
   simpa using this
  ·obtain⟨x,hx,rfl⟩:=List.mem_map.1 hk
   have:=List.all_eq_true.1 d6 x hx
   simp at this;omega
 have g2:Good c {env:=E.1,box:=B.1,tree:=s.tree++(E.2++B.2).map (fun p=>(p,[])),dK:=s.dK} a w:=
  A1.aod (ps:=E.2++B.2) (by rw [hps];exact List.nodup_range') (fun k hk hin=>by have:=hge k hk;have:=hlow k hin;omega) (fun k hk=>by have:=hge k hk;unfold bg;omega)
   (fun t v e=>(e2 t v e).imp _root_.id fun⟨q1,k,q2,q3⟩=>⟨q1,k,List.mem_append_left _ q2,q3⟩) f3
   (fun b cs hb=>by
    obtain⟨cs0,q1,q2,q3⟩:=f2 b cs hb
    exact⟨cs0,q1,q2,fun i v e=>(q3 i v e).imp _root_.id fun⟨r1,k,r2,r3⟩=>⟨r1,k,List.mem_append_right _ r2,r3⟩⟩)
 obtain⟨y2,A2⟩:=g2
 unfold S.aeH
 obtain⟨a1,a2,a3⟩:=EJ [] (E.1.map (·.2))
 obtain⟨b1,b2,b3⟩:=EJ (Ba [] (E.1.map (·.2))) (B.1.flatMap (·.2))
 obtain⟨n1,n2,n3,n4⟩:=F7 (tree:=s.tree++(E.2++B.2).map (fun p=>(p,[]))) (l:=Ba (Ba [] (E.1.map (·.2))) (B.1.flatMap (·.2))) (i:=1000*s.dK.length)
 generalize hM:metIn (s.tree++(E.2++B.2).map (fun p=>(p,[]))) (Ba (Ba [] (E.1.map (·.2))) (B.1.flatMap (·.2))) (1000*s.dK.length)=M at*
 have An:=A2.nt
 rw [List.map_append,List.nodup_append]at An
 have nn:=n4 (b3 (a3 List.nodup_nil))
 exact A2.rename (m:=M) nn.2 (fun x hx=>(n2 x hx).1) nn.1 (fun x hx hf=>by
   rcases n1 x hx with h7|h7
   ·rw [h7.1]at hf
    exact An.2.2 x.1 (eP.2 ⟨_,(n2 x hx).1⟩) x.1 hf rfl
   ·obtain⟨z,hz,e⟩:=List.mem_map.1 hf
    have:=List.all_eq_true.1 d6 z hz
    rw [←e]at h7
    simp at this;omega) (fun x hx=>(n1 x hx).elim (fun h=> .inr h.1) fun h=> .inl (by unfold bg;omega))
  (fun t v e p hp hpt=>n3 p (b1 p (a2 p (ajR e hp))) hpt) (fun b cs hb p hp hpt=>n3 p (b2 p (ajS hb hp)) hpt)
theorem I7 (gh:oI):Kl gh:=by
 have key:∀(c:Ctx) (o:Option (List Nat×List Nat)) (s s':S) (a:Act) (w:World),Ib s o=some s'→Good c s a w→Good c s' a w:=fun c o s s' a w h g=>by
  unfold Ib at h
  split at h
  ·exact acK h g
  ·injection h with h;subst h;exact g
 refine⟨fun c id s s' h a w g=>key c _ s s' a w h g,fun c id s s' h a w g=>?_⟩
 unfold oI.reg at h
 obtain⟨s1,h1,h⟩:=aj h
 exact ZO h (key c _ s s1 a w h1 g)
end
def alu (gh:oI)(fn:Func):Bool:=match fn.body with
 | some x => !(fn.name == "runtime.NumGoroutine") && decide (fn.ntmps ≤ 1000000) && ku gh fn.ntmps x
 | none=>false
theorem sound {P:Program}{G:List (FuncId×Bool×aN)}(gh:oI){f:FuncId}{fn:Func}(hG:∀f M,look f G=some M→aF P f M.2)(hm:P.follows .mixedOrders=true)(hf:P.funcs[f]?=some fn)(h:alu gh fn=true):aF P f (aI P G gh f):=by
 unfold alu at h
 split at h
 ·rename_i x hb
  simp only [Bool.and_eq_true,decide_eq_true_eq]at h
  exact afT hG (I7 gh) hf hb (by simpa using h.1.1) h.1.2 h.2 hm
 ·cases h
theorem ay {P:Program}:∀f M,look f ([]:List (FuncId×Bool×aN))=some M→aF P f M.2:=fun _ _ h=>by cases h
theorem ah {P:Program}{f:FuncId}{m:Bool}{M:aN}{G:List (FuncId×Bool×aN)}(h:aF P f M)(k:∀f M,look f G=some M→aF P f M.2):∀g N,look g ((f,m,M)::G)=some N→aF P g N.2:=by
 intro g N e
 simp only [look]at e
 split at e
 ·rename_i e2;injection e with e;subst e2;subst e;exact h
 ·exact k g N e
section
variable {P:Program}
end
def ajT (w:World)(hz:ZW w)(us:List Value):Ctx where
 W:=w
 L:= []
 K:=dY w
 src:=fun j=>us[j]?.getD undef
 n:=0
 hK:=fun _ S _ _ h=>ajF h S.ext
 bF:=fun _=>0
 hF:=fun _=>rY
 zed:=ajG hz
def ajU (w:World):Lay where
 bl:=fun _=>0
 hd:=fun _=>rY
 T:=fun _=>0
 us:=fun _=> #[]
 w0:=fun _=>w
 F:=fun _=> []
def alv (w:World)(hz:ZW w)(us:List Value):Rel:=aX (ajT w hz us) (pF [] (bW 0 [])) (ajU w)
theorem ajV (w:World)(hz:ZW w)(us:List Value):Mem (ajT w hz us) (pF [] (bW 0 [])) (ajU w) w:=
 ⟨St.refl w,(fun _ _ h=>nomatch h),(fun _ _ h=>nomatch h),List.nodup_nil,List.nodup_nil⟩
theorem aF.top {P:Program}{f:FuncId}{M:aN}(h:aF P f M){w:World}(hz:ZW w){ls us:List Value}{args:List V}{r:A9}(hM:M args [] []=some r)(ha:jE (alv w hz ls) args us):
  Calls P f us.toArray w fun e w'=> ∃u y',e= .returned u∧Ends (ajT w hz ls) 0 0 r (ajU w) u y' w':=
 h.run (ajT w hz ls) args [] [] r hM (ajU w) us w (ajV w hz ls) ha
theorem aF.amM {P:Program}{f:FuncId}{M:aN}(h:aF P f M){w:World}(hz:ZW w){ls us:List Value}{args:List V}{x:Value}{bs:List (List V)}{ts:List (Nat×List (List D))}(hM:M args [] []=some ⟨.v x,bs,ts⟩)(ha:jE (alv w hz ls) args us):
  Calls P f us.toArray w fun e w'=>e= .returned x∧Ext w w':=
 (h.top hz hM ha).mono fun e w' ⟨u,y',he,E⟩=>⟨by rw [he,show u=x from E.val],E.mem.st.ext⟩
theorem wJ {w:World}{hz:ZW w}{ls:List Value}{j:Nat}{u:Value}{rows:List (List D)}(hj:ls[j]?=some u)(h:sK (dY w) (.l rows) u):RV (alv w hz ls) (.aL (some j) rows) u:=
 ⟨h,fun i e=>by injection e with e;subst e;show ls[j]?.getD undef=u;rw [hj];rfl⟩
def Ww (M1 M2:aN):aN:=fun args boxes trees=>match boxes with
 | [b]=>M1 args [b] trees
 | bs=>M2 args bs trees
@[simp] theorem amh (M1 M2:aN)(args:List V)(b:List V)(trees:List (List (List D))):Ww M1 M2 args [b] trees=M1 args [b] trees:=id rfl
@[simp] theorem ami (M1 M2:aN)(args:List V)(trees:List (List (List D))):Ww M1 M2 args [] trees=M2 args [] trees:=id rfl
@[simp] theorem amj (M1 M2:aN)(args:List V)(a b:List V)(r:List (List V))(trees:List (List (List D))):Ww M1 M2 args (a::b::r) trees=M2 args (a::b::r) trees:=id rfl
theorem ZR {P:Program}{f:FuncId}{M1 M2:aN}(h1:aF P f M1)(h2:aF P f M2):aF P f (Ww M1 M2) where
 fn:=h1.fn
 run:=fun c args boxes trees r hr=>by
  unfold Ww at hr
  split at hr
  ·exact h1.run c args _ trees r hr
  ·exact h2.run c args boxes trees r hr
end Go.Proofs.YtlpdjhiggpblcaaGreat
namespace Go.Proofs
open Go.Shelf
def Tryz.lays143_ren:Go.Shelf.Ren:=⟨fun|143=>233|219=>275|217=>287|225=>288|224=>289|267=>290|266=>294|314=>295|n=>n,fun|9=>9|3=>3|4=>4|5=>5|46=>187|146=>218|51=>217|n=>n,fun|1=>0|n=>n⟩
theorem Tryz.lays143:Go.Proofs.Lays.n143 Tryz.prog Tryz.lays143_ren:= {
 mixed:=by kernel_rfl
 f143:=Tryz.func233.trans (congrArg some (by kernel_rfl))
 f217:=Tryz.func287.trans (congrArg some (by kernel_rfl))
 f219:=Tryz.func275.trans (congrArg some (by kernel_rfl))
 f224:=Tryz.func289.trans (congrArg some (by kernel_rfl))
 f225:=Tryz.func288.trans (congrArg some (by kernel_rfl))
 f266:=Tryz.func294.trans (congrArg some (by kernel_rfl))
 f267:=Tryz.func290.trans (congrArg some (by kernel_rfl))
 f314:=Tryz.func295.trans (congrArg some (by kernel_rfl))
 t3:=Tryz.underlying3
 a3:=Tryz.isAgg3
 z3:=Tryz.sizeOf3
 v3:=Tryz.zeroValue3
 t4:=Tryz.underlying4
 a4:=Tryz.isAgg4
 z4:=Tryz.sizeOf4
 v4:=Tryz.zeroValue4
 t5:=Tryz.underlying5
 a5:=Tryz.isAgg5
 z5:=Tryz.sizeOf5
 v5:=Tryz.zeroValue5
 t9:=Tryz.underlying9
 a9:=Tryz.isAgg9
 z9:=Tryz.sizeOf9
 v9:=Tryz.zeroValue9
 t46:=Tryz.underlying187
 a46:=Tryz.isAgg187
 z46:=Tryz.sizeOf187
 v46:=Tryz.zeroValue187
 t51:=Tryz.underlying217
 a51:=Tryz.isAgg217
 z51:=Tryz.sizeOf217
 v51:=Tryz.zeroValue217
 t146:=Tryz.underlying218
 a146:=Tryz.isAgg218
 z146:=Tryz.sizeOf218
 v146:=Tryz.zeroValue218
 g1:=by kernel_rfl}
open Go.RowKit Go.Lib in
theorem Tryz.strings_Index (s sub:ByteArray)(m:Int)(w:World)(hs:s.size<4294967281)(hm:w.cell? ⟨0,0,none⟩=some (.int .i64 m)):
  Calls Tryz.prog 233 #[.string s, .string sub] w fun e w'=>e= .returned (.int .i64 (Lib.index s.data.toList sub.data.toList))∧w'=w:=Any.strings_Index Tryz.lays143 s sub m w hs hm
def Tryz.lays144_ren:Go.Shelf.Ren:=⟨fun|144=>229|143=>233|219=>275|217=>287|225=>288|224=>289|267=>290|266=>294|314=>295|n=>n,fun|9=>9|4=>4|3=>3|5=>5|46=>187|146=>218|51=>217|n=>n,fun|1=>0|n=>n⟩
theorem Tryz.lays144:Go.Proofs.Lays.n144 Tryz.prog Tryz.lays144_ren:= {
 mixed:=by kernel_rfl
 f143:=Tryz.func233.trans (congrArg some (by kernel_rfl))
 f144:=Tryz.func229.trans (congrArg some (by kernel_rfl))
 f217:=Tryz.func287.trans (congrArg some (by kernel_rfl))
 f219:=Tryz.func275.trans (congrArg some (by kernel_rfl))
 f224:=Tryz.func289.trans (congrArg some (by kernel_rfl))
 f225:=Tryz.func288.trans (congrArg some (by kernel_rfl))
 f266:=Tryz.func294.trans (congrArg some (by kernel_rfl))
 f267:=Tryz.func290.trans (congrArg some (by kernel_rfl))
 f314:=Tryz.func295.trans (congrArg some (by kernel_rfl))
 t3:=Tryz.underlying3
 a3:=Tryz.isAgg3
 z3:=Tryz.sizeOf3
 v3:=Tryz.zeroValue3
 t4:=Tryz.underlying4
 a4:=Tryz.isAgg4
 z4:=Tryz.sizeOf4
 v4:=Tryz.zeroValue4
 t5:=Tryz.underlying5
 a5:=Tryz.isAgg5
 z5:=Tryz.sizeOf5
 v5:=Tryz.zeroValue5
 t9:=Tryz.underlying9
 a9:=Tryz.isAgg9
 z9:=Tryz.sizeOf9
 v9:=Tryz.zeroValue9
 t46:=Tryz.underlying187
 a46:=Tryz.isAgg187
 z46:=Tryz.sizeOf187
 v46:=Tryz.zeroValue187
 t51:=Tryz.underlying217
 a51:=Tryz.isAgg217
 z51:=Tryz.sizeOf217
 v51:=Tryz.zeroValue217
 t146:=Tryz.underlying218
 a146:=Tryz.isAgg218
 z146:=Tryz.sizeOf218
 v146:=Tryz.zeroValue218
 g1:=by kernel_rfl}
open Go.RowKit Go.Lib in
theorem Tryz.strings_Contains (s sub:ByteArray)(m:Int)(w:World)(hs:s.size<4294967281)(hm:w.cell? ⟨0,0,none⟩=some (.int .i64 m)):
  Calls Tryz.prog 229 #[.string s, .string sub] w fun e w'=>e= .returned (.bool (Lib.contains s.data.toList sub.data.toList))∧w'=w:=Any.strings_Contains Tryz.lays144 s sub m w hs hm
def Tryz.laysM144_ren:Go.Shelf.Ren:=⟨fun|144=>229|143=>233|219=>275|217=>287|225=>288|224=>289|267=>290|266=>294|314=>295|n=>n,fun|9=>9|4=>4|3=>3|5=>5|46=>187|146=>218|51=>217|n=>n,fun|1=>0|n=>n⟩
theorem Tryz.laysM144:Go.Proofs.LaysM.n144 Tryz.prog Tryz.laysM144_ren:= {
 mixed:=by kernel_rfl
 f143:=Tryz.func233.trans (congrArg some (by kernel_rfl))
 f144:=Tryz.func229.trans (congrArg some (by kernel_rfl))
 f217:=Tryz.func287.trans (congrArg some (by kernel_rfl))
 f219:=Tryz.func275.trans (congrArg some (by kernel_rfl))
 f224:=Tryz.func289.trans (congrArg some (by kernel_rfl))
 f225:=Tryz.func288.trans (congrArg some (by kernel_rfl))
 f266:=Tryz.func294.trans (congrArg some (by kernel_rfl))
 f267:=Tryz.func290.trans (congrArg some (by kernel_rfl))
 f314:=Tryz.func295.trans (congrArg some (by kernel_rfl))
 t3:=Tryz.underlying3
 a3:=Tryz.isAgg3
 z3:=Tryz.sizeOf3
 v3:=Tryz.zeroValue3
 t4:=Tryz.underlying4
 a4:=Tryz.isAgg4
 z4:=Tryz.sizeOf4
 v4:=Tryz.zeroValue4
 t5:=Tryz.underlying5
 a5:=Tryz.isAgg5
 z5:=Tryz.sizeOf5
 v5:=Tryz.zeroValue5
 t9:=Tryz.underlying9
 a9:=Tryz.isAgg9
 z9:=Tryz.sizeOf9
 v9:=Tryz.zeroValue9
 t46:=Tryz.underlying187
 a46:=Tryz.isAgg187
 z46:=Tryz.sizeOf187
 v46:=Tryz.zeroValue187
 t51:=Tryz.underlying217
 a51:=Tryz.isAgg217
 z51:=Tryz.sizeOf217
 v51:=Tryz.zeroValue217
 t146:=Tryz.underlying218
 a146:=Tryz.isAgg218
 z146:=Tryz.sizeOf218
 v146:=Tryz.zeroValue218
 g1:=by kernel_rfl
 i3:=by kernel_rfl
 i4:=by kernel_rfl
 i5:=by kernel_rfl
 i9:=by kernel_rfl
 i46:=by kernel_rfl
 i51:=by kernel_rfl
 i146:=by kernel_rfl
 m1:=by kernel_rfl
 s1_3:=fun w h=>Go.Proofs.cell_of_shapedOpen_int (zero:= #[.int .i64 0]) (t:=3) h (of_decide_eq_true (by kernel_rfl)) (by kernel_rfl) rfl (by kernel_rfl) (by kernel_rfl) Tryz.underlying3}
end Go.Proofs
namespace Go.Proofs.YtlpdjhiggpblcaaGreat
set_option linter.unusedSectionVars false
set_option linter.unusedSimpArgs false
set_option linter.unusedVariables false
open Go.RowKit
def lK:aN:=fun args boxes trees=>
 match args,boxes,trees with
 | [.v (.string s), .v (.string sub)],[],[]=>if s.size<4294967281 then some ⟨.v (.bool (Lib.contains s.data.toList sub.data.toList)),[],[]⟩else none
 | _,_,_=>none
theorem L6:aF prog 229 lK where
 fn:=⟨_,func229,by kernel_rfl,by kernel_rfl⟩
 run:=fun c args boxes trees r hr y us w hM ha=>by
  unfold lK at hr
  split at hr
  ·rename_i s sub
   split at hr
   ·rename_i hc
    injection hr with hr;subst hr
    obtain⟨u0,q0,rfl,h0,u1,q1,rfl,h1,h2⟩:=ha
    obtain rfl:u0= .string s:=h0
    obtain rfl:u1= .string sub:=h1
    obtain rfl:q1= []:=h2
    have S:St c.W w c.L:=hM.st
    obtain⟨m,hm⟩:=(c.zed w (c.hK w S)).2
    refine(Tryz.strings_Contains s sub m w hc hm).mono fun e w' ⟨he,hw⟩=>?_
    subst hw
    exact⟨_,y,he,hM,rfl, .inl rfl,fun _ _=>rfl,fun _ _=>rfl⟩
   ·cases hr
  ·cases hr
def sj:aN:=fun args boxes trees=>
 match args,boxes,trees with
 | [.v (.string s), .v (.string sub)],[],[]=>if s.size<4294967281 then some ⟨.v (.int .i64 (Lib.index s.data.toList sub.data.toList)),[],[]⟩else none
 | _,_,_=>none
theorem QZ:aF prog 233 sj where
 fn:=⟨_,func233,by kernel_rfl,by kernel_rfl⟩
 run:=fun c args boxes trees r hr y us w hM ha=>by
  unfold sj at hr
  split at hr
  ·rename_i s sub
   split at hr
   ·rename_i hc
    injection hr with hr;subst hr
    obtain⟨u0,q0,rfl,h0,u1,q1,rfl,h1,h2⟩:=ha
    obtain rfl:u0= .string s:=h0
    obtain rfl:u1= .string sub:=h1
    obtain rfl:q1= []:=h2
    have S:St c.W w c.L:=hM.st
    obtain⟨m,hm⟩:=(c.zed w (c.hK w S)).2
    refine(Tryz.strings_Index s sub m w hc hm).mono fun e w' ⟨he,hw⟩=>?_
    subst hw
    exact⟨_,y,he,hM,rfl, .inl rfl,fun _ _=>rfl,fun _ _=>rfl⟩
   ·cases hr
  ·cases hr
def gN:List (List D)→List Value→List (List D)
 | [],_=> []
 | r::rows,us=>(us.take r.length).map D.a::gN rows (us.drop r.length)
theorem F8:∀{rows:List (List D)} {us:List Value},us.length=rows.flatten.length→(gN rows us).flatten=us.map D.a
 | [],us,h=>by
  have:us= []:=List.eq_nil_of_length_eq_zero (by simpa using h)
  subst this;rfl
 | r::rows,us,h=>by
  rw [List.flatten_cons,List.length_append]at h
  show((us.take r.length).map D.a++(gN rows (us.drop r.length)).flatten)=_
  rw [F8 (rows:=rows) (us:=us.drop r.length) (by rw [List.length_drop];omega),←List.map_append,List.take_append_drop]
theorem tJ:∀(rows:List (List D)) (us:List Value),(gN rows us).length=rows.length
 | [],_=>rfl
 | r::rows,us=>by show(gN rows (us.drop r.length)).length+1=rows.length+1;rw [tJ]
theorem Dm {k:Nat}:∀{rows:List (List D)} {us:List Value},us.length=rows.flatten.length→(∀r∈rows,r.length=k)→∀r∈gN rows us,r.length=k
 | [],_,_,_,r,hr=>by cases hr
 | r0::rows,us,h,hk,r,hr=>by
  rw [List.flatten_cons,List.length_append]at h
  have h0:=hk r0 (by simp)
  rcases List.mem_cons.1 hr with hr|hr
  ·subst hr;rw [List.length_map,List.length_take];omega
  ·exact Dm (rows:=rows) (us:=us.drop r0.length) (by rw [List.length_drop];omega) (fun r hr=>hk r (List.mem_cons_of_mem _ hr)) r hr
def aib:D→Value→Prop
 | .a x,u=>u=x
 | _,u=>u.oneCell'=true
def Bh (ds:List D)(us:List Value):Prop:= ∀(i:Nat) (d:D) (u:Value),ds[i]?=some d→us[i]?=some u→aib d u
theorem afU {w:World}{d:D}{u:Value}{F:List Nat}(o:pz w d u F):aib d u:=by
 cases o with
 | a x=>exact rfl
 | gone u h=>exact h
 | nil A F=>rfl
 | l=>rfl
section
variable {c:Ctx} {s:S} {y:Lay} {a:Act} {w:World}
theorem At.akU (A:At c s y a w){p:Nat}{rows:List (List D)}(hl:look p s.tree=some rows){w':World}{rows':List (List D)}{L':List Pc}(hK':∀w,St c.W w L'→∀b o,c.K b o→w.heap[b]?=some o)(S:St c.W w' (gK (y.hd p) rows'::(dV y.bl y.T y.us s.box++(bX y.hd (drop1 p s.tree)++(iD y.w0 y.F s.dK++L'))))):
  At {c with L:=L',hK:=hK'} {s with tree:=upd p rows' s.tree} y a w':=by
 obtain⟨l1,l2,h1,h2,h3⟩:=vO hl
 have n:=A.nt
 rw [List.map_append,List.nodup_append]at n
 have h3:=h3 n.1
 have le:(aX c s y).le (aX {c with L:=L',hK:=hK'} {s with tree:=upd p rows' s.tree} y):=
  ⟨fun _ _ h=>h,fun _ _ h=>h,rfl,fun b' h=>⟨h,rfl⟩,fun q h=>⟨by
   show q∈(upd p rows' s.tree++s.dK).map (·.1)
   rw [List.map_append,oL,←List.map_append];exact h,rfl⟩⟩
 refine⟨A.defers,A.size,?_,fun t' v e=>(A.env t' v e).le le,fun b cs h=>(A.box b cs h).le le,A.dK,A.nb,by
  show((upd p rows' s.tree++s.dK).map (·.1)).Nodup
  rw [List.map_append,oL,←List.map_append];exact A.nt,A.fix⟩
 show St c.W w' (dV y.bl y.T y.us s.box++(bX y.hd (upd p rows' s.tree)++(iD y.w0 y.F s.dK++L')))
 rw [h2 rows']
 rw [h3]at S
 refine S.perm ?_
 refine(List.perm_middle (l₁:=dV y.bl y.T y.us s.box) (l₂:=bX y.hd (l1++l2)++(iD y.w0 y.F s.dK++L')) (a:=gK (y.hd p) rows')).symm.trans ?_
 refine List.Perm.append_left _ ?_
 rw [←List.cons_append]
 refine List.Perm.append_right _ ?_
 unfold bX
 rw [List.map_append,List.map_append,List.map_cons]
 exact List.perm_middle.symm
theorem St.aic {W w:World}{h:Hd}{rows:List (List D)}{us:List Value}{L:List Pc}(S:St W w (qP h.v rows::L))(hf:rows.flatten=us.map D.a):St W w (gK h rows::L):=by
 obtain⟨F,s,n,hb⟩:=S.sep
 obtain⟨F1,G,rfl,a,g⟩:=s.gF
 refine⟨S.ext,_, .cons (h:=gK h rows) ⟨a,fun g o n c cs T fr m r' e1 e2 e3=>?_⟩ g,n,hb⟩
 rw [hf,List.getElem?_map]at e3
 cases e:us[m]? with
 | none=>rw [e]at e3;cases e3
 | some x=>rw [e]at e3;cases e3
theorem St.aie {W w:World}{L:List Pc}(S:St W w L)(us:List Value):St W w (qm (us.map D.a) us++L):=by
 refine S.atoms (fun d hd=>?_) (fun i x u e1 e2=>?_)
 ·obtain⟨x,_,rfl⟩:=List.mem_map.1 hd;rfl
 ·rw [List.getElem?_map,e2]at e1
  simp only [Option.map_some,Option.some.injEq,D.a.injEq]at e1
  exact e1
theorem Good.flat {p:Nat}{rows:List (List D)}(g:Good c s a w)(hp:look p s.tree=some rows):∃(us:List Value) (hK':∀w,St c.W w (qm rows.flatten us++c.L)→∀b o,c.K b o→w.heap[b]?=some o),us.length=rows.flatten.length∧Bh rows.flatten us∧
  Good {c with L:=qm rows.flatten us++c.L,hK:=hK'} {s with tree:=upd p (gN rows us) s.tree} a w:=by
 obtain⟨y,A⟩:=g
 have hK:∀us:List Value,∀w,St c.W w (qm rows.flatten us++c.L)→∀b o,c.K b o→w.heap[b]?=some o:=fun us w S=>c.hK w S.sO
 have S0:=(A.out' hp).Co
 rcases S0.split with⟨h1, -⟩|⟨g,o,cc,k,T,cs,us,h0,h1,h2,h3,h4,h5,h6,h7,h8,S⟩
 ·subst h1
  refine⟨[],hK [],rfl,fun i d u e=>by simp at e,y,?_⟩
  exact At.akU A hp (hK []) (A.out hp)
 ·have hcell:Bh rows.flatten us:=fun i d u e1 e2=>by
   obtain⟨F,sp, -, -⟩:=S.sep
   obtain⟨F1,G1,rfl, -,g1⟩:=sp.gF
   obtain⟨fs,G, -, -,hh⟩:=Sep.aeO h7 g1
   exact afU (hh i d u e1 e2)
  refine⟨us,hK us,h7,hcell,y,?_⟩
  have hfl:=F8 h7
  have S1:=S.aie us
  have S2:=S1.perm (L':=rowP g T cs::(qm (gN rows us).flatten us++(qm rows.flatten us++(Ox (s.kill p) y++c.L)))) (by rw [hfl];exact List.perm_middle)
  have hne:gN rows us≠ []:=fun e=>h0 (List.eq_nil_of_length_eq_zero (by rw [←tJ rows us,e];rfl))
  have S3:=St.join S2 (by rw [hfl,List.length_map]) (by rw [tJ];exact h2) h3 h4 (Dm h7 h5) h6 (fun e=>absurd e hne) (by rw [tJ];exact h8)
  rw [tJ,←h1]at S3
  have S4:=S3.aic hfl
  refine At.akU A hp (hK us) (S4.perm (List.Perm.cons _ ?_))
  rw [Iy,List.append_assoc,List.append_assoc]
  have p1:=List.perm_append_comm_assoc (qm rows.flatten us) (dV y.bl y.T y.us s.box++(bX y.hd (drop1 p s.tree)++iD y.w0 y.F s.dK)) c.L
  simp only [List.append_assoc]at p1⊢
  exact p1
end
theorem aif {w:World}{us us':List Value}{L:List Pc}{F:List Nat}(hl:us'.length=us.length)(S:Sep w (qm (us.map D.a) us'++L) F):us'=us:=by
 obtain⟨fs,G, -, -,h⟩:=Sep.aeO (by rw [List.length_map];exact hl) S
 refine List.ext_getElem? fun i=>?_
 by_cases hi:i<us.length
 ·have hi':i<us'.length:=by omega
  have:=h i (.a us[i]) us'[i] (by rw [List.getElem?_map,List.getElem?_eq_getElem hi];rfl) (List.getElem?_eq_getElem hi')
  rw [List.getElem?_eq_getElem hi,List.getElem?_eq_getElem hi']
  generalize us[i]=x at*
  generalize us'[i]=x' at*
  generalize fs i=F0 at this
  cases this;rfl
 ·rw [List.getElem?_eq_none (by omega),List.getElem?_eq_none (by omega)]
theorem widths {α β:Type}{k:Nat}{A:List (List α)}{B:List (List β)}(hn:B.length=A.length)(hk:∀(i:Nat) r r',A[i]?=some r→B[i]?=some r'→r.length=r'.length)(h:∀r∈A,r.length=k):∀r∈B,r.length=k:=by
 intro r hr
 obtain⟨i,hi⟩:=List.getElem?_of_mem hr
 have h1:=(List.getElem?_eq_some_iff.1 hi).1
 have h2:i<A.length:=by omega
 have:=hk i A[i] r (List.getElem?_eq_getElem h2) hi
 rw [←this]
 exact h _ (List.getElem_mem h2)
theorem St.XQ {W w:World}{L:List Pc}{u:Value}{Nn zV:List (List D)}{us:List Value}(S:St W w (qP u Nn::(qm zV.flatten us++L)))(hF:Nn.flatten=us.map D.a)(hl:us.length=zV.flatten.length)(hn:zV.length=Nn.length)
  (hk:∀(i:Nat) r r',Nn[i]?=some r→zV[i]?=some r'→r.length=r'.length):St W w (qP u zV::L):=by
 rcases S.split with⟨h1,g,cc,e1,e2,e3,S1⟩|⟨g,o,cc,k,T,cs,us',h0,h1,h2,h3,h4,h5,h6,h7,h8,S1⟩
 ·subst h1
  have h2:zV= []:=List.eq_nil_of_length_eq_zero (by rw [hn];rfl)
  subst h2
  subst e3
  rw [e1]
  exact St.more (h:=qP (.slice g 0 0) []) S1.sO (Ext.refl w) (F:= []) (.nil _ _) List.nodup_nil (fun b hb=>by cases hb)
 ·rw [hF]at S1 h7
  rw [List.length_map]at h7
  have hu:us'=us:=by
   obtain⟨F,s, -, -⟩:=S1.sep
   obtain⟨F1,G,rfl, -,g1⟩:=s.gF
   exact aif h7 g1
  subst hu
  have S2:St W w (rowP g T cs::(qm zV.flatten us'++L)):=by
   refine St.sO (L1:=qm (us'.map D.a) us') (S1.perm ?_)
   exact List.perm_middle.symm
  have hne:zV≠ []:=fun e=>h0 (List.eq_nil_of_length_eq_zero (by rw [←hn,e];rfl))
  have:=St.join S2 hl (by rw [hn];exact h2) h3 h4 (widths hn hk h5) h6 (fun e=>absurd e hne) (by rw [hn];exact h8)
  rw [hn,←h1]at this
  exact this
def su:Code→List Code
 | .seq a b=>su a++su b
 | c=> [c]
def wpL (P:Program):List Code→(Exit→Act→World→Prop)→Act→World→Prop
 | [],Q,a,w=>Q .normal a w
 | c::r,Q,a,w=>c.wp P (Exit.then (wpL P r Q) Q) a w
section
variable {P:Program}
theorem Exit.afV {n n':Act→World→Prop}{Q Q':Exit→Act→World→Prop}(h1:∀a w,n a w→n' a w)(h2:∀e a w,Q e a w→Q' e a w):∀e a w,Exit.then n Q e a w→Exit.then n' Q' e a w:=by
 intro e a w h
 cases e<;>first|exact h1 a w h|exact h2 _ a w h
theorem ZT:∀(l:List Code) {Q Q':Exit→Act→World→Prop} {a:Act} {w:World},wpL P l Q a w→(∀e a w,Q e a w→Q' e a w)→wpL P l Q' a w
 | [],Q,Q',a,w,h,k=>k _ a w h
 | c::r,Q,Q',a,w,h,k=>wp_mono h (Exit.afV (fun a w h=>ZT r h k) k)
theorem XR:∀(l m:List Code) {Q:Exit→Act→World→Prop} {a:Act} {w:World},wpL P l (Exit.then (wpL P m Q) Q) a w→wpL P (l++m) Q a w
 | [],m,Q,a,w,h=>h
 | c::l,m,Q,a,w,h=>by
  refine wp_mono h fun e a w h=>?_
  cases e with
  | normal=>exact XR l m h
  | _=>exact h
theorem ZU:∀(x:Code) {Q:Exit→Act→World→Prop} {a:Act} {w:World},wpL P (su x) Q a w→x.wp P Q a w:=by
 have one:∀(x:Code) {Q:Exit→Act→World→Prop} {a:Act} {w:World},wpL P [x] Q a w→x.wp P Q a w:=fun x Q a w h=>wp_mono h fun e a w h=>by cases e<;>exact h
 intro x
 induction x with
 | seq x y ihx ihy=>
  intro Q a w h
  have cut:∀(l m:List Code) {Q:Exit→Act→World→Prop} {a:Act} {w:World},wpL P (l++m) Q a w→wpL P l (Exit.then (wpL P m Q) Q) a w:=by
   intro l
   induction l with
   | nil=>intro m Q a w h;exact h
   | cons c l ih=>
    intro m Q a w h
    refine wp_mono h fun e a w h=>?_
    cases e with
    | normal=>exact ih m h
    | _=>exact h
  refine wp_seq (ihx (ZT _ (cut _ _ h) fun e a w h=>?_))
  cases e with
  | normal=>exact ihy h
  | _=>exact h
 | _=>intro Q a w h;exact one _ h
end
section
variable (P:Program) (G:List (FuncId×Bool×aN)) (gh:oI)
noncomputable def evL:List Code→Q→Option (Ex×Q)
 | [],q=>some (.normal,q)
 | c::r,q=>OG (Kc P G gh c q) fun q=>evL r q
@[simp] theorem ajW (q:Q):evL P G gh [] q=some (.normal,q):=id rfl
@[simp] theorem aii (c:Code)(r:List Code)(q:Q):evL P G gh (c::r) q=OG (Kc P G gh c q) fun q=>evL P G gh r q:=id rfl
variable {P G gh}
theorem EK {c:Ctx}(hC:FM P G)(hM:Kl gh)(hm:P.follows .mixedOrders=true):∀(l:List Code) (q:Q) (r:Ex×Q) (a:Act) (w:World) (Q1:Exit→Act→World→Prop),(l.all fun x=>ku gh c.n x)=true→evL P G gh l q=some r→Hq c q a w→(∀a w,Hq c r.2 a w→Q1 (ajQ r.1) a w)→wpL P l Q1 a w
 | [],q,r,a,w,Q1,_,h,g,k=>by
  rw [ajW]at h;injection h with h;subst h;exact k a w g
 | x::l,q,r,a,w,Q1,ho,h,g,k=>by
  rw [List.all_cons,Bool.and_eq_true]at ho
  rw [aii]at h
  cases e:Kc P G gh x q with
  | none=>rw [e,OI]at h;cases h
  | some r1=>
   rw [e]at h
   obtain⟨ex,q1⟩:=r1
   refine rA hC hM hm x q (ex,q1) a w _ ho.1 e g fun a' w' g'=>?_
   cases ex with
   | normal=>rw [Ig]at h;exact EK hC hM hm l q1 r a' w' Q1 ho.2 h g' k
   | exit i=>rw [OH]at h;injection h with h;subst h;exact k a' w' g'
   | ret=>rw [RJ]at h;injection h with h;subst h;exact k a' w' g'
def I8 (rows:List (List D))(us:List Value)(r r2:A9):Prop:=
 ∀(c:Ctx) (hK':∀w,St c.W w (qm rows.flatten us++c.L)→∀b o,c.K b o→w.heap[b]?=some o) (y:Lay) (w:World) (u:Value),Mem {c with L:=qm rows.flatten us++c.L,hK:=hK'} (pF [] r2.tree) y w→RV (aX {c with L:=qm rows.flatten us++c.L,hK:=hK'} (pF [] r2.tree) y) r2.val u→
  ∃y',Mem c (pF [] r.tree) y' w∧RV (aX c (pF [] r.tree) y') r.val u
def Bj (E:A9→Prop):Option A9→Prop
 | some r=>E r
 | none=>False
def F9 (P:Program)(rs:List ResultVar)(E:A9→Prop):Option (Ex×Q)→Prop
 | some (.normal, .on s2)=>Bj E (tu P rs 0 0 s2)
 | some (.ret, .on s2)=>Bj E (tu P rs 0 0 s2)
 | _=>False
@[simp] theorem ajX (E:A9→Prop)(r:A9):Bj E (some r)=E r:=id rfl
@[simp] theorem aij (P:Program)(rs:List ResultVar)(E:A9→Prop)(s:S):F9 P rs E (some (.normal, .on s))=Bj E (tu P rs 0 0 s):=id rfl
@[simp] theorem akV (P:Program)(rs:List ResultVar)(E:A9→Prop)(s:S):F9 P rs E (some (.ret, .on s))=Bj E (tu P rs 0 0 s):=id rfl
def ZV (P:Program)(G:List (FuncId×Bool×aN))(gh:oI)(rs:List ResultVar)(l2:List Code)(r:A9)(p:Nat)(s:S):Prop:=
 ∃rows,look p s.tree=some rows∧∀us:List Value,us.length=rows.flatten.length→Bh rows.flatten us→F9 P rs (I8 rows us r) (evL P G gh l2 (.on {s with tree:=upd p (gN rows us) s.tree}))
def Np (E:S→Prop):Option (Ex×Q)→Prop
 | some (.normal, .on s)=>E s
 | _=>False
@[simp] theorem ajY (E:S→Prop)(s:S):Np E (some (.normal, .on s))=E s:=id rfl
def partsOf (P:Program)(f:FuncId):List Code:=match P.funcs[f]? with
 | some fn=>match fn.body with
  | some c=>su c
  | none=> []
 | none=> []
def XT (P:Program)(G:List (FuncId×Bool×aN))(gh:oI)(f:FuncId)(rs:List ResultVar)(n p:Nat)(args:List V)(r:A9):Prop:=
 Np (ZV P G gh rs ((partsOf P f).drop n) r p) (evL P G gh ((partsOf P f).take n) (.on (AL args [] [])))
theorem SK (hG : ∀ f M, look f G = some M → aF P f M.2) (hm : P.follows .mixedOrders = true) {f : FuncId} {fn : Func} {x : Code} (hf : P.funcs[f]? = some fn) (hb : fn.body = some x) (hn : (fn.name == "runtime.NumGoroutine") = false) (hsm : fn.ntmps ≤ 1000000) (hx : ((su x).all fun x => ku gh fn.ntmps x) = true) (n : Nat) {M : aN}
  (H:∀args boxes trees r,M args boxes trees=some r→args.length≤1000∧boxes= []∧trees= []∧r.box= []∧∃p,XT P G gh f fn.results.toList n p args r):aF P f M:=by
 refine⟨⟨fn,hf,hn,by rw [hb];rfl⟩,fun c args boxes trees r h y us w m hargs=>?_⟩
 obtain⟨hal,rfl,rfl,hrb,p,hh⟩:=H args boxes trees r h
 have hp:partsOf P f=su x:=by unfold partsOf;rw [hf];simp only [hb]
 unfold XT at hh
 rw [hp]at hh
 obtain⟨s,h1,rows,h2,h3⟩:∃s,evL P G gh ((su x).take n) (.on (AL args [] []))=some (.normal, .on s)∧ZV P G gh fn.results.toList ((su x).drop n) r p s:=by
  unfold Np at hh
  split at hh
  ·rename_i s e;exact⟨s,e,hh⟩
  ·exact hh.elim
 have h3:∀us:List Value,us.length=rows.flatten.length→Bh rows.flatten us→∃(ex:Ex) (s2:S) (r2:A9),evL P G gh ((su x).drop n) (.on {s with tree:=upd p (gN rows us) s.tree})=some (ex, .on s2)∧(ex= .normal∨ex= .ret)∧tu P fn.results.toList 0 0 s2=some r2∧I8 rows us r r2:=fun us Zx huc=>by
  have:=h3 us Zx huc
  unfold F9 at this
  split at this
  ·rename_i s2 e
   unfold Bj at this
   split at this
   ·rename_i r2 e2;exact⟨_,s2,r2,e, .inl rfl,e2,this⟩
   ·exact this.elim
  ·rename_i s2 e
   unfold Bj at this
   split at this
   ·rename_i r2 e2;exact⟨_,s2,r2,e, .inr rfl,e2,this⟩
   ·exact this.elim
  ·exact this.elim
 obtain⟨un,hun⟩:=acH
 have hle:us.length≤1000:=by rw [hargs.len];exact hal
 have hsz0:(lJ fn.ntmps us).tmps.size=us.length+(fn.ntmps-us.length):=by
  show(us.toArray++Array.replicate (fn.ntmps-us.toArray.size) undef).size=_
  rw [Array.size_append,Array.size_replicate,List.size_toArray]
 have hsz:fn.ntmps≤(lJ fn.ntmps us).tmps.size:=by rw [hsz0];omega
 have hpb:(lJ fn.ntmps us).tmps.size≤bg:=by rw [hsz0];unfold bg;omega
 have A:=IZ m hargs fn.ntmps hun hpb
 have hxs:=List.all_eq_true.1 hx
 have ho:∀l:List Code,(∀z∈l,z∈su x)→(l.all fun x=>ku gh (lJ fn.ntmps us).tmps.size x)=true:=fun l hl=>List.all_eq_true.2 fun z hz=>nM hsz z (hxs z (hl z hz))
 refine calls_of_wp hf hb (ZU x ?_)
 rw [←List.take_append_drop n (su x)]
 refine XR _ _ ?_
 refine EK (c:= {c with n:=(lJ fn.ntmps us).tmps.size,bF:=fun b=>y.bl (un b),hF:=fun p=>y.hd (un p)}) (IX hG) (I7 gh) hm _ (.on (AL args [] [])) (.normal, .on s) (lJ fn.ntmps us) w _ (ho _ fun z hz=>List.mem_of_mem_take hz) h1 ⟨_,A⟩ fun a1 w1 g1=>?_
 obtain⟨vs,hK',hvl,hvc,g2⟩:=Good.flat (show Good _ s a1 w1 from g1) h2
 obtain⟨ex,s2,r2,k1,k2,k3,k4⟩:=h3 vs hvl hvc
 refine EK (c:= {c with L:=qm rows.flatten vs++c.L,hK:=hK',n:=(lJ fn.ntmps us).tmps.size,bF:=fun b=>y.bl (un b),hF:=fun p=>y.hd (un p)}) (IX hG) (I7 gh) hm _ _ (ex, .on s2) a1 w1 _ (ho _ fun z hz=>List.mem_of_mem_drop hz) k1 g2 fun a' w' g=>?_
 obtain⟨y1,A1⟩:=(show Good _ s2 a' w' from g)
 have fin:a'.defers= []∧∃v,(results fn a'.tmps).run P w'= .ok v w'∧∃u y',Ending.returned v= .returned u∧Ends c 0 0 r y u y' w':=by
  have hr2:=k3
  unfold tu at hr2
  obtain⟨ws,hvs,_⟩:=aj hr2
  obtain⟨u,q1,q2⟩:=Eh A1 hvs
  obtain⟨y',q3,q4,q5,q6,q7⟩:=I4 (n0:=c.n) (bF':=c.bF) (hF':=c.hF) A1 hvs q2 k3
  have alx:r2.box= []:=List.eq_nil_of_length_eq_zero q5
  rw [alx]at q3 q4
  obtain⟨y2,z1,z2⟩:=k4 c hK' y' w' u q3 q4
  refine⟨A1.defers,u,q1,u,y2,rfl,by rw [hrb];exact z1,by rw [hrb];exact z2, .inl (by rw [hrb];rfl),fun i hi=>by omega,fun q hq=>by omega⟩
 rcases k2 with rfl|rfl
 ·exact fin
 ·exact fin
end
theorem I9:∀{rows:List (List D)} {us:List Value},(∀r∈rows,r.length=1)→us.length=rows.length→gN rows us=us.map fun u=> [D.a u]
 | [],us,_,h=>by
  have:us= []:=List.eq_nil_of_length_eq_zero (by simpa using h)
  subst this;rfl
 | r::rows,us,hw,h=>by
  have h1:=hw r (by simp)
  cases us with
  | nil=>simp at h
  | cons u us=>
   show(List.take r.length (u::us)).map D.a::gN rows (List.drop r.length (u::us))=_
   rw [h1,List.take_succ_cons,List.take_zero,List.drop_succ_cons,List.drop_zero,I9 (fun r hr=>hw r (List.mem_cons_of_mem _ hr)) (by simpa using h)]
   rfl
theorem Nq {α:Type}:∀{rows:List (List α)},(∀r∈rows,r.length=1)→rows.flatten.length=rows.length
 | [],_=>rfl
 | r::rows,h=>by rw [List.flatten_cons,List.length_append,h r (by simp),Nq fun r hr=>h r (List.mem_cons_of_mem _ hr),List.length_cons];omega
theorem Wx:∀(us:List Value),(us.map fun u=> [D.a u]).flatten=us.map D.a
 | []=>rfl
 | u::us=>by rw [List.map_cons,List.flatten_cons,Wx us];rfl
theorem ae4 {c:Ctx}{y:Lay}{w:World}{rows:List (List D)}:Mem c (pF [] [(0,rows)]) y w→St c.W w (gK (y.hd 0) rows::c.L):=fun m=>m.st
theorem Mem.XQ {c:Ctx}{ds:List D}{us:List Value}{hK':∀w,St c.W w (qm ds us++c.L)→∀b o,c.K b o→w.heap[b]?=some o}{y:Lay}{w:World}{Nn zV:List (List D)}{us2:List Value}(m:Mem {c with L:=qm ds us++c.L,hK:=hK'} (pF [] [(0,Nn)]) y w)
  (hF:Nn.flatten=us2.map D.a) (hl:us2.length=zV.flatten.length) (hn:zV.length=Nn.length) (hk:∀(i:Nat) r r',Nn[i]?=some r→zV[i]?=some r'→r.length=r'.length) (hp:(qm ds us).Perm (qm zV.flatten us2)):
  ∃h:Hd,h.v=(y.hd 0).v∧Mem c (pF [] [(0,zV)]) {y with hd:=dR y.hd 0 h} w:=by
 have S0:=(ae4 m).Co
 have S1:=St.XQ (S0.perm (List.Perm.cons _ (List.Perm.append_right _ hp))) hF hl hn hk
 obtain⟨h,e,S2⟩:=S1.tree
 refine⟨h,e,?_,fun b cs hb=>(by cases hb),fun p rows hp=>(by cases hp),List.nodup_nil,by simp [pF]⟩
 show St c.W w ([]++([gK (dR y.hd 0 h 0) zV]++([]++c.L)))
 rw [dS]
 exact S2
theorem ajZ {c c':Ctx}{rows rows':List (List D)}{y:Lay}{h:Hd}{u:Value}(e:h.v=(y.hd 0).v)(r:RV (aX c' (pF [] [(0,rows)]) y) (.agg [.own 0]) u):RV (aX c (pF [] [(0,rows')]) {y with hd:=dR y.hd 0 h}) (.agg [.own 0]) u:=by
 obtain⟨us,rfl,v,q,rfl,⟨-,hv⟩,hq⟩:=r
 refine⟨_,rfl,v,q,rfl,⟨?_,?_⟩,hq⟩
 ·show(0:Nat)∈List.map Prod.fst ([((0:Nat),rows')]++([]:List (Nat×List (List D))))
  simp
 ·show v=(dR y.hd 0 h 0).v
  rw [dS,e];exact hv
theorem afW {ds:List D}{us:List Value}(h:us.length=ds.length):(qm ds us).Perm (qm (ds.drop 1++ds.take 1) (us.drop 1++us.take 1)):=by
 rw [sP (by simp;omega)]
 have:qm ds us=qm (ds.take 1) (us.take 1)++qm (ds.drop 1) (us.drop 1):=by
  rw [←sP (by simp;omega),List.take_append_drop,List.take_append_drop]
 rw [this]
 exact List.perm_append_comm
theorem ae5 {α:Type}{rows:List (List α)}(h:∀r∈rows,r.length=1):(rows.drop 1++rows.take 1).flatten=rows.flatten.drop 1++rows.flatten.take 1:=by
 cases rows with
 | nil=>rfl
 | cons r rows=>
  have h1:=h r (by simp)
  obtain⟨x,rfl⟩:=List.length_eq_one_iff.1 h1
  simp
theorem Wy {c:Ctx}{rows:List (List D)}{us:List Value}(hw:∀r∈rows,r.length=1)(hul:us.length=rows.length){hK':∀w,St c.W w (qm rows.flatten us++c.L)→∀b o,c.K b o→w.heap[b]?=some o}{y:Lay}{w:World}{u:Value}
  (m:Mem {c with L:=qm rows.flatten us++c.L,hK:=hK'} (pF [] [(0,(us.drop 1++us.take 1).map fun u=> [D.a u])]) y w) (r:RV (aX {c with L:=qm rows.flatten us++c.L,hK:=hK'} (pF [] [(0,(us.drop 1++us.take 1).map fun u=> [D.a u])]) y) (.agg [.own 0]) u):
  ∃y',Mem c (pF [] [(0,rows.drop 1++rows.take 1)]) y' w∧RV (aX c (pF [] [(0,rows.drop 1++rows.take 1)]) y') (.agg [.own 0]) u:=by
 have hfl:=Nq hw
 obtain⟨h,e,m2⟩:=Mem.XQ (zV:=rows.drop 1++rows.take 1) (us2:=us.drop 1++us.take 1) m (Wx _) (by rw [ae5 hw,List.length_append,List.length_append,List.length_drop,List.length_drop,List.length_take,List.length_take,hfl];omega) (by simp;omega) (fun i r r' e1 e2=>by
  have h1:r.length=1:=by
   obtain⟨x,_,rfl⟩:=List.mem_map.1 (List.mem_of_getElem? e1);rfl
  have h2:r'.length=1:=by
   rcases List.mem_append.1 (List.mem_of_getElem? e2)with q|q
   ·exact hw r' (List.mem_of_mem_drop q)
   ·exact hw r' (List.mem_of_mem_take q)
  omega) (by rw [ae5 hw];exact afW (by omega))
 exact⟨_,m2,ajZ e r⟩
theorem ae6 {rows:List (List D)}(h:∀r∈rows,∃q,r= [D.l q]):∀r∈rows,r.length=1:=fun r hr=>by
 obtain⟨q,rfl⟩:=h r hr;rfl
theorem L8:∀{rows:List (List D)} {us:List Value},(∀r∈rows,∃q,r= [D.l q])→us.length=rows.length→Bh rows.flatten us→∀u∈us,u.oneCell'=true
 | [],us,_,h,_,u,hu=>by
  have:us= []:=List.eq_nil_of_length_eq_zero (by simpa using h)
  subst this;cases hu
 | r::rows,[],_,h,_,u,hu=>by cases hu
 | r::rows,v::us,hr,h,hc,u,hu=>by
  obtain⟨q,rfl⟩:=hr r (by simp)
  rcases List.mem_cons.1 hu with hu|hu
  ·subst hu;exact hc 0 (.l q) u rfl rfl
  ·exact L8 (fun r h=>hr r (List.mem_cons_of_mem _ h)) (by simpa using h) (fun i d u e1 e2=>hc (i+1) d u (by simpa using e1) (by simpa using e2)) u hu
theorem SL:∀{us:List Value},(∀u∈us,u.oneCell'=true)→wid 1 (us.map fun u=> [D.a u])=true
 | [],_=>rfl
 | u::us,h=>by
  simp only [List.map_cons,wid,List.length_singleton,decide_true,List.all_cons,List.all_nil,Bool.and_true,Bool.true_and,yI,h u (by simp),SL fun u hu=>h u (List.mem_cons_of_mem _ hu)]
theorem ae7 (us:List Value):dU (us.map fun u=> [D.a u])=true:=by
 unfold dU
 refine List.all_eq_true.2 fun r hr=>?_
 obtain⟨x,_,rfl⟩:=List.mem_map.1 hr
 rfl
theorem Wz (us:List Value):List.take us.length (us.map fun u=> [D.a u])=us.map fun u=> [D.a u]:=List.take_of_length_le (by simp)
end Go.Proofs.YtlpdjhiggpblcaaGreat
