/- Part 7 of a proof in several texts (an abstract evaluator, what the functions compute). -/
import Derived.Test.YtlpdjhiggpblcaaGreatPkFnEdOk6
import Derived.Shelf.Strings.Search1
import Derived.Shelf.Strings.Search2
import Derived.Shelf.Strings.Search3
import Derived.Shelf.LaysM
import Derived.Shelf.Strings.Shaped
import Derived.Test.YtlpdjhiggpblcaaGreatProg
open Go.Proofs.Tryz
namespace Go.Proofs.YtlpdjhiggpblcaaGreat
set_option linter.unusedSectionVars false
set_option linter.unusedSimpArgs false
set_option linter.unusedVariables false
open Go.RowKit
structure Enter (ρ ρ':Rel):Prop where
 K:ρ'.K=ρ.K
 Z:∀b o,ρ.Z b o→ρ'.Z b o
 src:ρ'.src=ρ.src
 b:∀i,ρ.Lb i→ρ'.Lb (aU+i)∧ρ'.bl (aU+i)=ρ.bl i
 t:∀i,ρ.Lt i→ρ'.Lt (aU+i)∧ρ'.hd (aU+i)=ρ.hd i
mutual
theorem EP {ρ ρ':Rel}(e:Enter ρ ρ'):∀{v:V} {u:Value},RV ρ v u→RV ρ' (jS v) u
 | .v _,_,h=>h
 | .nil,_,h=>h
 | .aP _ _,_,h=>⟨by rw [e.K];exact h.1,fun j i=>by rw [e.src];exact h.2 j i⟩
 | .own p,_,h=>⟨(e.t p h.1).1,by rw [(e.t p h.1).2];exact h.2⟩
 | .inn p _ _ _,_,h=>⟨(e.t p h.1).1,by rw [(e.t p h.1).2];exact h.2⟩
 | .fz _,_,h=>wL.mono h e.Z
 | .mp _,_,h=>Pw.mono h e.Z
 | .ref b _,_,h=>⟨(e.b b h.1).1,by rw [(e.b b h.1).2];exact h.2⟩
 | .pe _ _ _ _,_,h=>by obtain⟨ub,h1,h2⟩:=h;exact⟨ub,EP e h1,h2⟩
 | .agg _,_,h=>by obtain⟨us,h1,h2⟩:=h;exact⟨us,h1,wU e h2⟩
 | .fK _,_,h=>by obtain⟨us,h1,h2⟩:=h;exact⟨us,h1,wU e h2⟩
 | .fn _ _,_,h=>by obtain⟨us,h1,h2⟩:=h;exact⟨us,h1,wU e h2⟩
 | .dead,_,_=>trivial
theorem wU {ρ ρ':Rel}(e:Enter ρ ρ'):∀{vs:List V} {us:List Value},jk ρ vs us→jk ρ' (ny vs) us
 | [],_,h=>h
 | _::_,_,h=>by obtain⟨u,q,h1,h2,h3⟩:=h;exact⟨u,q,h1,EP e h2,wU e h3⟩
end
theorem ER {α:Type}{l:List (Nat×α)}(n:(l.map (·.1)).Nodup)(k:Nat):look k l.reverse=look k l:=by
 have n2:(l.reverse.map (·.1)).Nodup:=by rw [List.map_reverse];exact(List.reverse_perm _).nodup_iff.2 n
 cases e:look k l with
 | none=>
  cases e2:look k l.reverse with
  | none=>rfl
  | some x=>exact absurd (List.mem_map.2 ⟨_,List.mem_reverse.1 (fD e2),rfl⟩) (jY e)
 | some x=>exact jZ n2 (List.mem_reverse.2 (fD e))
theorem G7 {β:Type}(b n:Nat)(f:Nat→β):(List.range' b n).map f=(List.range' 0 n).map fun i=>f (b+i):=by
 apply List.ext_getElem?
 intro i
 rw [List.getElem?_map,List.getElem?_map]
 by_cases hi:i<n
 ·rw [List.getElem?_range' hi,List.getElem?_range' hi]
  simp
 ·rw [List.getElem?_eq_none (by simpa using hi),List.getElem?_eq_none (by simpa using hi)];rfl
theorem Vg:∃f:Nat→Nat,∀i,f (aU+i)=i:=⟨fun b=>b-aU,fun i=>Nat.add_sub_cancel_left _ _⟩
def yh (args:List V)(boxes:List (List V))(trees:List (List (List D))):S:= {env:=(bO 0 (args.map jS)).reverse,box:=(bO aU (boxes.map ny)).reverse,tree:=(bO aU trees).reverse,dG:= []}
def jK (n:Nat)(us:List Value):Act:= {tmps:=us.toArray++Array.replicate (n-us.toArray.size) undef,defers:= []}
theorem Cn {c:Ctx}{args:List V}{boxes:List (List V)}{trees:List (List (List D))}{y:Lay}{us:List Value}{w:World}(m:Mem c (oG boxes (bO 0 trees)) y w)(h:jk (aX c (oG boxes (bO 0 trees)) y) args us)(n:Nat){un:Nat→Nat}(hun:∀i,un (aU+i)=i)(hn:(jK n us).tmps.size≤aU):
  At {c with n:=(jK n us).tmps.size,bF:=fun b=>y.bl (un b),hF:=fun p=>y.hd (un p)} (yh args boxes trees) {bl:=fun b=>y.bl (un b),hd:=fun p=>y.hd (un p),T:=fun b=>y.T (un b),us:=fun b=>y.us (un b),w0:=y.w0,F:=y.F} (jK n us) w:=by
 have sub:=hun
 have kB:∀b,b∈((bO aU (boxes.map ny)).reverse.map (·.1))↔∃i,i<boxes.length∧b=aU+i:=by
  intro b
  rw [List.map_reverse,List.mem_reverse,gP,List.mem_range'_1,List.length_map]
  constructor
  ·intro h;exact⟨b-aU,by omega,by omega⟩
  ·rintro ⟨i,h1,h2⟩;omega
 have kT:∀b,b∈((bO aU trees).reverse.map (·.1))↔∃i,i<trees.length∧b=aU+i:=by
  intro b
  rw [List.map_reverse,List.mem_reverse,gP,List.mem_range'_1]
  constructor
  ·intro h;exact⟨b-aU,by omega,by omega⟩
  ·rintro ⟨i,h1,h2⟩;omega
 have E:Enter (aX c (oG boxes (bO 0 trees)) y) (aX {c with n:=(jK n us).tmps.size,bF:=fun b=>y.bl (un b),hF:=fun p=>y.hd (un p)} (yh args boxes trees) {bl:=fun b=>y.bl (un b),hd:=fun p=>y.hd (un p),T:=fun b=>y.T (un b),us:=fun b=>y.us (un b),w0:=y.w0,F:=y.F}):=by
  refine⟨rfl,fun b o ⟨p,hp,_⟩=>(by cases hp),rfl,fun i hi=>⟨?_,?_⟩,fun i hi=>⟨?_,?_⟩⟩
  ·have hi:i∈(bO 0 boxes).map (·.1):=hi
   rw [gP,List.mem_range'_1]at hi
   exact(kB _).2 ⟨i,by omega,rfl⟩
  ·show y.bl (un (aU+i))=y.bl i;rw [sub]
  ·have hi:i∈(bO 0 trees++([]:List (Nat×List (List D)))).map (·.1):=hi
   rw [List.append_nil,gP,List.mem_range'_1]at hi
   show aU+i∈((bO aU trees).reverse++([]:List (Nat×List (List D)))).map (·.1)
   rw [List.append_nil]
   exact(kT _).2 ⟨i,by omega,rfl⟩
  ·show y.hd (un (aU+i))=y.hd i;rw [sub]
 have nB:(((bO aU (boxes.map ny)).reverse).map (·.1)).Nodup:=by rw [List.map_reverse];exact(List.reverse_perm _).nodup_iff.2 jE
 have nT:(((bO aU trees).reverse).map (·.1)).Nodup:=by rw [List.map_reverse];exact(List.reverse_perm _).nodup_iff.2 jE
 refine⟨rfl,rfl,?_,fun t v e=>?_,fun b cs hb=>?_,fun p rows hp=>(by cases hp),nB,by show(((bO aU trees).reverse++([]:List (Nat×List (List D)))).map (·.1)).Nodup;rw [List.append_nil];exact nT,hn,fun i _ _=>⟨rfl,rfl⟩⟩
 ·have S0:St c.W w (dJ y.bl y.T y.us (bO 0 boxes)++(bW y.hd (bO 0 trees)++([]++c.L))):=m.st
  show St c.W w (dJ _ _ _ ((bO aU (boxes.map ny)).reverse)++(bW _ ((bO aU trees).reverse)++([]++c.L)))
  refine S0.perm (List.Perm.append ?_ (List.Perm.append ?_ (List.Perm.refl _)))
  ·rw [jV,jV,List.map_reverse,List.map_reverse,gP,gP,List.length_map,G7 aU]
   simp only [sub]
   exact(List.reverse_perm _).symm
  ·rw [nP _ jE,nP _ nT,List.map_reverse,List.map_reverse,gP,gP,G7 aU]
   simp only [sub]
   refine List.Perm.trans (List.Perm.of_eq (List.map_congr_left fun i hi=>?_)) (List.reverse_perm _).symm
   rw [ER jE,mF]
   have:=mF (l:=trees) (n:=0) i
   rw [Nat.zero_add]at this
   rw [this]
 ·have e:look t (bO 0 (args.map jS)).reverse=some v:=e
  rw [ER jE]at e
  have e2:=mF (l:=args.map jS) (n:=0) t
  rw [Nat.zero_add,e,List.getElem?_map]at e2
  obtain⟨v0,e3,rfl⟩:=Option.map_eq_some_iff.1 e2.symm
  obtain⟨u,e4,e5⟩:=h.get e3
  have:(jK n us).tmps.getD t undef=u:=by
   have hl:=(List.getElem?_eq_some_iff.1 e4).1
   rw [Array.getD_eq_getD_getElem?]
   show((us.toArray++Array.replicate _ undef)[t]?).getD undef=u
   rw [Array.getElem?_append_left (by simpa using hl),List.getElem?_toArray,e4];rfl
  rw [this]
  exact EP E e5
 ·have hb:(b,cs)∈(bO aU (boxes.map ny)).reverse:=hb
  have hl:=jZ nB hb
  obtain⟨i,h1,rfl⟩:=(kB b).1 (List.mem_map.2 ⟨_,hb,rfl⟩)
  rw [ER jE,mF,List.getElem?_map]at hl
  obtain⟨cs0,e3,rfl⟩:=Option.map_eq_some_iff.1 hl
  have e4:=mF (l:=boxes) (n:=0) i
  rw [Nat.zero_add,e3]at e4
  have:=m.box i cs0 (fD e4)
  show jk _ (ny cs0) (y.us (un (aU+i))).toList
  rw [sub]
  exact wU E this
def Vh:List (Nat×List (List D))→List Hd→List Pc
 | x::l,u::us=>gD u x.2::Vh l us
 | _,_=> []
theorem Qh:∀{l:List (Nat×List (List D))} {H:List Hd} (x:Nat×List (List D)) (u:Hd),H.length=l.length→Vh (l++ [x]) (H++ [u])=Vh l H++ [gD u x.2]
 | [],[],x,u,_=>rfl
 | [],_::_,x,u,h=>by simp at h
 | y::l,[],x,u,h=>by simp at h
 | y::l,v::H,x,u,h=>by
  simp only [List.cons_append,Vh]
  rw [Qh x u (by simpa using h)]
def DN (s:S)(y:Lay)(p:Nat):Pc:=gD (y.hd p) ((s.rows (.own p)).getD [])
structure Out (s:S) (y:Lay) (n:Nat) (l:List (Nat×List (List D))) (H:List Hd):Prop where
 len:H.length=l.length
 ex:∃N:List Nat,N.Nodup∧(∀p∈N,p∈l.map (·.1))∧(∀p∈N,¬(aU≤p∧p<aU+n))∧(∀p∈N,∃rows,s.rows (.own p)=some rows)∧∀(W w:World) (R:List Pc),St W w (N.map (DN s y)++R)→St W w (Vh l H++R)
structure ahV (ρ ρ':Rel) (s:S) (n:Nat) (H:List Hd):Prop where
 K:ρ'.K=ρ.K
 src:ρ'.src=ρ.src
 b:∀i,ρ.Lb (aU+i)→ρ'.Lb i∧ρ'.bl i=ρ.bl (aU+i)
 t:∀q,q<n→(look (aU+q) s.tree).isSome=true→ρ'.Lt q∧ρ'.hd q=ρ.hd (aU+q)
 h:∀k u,H[k]?=some u→ρ'.Lt (n+k)∧ρ'.hd (n+k)=u
section
variable {ρ:Rel} {s:S} {y:Lay} {n:Nat}
def ai2 (ρ:Rel)(s:S)(n:Nat)(H:List Hd)(v':V)(u:Value):Prop:= ∀(ρ':Rel) (Hf:List Hd),H <+: Hf→ahV ρ ρ' s n Hf→RV ρ' v' u
def aff (ρ:Rel)(s:S)(n:Nat)(H:List Hd)(vs:List V)(us:List Value):Prop:= ∀(ρ':Rel) (Hf:List Hd),H <+: Hf→ahV ρ ρ' s n Hf→jk ρ' vs us
mutual
theorem Qi (hhd:ρ.hd=y.hd):∀{l l':List (Nat×List (List D))} {H:List Hd} {v v':V} {u:Value},Out s y n l H→y5 s n l v=some (v',l')→RV ρ v u→∃H',H <+: H'∧Out s y n l' H'∧ai2 ρ s n H' v' u
 | l,l',H, .v x,v',u,o,h,hv=>by
  simp only [y5]at h;injection h with h;injection h with h1 h2;subst h1;subst h2
  exact⟨H,List.prefix_refl _,o,fun _ _ _ _=>hv⟩
 | l,l',H, .dead,v',u,o,h,hv=>by
  simp only [y5]at h;injection h with h;injection h with h1 h2;subst h1;subst h2
  exact⟨H,List.prefix_refl _,o,fun _ _ _ _=>trivial⟩
 | l,l',H, .aP q rows,v',u,o,h,hv=>by
  simp only [y5]at h;injection h with h;injection h with h1 h2;subst h1;subst h2
  exact⟨H,List.prefix_refl _,o,fun ρ' Hf _ O=>⟨by rw [O.K];exact hv.1,fun j e=>by rw [O.src];exact hv.2 j e⟩⟩
 | l,l',H, .nil,v',u,o,h,hv=>by
  simp only [y5]at h;injection h with h;injection h with h1 h2;subst h1;subst h2
  have hu:u= .slice none 0 0:=hv
  subst hu
  refine⟨H++ [qR],List.prefix_append _ _,⟨by simp [o.len],?_⟩,fun ρ' Hf le O=>?_⟩
  ·obtain⟨N,n1,n2,n3,n4,n5⟩:=o.ex
   refine⟨N,n1,fun p hp=>by rw [List.map_append];exact List.mem_append_left _ (n2 p hp),n3,n4,fun W w R S=>?_⟩
   rw [Qh _ _ o.len,List.append_assoc]
   have S2:=(n5 W w R S).more (Ext.refl w) (h:=gD qR []) (F:= []) (kL.nil w) List.nodup_nil (fun b hb=>by cases hb)
   exact S2.perm List.perm_middle.symm
  ·have hk:=O.h l.length qR (yg le (by rw [←o.len];simp))
   exact⟨hk.1,by rw [hk.2];rfl⟩
 | l,l',H, .own p,v',u,o,h,hv=>by
  simp only [y5]at h
  by_cases hp:aU≤p∧p<aU+n
  ·rw [if_pos hp]at h
   obtain⟨h1,h⟩:=aB h
   injection h with h;injection h with h2 h3;subst h2;subst h3
   refine⟨H,List.prefix_refl _,o,fun ρ' Hf le O=>?_⟩
   obtain⟨i,hi⟩:∃i,p=aU+i:=⟨p-aU,by omega⟩
   have e:p-aU=i:=by omega
   rw [e]
   rw [hi]at hp h1 hv
   obtain⟨k1,k2⟩:=O.t i (by omega) h1
   exact⟨k1,by rw [k2];exact hv.2⟩
  ·rw [if_neg hp]at h
   obtain⟨rows,h1,h⟩:=aj h
   obtain⟨h2,h⟩:=aB h
   injection h with h;injection h with h3 h4;subst h3;subst h4
   have hnone:=jY (oH h2)
   have hu:u=(y.hd p).v:=by rw [←hhd];exact hv.2
   refine⟨H++ [y.hd p],List.prefix_append _ _,⟨by simp [o.len],?_⟩,fun ρ' Hf le O=>?_⟩
   ·obtain⟨N,n1,n2,n3,n4,n5⟩:=o.ex
    refine⟨p::N,List.nodup_cons.2 ⟨fun hx=>hnone (n2 p hx),n1⟩,fun q hq=>?_,fun q hq=>?_,fun q hq=>?_,fun W w R S=>?_⟩
    ·rw [List.map_append]
     rcases List.mem_cons.1 hq with hq|hq
     ·subst hq;exact List.mem_append_right _ (by simp)
     ·exact List.mem_append_left _ (n2 q hq)
    ·rcases List.mem_cons.1 hq with hq|hq
     ·subst hq;exact hp
     ·exact n3 q hq
    ·rcases List.mem_cons.1 hq with hq|hq
     ·subst hq;exact⟨rows,h1⟩
     ·exact n4 q hq
    ·rw [Qh _ _ o.len,List.append_assoc]
     refine n5 W w _ (S.perm ?_)
     rw [List.map_cons,List.cons_append]
     have e:DN s y p=gD (y.hd p) rows:=by unfold DN;rw [h1];rfl
     rw [e]
     exact List.perm_middle.symm
   ·have hk:=O.h l.length (y.hd p) (yg le (by rw [←o.len];simp))
    exact⟨hk.1,by rw [hk.2];exact hu⟩
 | l,l',H, .ref b off,v',u,o,h,hv=>by
  simp only [y5]at h
  obtain⟨h1,h⟩:=aB h
  injection h with h;injection h with h2 h3;subst h2;subst h3
  refine⟨H,List.prefix_refl _,o,fun ρ' Hf le O=>?_⟩
  obtain⟨i,hi⟩:∃i,b=aU+i:=⟨b-aU,by omega⟩
  have e:b-aU=i:=by omega
  rw [e]
  rw [hi]at hv
  obtain⟨k1,k2⟩:=O.b i hv.1
  exact⟨k1,by rw [k2];exact hv.2⟩
 | l,l',H, .agg cs,v',u,o,h,hv=>by
  simp only [y5]at h
  obtain⟨x,h1,h⟩:=aj h
  injection h with h;injection h with h2 h3;subst h2;subst h3
  obtain⟨us,e1,e2⟩:=hv
  obtain⟨H',k1,k2,k3⟩:=ES hhd (l':=x.2) (vs':=x.1) o h1 e2
  exact⟨H',k1,k2,fun ρ' Hf le O=>⟨us,e1,k3 ρ' Hf le O⟩⟩
 | l,l',H, .fK cs,v',u,o,h,hv=>by
  simp only [y5]at h
  obtain⟨x,h1,h⟩:=aj h
  injection h with h;injection h with h2 h3;subst h2;subst h3
  obtain⟨us,e1,e2⟩:=hv
  obtain⟨H',k1,k2,k3⟩:=ES hhd (l':=x.2) (vs':=x.1) o h1 e2
  exact⟨H',k1,k2,fun ρ' Hf le O=>⟨us,e1,k3 ρ' Hf le O⟩⟩
 | l,l',H, .fz _,v',u,o,h,hv=>by simp only [y5]at h;cases h
 | l,l',H, .mp _,v',u,o,h,hv=>by simp only [y5]at h;cases h
 | l,l',H, .inn _ _ _ _,v',u,o,h,hv=>by simp only [y5]at h;cases h
 | l,l',H, .pe _ _ _ _,v',u,o,h,hv=>by simp only [y5]at h;cases h
 | l,l',H, .fn _ _,v',u,o,h,hv=>by simp only [y5]at h;cases h
theorem ES (hhd:ρ.hd=y.hd):∀{l l':List (Nat×List (List D))} {H:List Hd} {vs vs':List V} {us:List Value},Out s y n l H→MF s n l vs=some (vs',l')→jk ρ vs us→∃H',H <+: H'∧Out s y n l' H'∧aff ρ s n H' vs' us
 | l,l',H,[],vs',us,o,h,hv=>by
  simp only [MF]at h;injection h with h;injection h with h1 h2;subst h1;subst h2
  exact⟨H,List.prefix_refl _,o,fun _ _ _ _=>hv⟩
 | l,l',H,v::vs,vs',us,o,h,hv=>by
  simp only [MF]at h
  obtain⟨x,h1,h⟩:=aj h
  obtain⟨z,h2,h⟩:=aj h
  injection h with h;injection h with h3 h4;subst h3;subst h4
  obtain⟨u,q,rfl,e1,e2⟩:=hv
  obtain⟨H1,a1,a2,a3⟩:=Qi hhd (l':=x.2) (v':=x.1) o h1 e1
  obtain⟨H2,b1,b2,b3⟩:=ES hhd (l':=z.2) (vs':=z.1) a2 h2 e2
  exact⟨H2,a1.trans b1,b2,fun ρ' Hf le O=>⟨u,q,rfl,a3 ρ' Hf (b1.trans le) O,b3 ρ' Hf le O⟩⟩
end
theorem Qj (hhd:ρ.hd=y.hd)(hB:∀b cs,look b s.box=some cs→jk ρ cs (y.us b).toList):∀{bs:List Nat} {l l':List (Nat×List (List D))} {H:List Hd} {css:List (List V)},Out s y n l H→UU s n l bs=some (css,l')→
  ∃H',H <+: H'∧Out s y n l' H'∧css.length=bs.length∧(∀b∈bs,aU+b∈s.box.map (·.1))∧∀(i b:Nat) (cs:List V),bs[i]?=some b→css[i]?=some cs→aff ρ s n H' cs (y.us (aU+b)).toList
 | [],l,l',H,css,o,h=>by
  simp only [UU]at h;injection h with h;injection h with h1 h2;subst h1;subst h2
  exact⟨H,List.prefix_refl _,o,rfl,(fun b hb=>by cases hb),fun i b cs e=>by simp at e⟩
 | b::bs,l,l',H,css,o,h=>by
  simp only [UU]at h
  obtain⟨cs,h1,h⟩:=aj h
  obtain⟨x,h2,h⟩:=aj h
  obtain⟨z,h3,h⟩:=aj h
  injection h with h;injection h with h4 h5;subst h4;subst h5
  obtain⟨H1,a1,a2,a3⟩:=ES hhd (l':=x.2) (vs':=x.1) o h2 (hB _ cs h1)
  obtain⟨H2,b1,b2,b3,b4,b5⟩:=Qj hhd hB (l':=z.2) (css:=z.1) a2 h3
  refine⟨H2,a1.trans b1,b2,by rw [List.length_cons,List.length_cons,b3],fun b' hb=>?_,fun i b' cs' e1 e2=>?_⟩
  ·rcases List.mem_cons.1 hb with hb|hb
   ·rw [hb];exact dX.2 ⟨cs,h1⟩
   ·exact b4 b' hb
  ·cases i with
   | zero=>simp at e1 e2;rw [←e1,←e2];exact fun ρ' Hf le O=>a3 ρ' Hf (b1.trans le) O
   | succ i=>exact b5 i b' cs' (by simpa using e1) (by simpa using e2)
end
theorem wV (s:S):∀(n j:Nat),iw s j n=(List.range' j n).filterMap fun q=>(look (aU+q) s.tree).map fun rows=>(q,rows)
 | 0,j=>rfl
 | n+1,j=>by
  simp only [iw,List.range'_succ]
  rw [wV s n (j+1)]
  cases e:look (aU+j) s.tree with
  | none=>simp only [I7,e,List.filterMap_cons,Option.map_none]
  | some rows=>simp only [I7,e,List.filterMap_cons,Option.map_some]
theorem NU {α:Type}:∀(l:List (Nat×α)) (n:Nat),kK n l=bO n (l.map (·.2))
 | [],_=>rfl
 | x::r,n=>by simp only [kK,List.map_cons,bO];rw [NU r]
theorem F7 {hd:Nat→Hd}:∀{l:List (Nat×List (List D))} {H:List Hd} {n:Nat},H.length=l.length→(∀k u,H[k]?=some u→hd (n+k)=u)→bW hd (kK n l)=Vh l H
 | [],[],_,_,_=>rfl
 | [],_::_,_,h,_=>by simp at h
 | x::l,[],_,h,_=>by simp at h
 | x::l,u::H,n,h,k=>by
  have h0:=k 0 u rfl
  rw [Nat.add_zero]at h0
  have:=F7 (hd:=hd) (l:=l) (H:=H) (n:=n+1) (by simpa using h) fun j v e=>by rw [show n+1+j=n+(j+1) by omega];exact k (j+1) v (by simpa using e)
  unfold bW at this⊢
  simp only [kK,List.map_cons,Vh,h0]
  rw [this]
theorem St.thaw {W w:World}{y:Lay}{R:List Pc}:∀{l:List (Nat×List (List D))},(∀p rows,(p,rows)∈l→kL (y.w0 p) rows (y.hd p) (y.F p))→St W w (gI y.w0 y.F l++R)→St W w (bW y.hd l++R)
 | [],_,S=>S
 | x::l,h,S=>by
  have S1:St W w (lI (y.w0 x.1) (y.F x.1)::(gI y.w0 y.F l++R)):=S
  obtain⟨F,s,n,hb⟩:=S1.sep
  obtain⟨F1,G,rfl,⟨rfl,e⟩,g⟩:=s.lF
  have S2:St W w (gD (y.hd x.1) x.2::(gI y.w0 y.F l++R)):=⟨S1.ext,_,Sep.cons (h:=gD (y.hd x.1) x.2) ((h x.1 x.2 (by simp)).st e) g,n,hb⟩
  have S3:=(S2.perm (List.perm_middle (l₁:=gI y.w0 y.F l)).symm)
  have S4:=St.thaw (l:=l) (fun p rows hp=>h p rows (by simp [hp])) S3
  exact S4.perm List.perm_middle
section
variable {P:Program}
def MV (tmps:Array Value):ResultVar→Sem Value
 | .tmp t=>pure (tmps.getD t undef)
 | .cell b t=>do loadVar t (←asAddr (tmps.getD b undef))
theorem aac (fn:Func)(tmps:Array Value):results fn tmps=(do
  let vs ←fn.results.mapM (MV tmps)
  pure (if h:vs.size=1 then vs[0]else .tuple vs)):=by
 have e:(fun| .tmp t=>pure (tmps.getD t undef)| .cell a t=>do loadVar t (←asAddr (tmps.getD a undef)):ResultVar→Sem Value)=MV tmps:=by
  funext x;cases x<;>rfl
 rw [←e];rfl
theorem TU {c:Ctx}{s:S}{y:Lay}{a:Act}{w:World}(A:At c s y a w):∀{rs:List ResultVar} {vs:List V},bG (KX P s) rs=some vs→∃us,(rs.mapM (MV a.tmps)).run P w= .ok us w∧jk (aX c s y) vs us
 | [],vs,h=>by simp only [bG]at h;injection h with h;subst h;exact⟨[],by simp,rfl⟩
 | x::rs,vs,h=>by
  simp only [bG]at h
  obtain⟨v,h1,h⟩:=aj h
  obtain⟨vs',h2,h⟩:=aj h
  injection h with h;subst h
  obtain⟨us,k1,k2⟩:=TU A h2
  cases x with
  | tmp t=>
   simp only [KX]at h1
   refine⟨_::us,?_,_,us,rfl,A.env t v h1,k2⟩
   rw [List.mapM_cons]
   simp only [MV,Sem.run_bind,Sem.run_pure,Result.andThen_ok,k1]
  | cell b t=>
   simp only [KX]at h1
   obtain⟨p,h3,h4⟩:=aj h1
   have hp:=A.env b p h3
   obtain⟨u,hr,hv⟩:=A.loadAt (P:=P) hp h4
   have akt:∃ad,a.tmps.getD b undef= .pointer (some ad):=by
    cases p<;>simp only [S.load]at h4<;>try (cases h4;done)
    case ref b' off=>exact⟨_,hp.2⟩
    case pe base k i off=>obtain⟨ub,_,g,q,n,cc,_,_,e⟩:=hp;exact⟨_,e⟩
   obtain⟨ad,had⟩:=akt
   rw [had]at hr
   have hr:(loadVar t ad).run P w= .ok u w:=by
    unfold Instr.loadAt at hr
    simpa only [Instr.sureAddr,Sem.run_bind,Sem.run_pure,Result.andThen_ok] using hr
   refine⟨u::us,?_,u,us,rfl,hv,k2⟩
   rw [List.mapM_cons]
   simp only [MV,Sem.run_bind,Sem.run_pure,Result.andThen_ok,k1,had,asAddr,hr]
theorem yS {c:Ctx}{s:S}{y:Lay}{a:Act}{w:World}(A:At c s y a w){fn:Func}{vs:List V}(h:bG (KX P s) fn.results.toList=some vs):∃u,(results fn a.tmps).run P w= .ok u w∧RV (aX c s y) (F5 vs) u:=by
 obtain⟨us,h1,h2⟩:=TU A h
 have hm:(fn.results.mapM (MV a.tmps)).run P w= .ok us.toArray w:=by
  rw [Array.mapM_eq_mapM_toList]
  simp only [Sem.run_bind,Sem.run_map]
  rw [h1];rfl
 have hl:=h2.len
 rw [aac,Sem.run_bind,hm]
 simp only [Result.andThen_ok]
 cases vs with
 | nil=>
  have:us= []:=List.eq_nil_of_length_eq_zero hl
  subst this
  exact⟨.tuple #[],rfl,[],rfl,rfl⟩
 | cons v vs=>
  obtain⟨u,q,rfl,e1,e2⟩:=h2
  cases vs with
  | nil=>
   have:q= []:=e2
   subst this
   exact⟨u,rfl,e1⟩
  | cons v2 vs=>
   refine⟨.tuple (u::q).toArray,?_,u::q,rfl,u,q,rfl,e1,e2⟩
   have hne:¬((u::q).toArray.size=1):=by
    obtain⟨u2,q2,rfl,_⟩:=e2
    simp
   rw [dif_neg hne];rfl
end
section
variable {P:Program}
theorem G8 {c:Ctx}{s:S}{y:Lay}{a:Act}{w:World}(A:At c s y a w){rs:List ResultVar}{nb nt:Nat}{r:Ay}{u:Value}{n0:Nat}{bF':Nat→Nat}{hF':Nat→Hd}{vs:List V}(hvs:bG (KX P s) rs=some vs)(hu:RV (aX c s y) (F5 vs) u)(h:sQ P rs nb nt s=some r):
  ∃y':Lay,Mem {c with n:=n0,bF:=bF',hF:=hF'} (oG r.box r.tree) y' w∧RV (aX {c with n:=n0,bF:=bF',hF:=hF'} (oG r.box r.tree) y') r.val u∧r.box.length=nb∧(∀i,i<nb→y'.bl i=y.bl (aU+i))∧∀q,q<nt→y'.hd q=y.hd (aU+q):=by
 unfold sQ at h
 rw [hvs,aY]at h
 obtain⟨x,h1,h⟩:=aj h
 obtain⟨z,h2,h⟩:=aj h
 obtain⟨h3,h⟩:=aB h
 injection h with h;subst h
 have o0:Out s y nt [] []:=⟨rfl,[],List.nodup_nil,(fun p hp=>by cases hp),(fun p hp=>by cases hp),(fun p hp=>by cases hp),fun W w R S=>S⟩
 obtain⟨H1,a1,a2,a3⟩:=Qi (ρ:=aX c s y) (y:=y) rfl (l':=x.2) (v':=x.1) o0 h1 hu
 obtain⟨H,b1,b2,b3,b4,b5⟩:=Qj (ρ:=aX c s y) (y:=y) rfl (fun b cs e=>A.box b cs (fD e)) (l':=z.2) (css:=z.1) a2 h2
 rw [List.length_range']at b3
 have An:=A.nt
 have An2:=An
 rw [List.map_append,List.nodup_append]at An2
 obtain⟨N,n1,n2,n3,n4,n5⟩:=b2.ex
 let y2:Lay:= {bl:=fun i=>y.bl (aU+i),hd:=fun q=>if q<nt then y.hd (aU+q)else H[q-nt]?.getD qR,T:=fun i=>y.T (aU+i),us:=fun i=>y.us (aU+i),w0:=y.w0,F:=y.F}
 have hlow:∀q,q<nt→y2.hd q=y.hd (aU+q):=fun q hq=>if_pos hq
 have hhigh:∀k u,H[k]?=some u→y2.hd (nt+k)=u:=fun k u e=>by
  show(if nt+k<nt then _ else H[nt+k-nt]?.getD qR)=u
  rw [if_neg (by omega),Nat.add_sub_cancel_left,e];rfl
 have aci:∀q,q∈(iw s 0 nt).map (·.1)↔q<nt∧∃rows,look (aU+q) s.tree=some rows:=by
  intro q
  rw [wV,List.mem_map]
  constructor
  ·rintro ⟨x,hx,rfl⟩
   obtain⟨q',h4,h5⟩:=List.mem_filterMap.1 hx
   obtain⟨rows,h6,rfl⟩:=Option.map_eq_some_iff.1 h5
   rw [List.mem_range'_1]at h4
   exact⟨by omega,rows,h6⟩
  ·rintro ⟨h4,rows,h5⟩
   exact⟨(q,rows),List.mem_filterMap.2 ⟨q,by rw [List.mem_range'_1];omega,by rw [h5];rfl⟩,rfl⟩
 have ai3:(kK nt z.2).map (·.1)=List.range' nt z.2.length:=by rw [NU,gP,List.length_map]
 have hrt:(iw s 0 nt++kK nt z.2).map (·.1)=(iw s 0 nt).map (·.1)++List.range' nt z.2.length:=by rw [List.map_append,ai3]
 have Os:ahV (aX c s y) (aX {c with n:=n0,bF:=bF',hF:=hF'} (oG z.1 (iw s 0 nt++kK nt z.2)) y2) s nt H:=by
  refine⟨rfl,rfl,fun i hi=>⟨?_,rfl⟩,fun q hq e=>⟨?_,hlow q hq⟩,fun k u e=>⟨?_,hhigh k u e⟩⟩
  ·show i∈(bO 0 z.1).map (·.1)
   rw [gP,List.mem_range'_1,b3]
   obtain⟨xx,hx1,hx2⟩:=List.mem_map.1 (show aU+i∈s.box.map (·.1)from hi)
   have:=List.all_eq_true.1 h3 xx hx1
   rw [decide_eq_true_eq,hx2]at this
   omega
  ·show q∈((iw s 0 nt++kK nt z.2)++([]:List (Nat×List (List D)))).map (·.1)
   rw [List.append_nil,hrt,List.mem_append]
   exact .inl ((aci q).2 ⟨hq,Option.isSome_iff_exists.1 e⟩)
  ·show nt+k∈((iw s 0 nt++kK nt z.2)++([]:List (Nat×List (List D)))).map (·.1)
   rw [List.append_nil,hrt,List.mem_append]
   refine .inr ?_
   rw [List.mem_range'_1,←b2.len]
   have:=(List.getElem?_eq_some_iff.1 e).1
   omega
 refine⟨y2,⟨?_,fun b cs hb=>?_,fun p rows hp=>(by cases hp),jE,?_⟩,a3 _ _ b1 Os,b3,fun i _=>rfl,hlow⟩
 ·
  have hall:∀n,(∃rows,s.rows (.own n)=some rows)↔n∈(s.tree++s.dG).map (·.1):=by
   intro n
   rw [List.map_append,List.mem_append,dX,dX]
   simp only [S.rows]
   cases look n s.tree with
   | some r0=>simp [mD]
   | none=>simp [mD]
  have S1:St c.W w ((s.box.map (·.1)).map (fun b=>rowP (y.bl b) (y.T b) (y.us b))++(((s.tree++s.dG).map (·.1)).map (DN s y)++c.L)):=by
   have S0:=A.st
   have S2:St c.W w (gI y.w0 y.F s.dG++(dJ y.bl y.T y.us s.box++(bW y.hd s.tree++c.L))):=S0.perm (by
    have:=XA (dJ y.bl y.T y.us s.box) [] (bW y.hd s.tree) (gI y.w0 y.F s.dG) c.L
    simp only [List.append_nil,List.nil_append]at this
    rw [←List.append_assoc,←List.append_assoc]
    refine((List.Perm.append_right c.L List.perm_append_comm).trans ?_)
    simp only [List.append_assoc]
    exact List.Perm.refl _)
   have S3:=St.thaw A.dG S2
   refine S3.perm ?_
   have e1:bW y.hd s.tree++bW y.hd s.dG=((s.tree++s.dG).map (·.1)).map (DN s y):=by
    rw [List.map_append,List.map_append,nP _ An2.1,nP _ An2.2.1]
    congr 1
    ·refine List.map_congr_left fun p hp=>?_
     obtain⟨rows,hr⟩:=dX.1 hp
     unfold DN
     simp only [S.rows,hr,mD]
    ·refine List.map_congr_left fun p hp=>?_
     obtain⟨rows,hr⟩:=dX.1 hp
     have hn:look p s.tree=none:=by
      cases e:look p s.tree with
      | none=>rfl
      | some r0=>exact absurd rfl (An2.2.2 p (dX.2 ⟨r0,e⟩) p hp)
     unfold DN
     simp only [S.rows,hr,hn,mD]
   rw [←e1,jV]
   refine(List.perm_append_comm (l₁:=bW y.hd s.dG)).trans ?_
   rw [List.append_assoc,List.append_assoc]
   refine List.Perm.append_left _ ?_
   rw [List.append_assoc]
   exact List.Perm.append_left _ List.perm_append_comm
  have hbk:∀b∈List.range' aU nb,b∈s.box.map (·.1):=by
   intro b hb
   rw [List.mem_range'_1]at hb
   have:=b4 (b-aU) (by rw [List.mem_range'_1];omega)
   rw [show aU+(b-aU)=b by omega]at this
   exact this
  have p1:=(vg A.nb List.nodup_range' hbk).map fun b=>rowP (y.bl b) (y.T b) (y.us b)
  rw [List.map_append]at p1
  have kn:((iw s 0 nt).map (·.1)).Nodup:=by
   rw [wV,List.nodup_iff_pairwise_ne,List.pairwise_map,List.pairwise_filterMap]
   refine List.Pairwise.imp (fun {q q'} hne b hb b' hb' e=>?_) (List.nodup_iff_pairwise_ne.1 (List.nodup_range' (s:=0) (n:=nt)))
   obtain⟨r1,_,rfl⟩:=Option.map_eq_some_iff.1 hb
   obtain⟨r2,_,rfl⟩:=Option.map_eq_some_iff.1 hb'
   exact hne e
  have hnd:(((iw s 0 nt).map (·.1)).map (fun q=>aU+q)++N).Nodup:=by
   refine List.nodup_append.2 ⟨?_,n1,fun x hx p hp e=>?_⟩
   ·rw [List.nodup_iff_pairwise_ne,List.pairwise_map]
    exact List.Pairwise.imp (fun {q q'} hne e=>hne (by omega)) (List.nodup_iff_pairwise_ne.1 kn)
   ·obtain⟨q,hq,rfl⟩:=List.mem_map.1 hx
    have hq2:=((aci q).1 hq).1
    rw [←e]at hp
    exact n3 _ hp (by omega)
  have hsub:∀p∈(((iw s 0 nt).map (·.1)).map (fun q=>aU+q)++N),p∈(s.tree++s.dG).map (·.1):=by
   intro p hp
   rcases List.mem_append.1 hp with hp|hp
   ·obtain⟨q,hq,rfl⟩:=List.mem_map.1 hp
    obtain⟨_,rows,hr⟩:=(aci q).1 hq
    rw [List.map_append,List.mem_append];exact .inl (dX.2 ⟨rows,hr⟩)
   ·exact(hall p).1 (n4 p hp)
  have p2:=((vg An hnd hsub).map (DN s y)).trans (List.Perm.of_eq (by rw [List.map_append,List.map_append]))
  have S4:=S1.perm (List.Perm.append p1 (List.Perm.append p2 (List.Perm.refl c.L)))
  have S5:St c.W w (N.map (DN s y)++((List.range' aU nb).map (fun b=>rowP (y.bl b) (y.T b) (y.us b))++(((iw s 0 nt).map (·.1)).map (fun q=>aU+q)).map (DN s y)++c.L)):=by
   have hp:∀(A B C D E Z:List Pc),((A++B)++(((C++D)++E)++Z)).Perm ((B++E)++(D++((A++C)++Z))):=by
    intro A B C D E Z
    have q1:((A++B)++(((C++D)++E)++Z)).Perm (B++(A++(((C++D)++E)++Z))):=by
     rw [←List.append_assoc B];exact List.Perm.append_right _ List.perm_append_comm
    refine q1.trans ?_
    rw [List.append_assoc B E]
    refine List.Perm.append_left _ ?_
    have q2:(A++(((C++D)++E)++Z)).Perm (E++(A++((C++D)++Z))):=by
     have:=List.Perm.append_right Z (List.perm_append_comm (l₁:=C++D) (l₂:=E))
     refine(List.Perm.append_left A this).trans ?_
     rw [List.append_assoc E,←List.append_assoc A,←List.append_assoc E]
     exact List.Perm.append_right _ List.perm_append_comm
    refine q2.trans (List.Perm.append_left _ ?_)
    have q3:=List.Perm.append_right Z (List.perm_append_comm (l₁:=C) (l₂:=D))
    refine(List.Perm.append_left A q3).trans ?_
    rw [List.append_assoc D,←List.append_assoc A,List.append_assoc A C,←List.append_assoc D]
    exact List.Perm.append_right _ List.perm_append_comm
   exact St.rU (S4.perm (hp _ _ _ _ _ _))
  have S6:=n5 _ _ _ S5
  show St c.W w (dJ y2.bl y2.T y2.us (bO 0 z.1)++(bW y2.hd (iw s 0 nt++kK nt z.2)++([]++c.L)))
  have e1:dJ y2.bl y2.T y2.us (bO 0 z.1)=(List.range' aU nb).map fun b=>rowP (y.bl b) (y.T b) (y.us b):=by
   rw [jV,gP,b3,G7 aU]
  have e2:bW y2.hd (iw s 0 nt++kK nt z.2)=(((iw s 0 nt).map (·.1)).map (fun q=>aU+q)).map (DN s y)++Vh z.2 H:=by
   have e3:bW y2.hd (kK nt z.2)=Vh z.2 H:=F7 b2.len hhigh
   have e4:bW y2.hd (iw s 0 nt)=(((iw s 0 nt).map (·.1)).map (fun q=>aU+q)).map (DN s y):=by
    unfold bW
    rw [List.map_map,List.map_map]
    refine List.map_congr_left fun x hx=>?_
    rw [wV]at hx
    obtain⟨q',h4,h5⟩:=List.mem_filterMap.1 hx
    obtain⟨rows,h6,rfl⟩:=Option.map_eq_some_iff.1 h5
    rw [List.mem_range'_1]at h4
    simp only [Function.comp]
    rw [hlow q' (by omega)]
    unfold DN
    simp only [S.rows,h6,mD,Option.getD_some]
   rw [←e3,←e4];unfold bW;rw [List.map_append]
  rw [e1,e2,List.nil_append]
  refine S6.perm ?_
  refine List.perm_append_comm.trans ?_
  rw [List.append_assoc,List.append_assoc]
  refine List.Perm.append_left _ ?_
  rw [List.append_assoc]
  exact List.Perm.append_left _ List.perm_append_comm
 ·have hl:=jZ jE (show(b,cs)∈bO 0 z.1 from hb)
  have e5:=mF (l:=z.1) (n:=0) b
  rw [Nat.zero_add,hl]at e5
  have hlt:b<nb:=by rw [←b3];exact(List.getElem?_eq_some_iff.1 e5.symm).1
  exact b5 b b cs (by rw [List.getElem?_range' hlt];simp) e5.symm _ _ (List.prefix_refl _) Os
 ·show((iw s 0 nt++kK nt z.2++([]:List (Nat×List (List D)))).map (·.1)).Nodup
  have kn:((iw s 0 nt).map (·.1)).Nodup:=by
   rw [wV,List.nodup_iff_pairwise_ne,List.pairwise_map,List.pairwise_filterMap]
   refine List.Pairwise.imp (fun {q q'} hne b hb b' hb' e=>?_) (List.nodup_iff_pairwise_ne.1 (List.nodup_range' (s:=0) (n:=nt)))
   obtain⟨r1,_,rfl⟩:=Option.map_eq_some_iff.1 hb
   obtain⟨r2,_,rfl⟩:=Option.map_eq_some_iff.1 hb'
   exact hne e
  rw [List.append_nil,hrt,List.nodup_append]
  refine⟨kn,List.nodup_range',fun q hq q' hq' e=>?_⟩
  have:=((aci q).1 hq).1
  rw [List.mem_range'_1]at hq'
  omega
theorem mK {gh:mg}{n m:Nat}(h:n≤m):∀(x:Code),jU gh n x=true→jU gh m x=true
 | .region _ ops d,k=>by
  unfold jU at k⊢
  rw [Bool.and_eq_true]at k⊢
  refine⟨List.all_eq_true.2 fun o ho=>?_,k.2⟩
  have:=List.all_eq_true.1 k.1 o ho
  unfold fM at this⊢
  split at this
  ·simp at this⊢;omega
  ·rfl
 | .seq x y,k=>by unfold jU at k⊢;rw [Bool.and_eq_true]at k⊢;exact⟨mK h x k.1,mK h y k.2⟩
 | .cond _ x y,k=>by unfold jU at k⊢;rw [Bool.and_eq_true]at k⊢;exact⟨mK h x k.1,mK h y k.2⟩
 | .block _ x,k=>by unfold jU at k⊢;exact mK h x k
 | .loop x,k=>by unfold jU at k⊢;exact mK h x k
 | .scope x,k=>by unfold jU at k⊢;exact mK h x k
 | .skip,_=>rfl
 | .label _,_=>rfl
 | .exit _,_=>rfl
 | .ret,_=>rfl
 | .goto _,k=>k
 | .rangeFunc ..,k=>k
 | .refuse ..,k=>k
theorem adg {G : List (FuncId × Bool × aN)} (hG : ∀ f M, look f G = some M → aF P f M.2) {gh : mg} (hM : EN gh) {f : FuncId} {fn : Func} {x : Code} (hf : P.funcs[f]? = some fn) (hb : fn.body = some x) (hn : (fn.name == "runtime.NumGoroutine") = false) (hsm : fn.ntmps ≤ 1000000) (hx : jU gh fn.ntmps x = true) (hm : P.follows .mixedOrders = true) : aF P f (aG P G gh f) := by
 refine⟨⟨fn,hf,hn,by rw [hb];rfl⟩,fun c args boxes trees r h y us w m hargs=>?_⟩
 unfold aG at h
 rw [hf,aY,hb,aY]at h
 obtain⟨⟨hal,ai4,ai5⟩,h⟩:=aB h
 obtain⟨e,h1,h⟩:=aj h
 obtain⟨un,hun⟩:=Vg
 have hle:us.length≤1000:=by rw [hargs.len];exact hal
 have hsz0:(jK fn.ntmps us).tmps.size=us.length+(fn.ntmps-us.length):=by
  show(us.toArray++Array.replicate (fn.ntmps-us.toArray.size) undef).size=_
  rw [Array.size_append,Array.size_replicate,List.size_toArray]
 have hsz:fn.ntmps≤(jK fn.ntmps us).tmps.size:=by rw [hsz0];omega
 have hpb:(jK fn.ntmps us).tmps.size≤aU:=by rw [hsz0];unfold aU;omega
 have A:=Cn m hargs fn.ntmps hun hpb
 refine calls_of_wp hf hb ?_
 refine pJ (c:= {c with n:=(jK fn.ntmps us).tmps.size,bF:=fun b=>y.bl (un b),hF:=fun p=>y.hd (un p)}) (DL hG) hM hm x (.on (yh args boxes trees)) e (jK fn.ntmps us) w _ (mK hsz x hx) h1 ⟨_,A⟩ fun a' w' g=>?_
 obtain⟨ex,q⟩:=e
 have fin:∀s,DK {c with n:=(jK fn.ntmps us).tmps.size,bF:=fun b=>y.bl (un b),hF:=fun p=>y.hd (un p)} (.on s) a' w'→sQ P fn.results.toList boxes.length trees.length s=some r→a'.defers= []∧∃v,(results fn a'.tmps).run P w'= .ok v w'∧∃u y',Ending.returned v= .returned u∧Ends c boxes.length trees.length r y u y' w':=by
  intro s ⟨y1,A1⟩ hr
  have hr2:=hr
  unfold sQ at hr2
  obtain⟨vs,hvs,_⟩:=aj hr2
  obtain⟨u,k1,k2⟩:=yS A1 hvs
  obtain⟨y',k3,k4,k5,k6,k7⟩:=G8 (n0:=c.n) (bF':=c.bF) (hF':=c.hF) A1 hvs k2 hr
  refine⟨A1.defers,u,k1,u,y',rfl,k3,k4, .inl k5,fun i hi=>?_,fun q hq=>?_⟩
  ·rw [k6 i hi]
   have:=(A1.fix.2 (aU+i) (by omega) (by unfold aU;omega)).1
   rw [this]
   show y.bl (un (aU+i))=y.bl i
   rw [hun]
  ·rw [k7 q hq]
   have:=(A1.fix.2 (aU+q) (by omega) (by unfold aU;omega)).2
   rw [this]
   show y.hd (un (aU+q))=y.hd q
   rw [hun]
 cases ex with
 | normal=>
  cases q with
  | off=>exact g.elim
  | on s=>exact fin s g h
 | ret=>
  cases q with
  | off=>exact g.elim
  | on s=>exact fin s g h
 | exit i=>simp only [J8]at h;cases h
end
theorem NV {w0:Nat→World}{F:Nat→List Nat}{k:Nat}{u:World}{f:List Nat}:∀{l:List (Nat×List (List D))},k∉l.map (·.1)→gI (dR w0 k u) (dR F k f) l=gI w0 F l
 | [],_=>rfl
 | (j,x)::r,h=>by
  simp only [List.map_cons,List.mem_cons,not_or]at h
  have:=NV (w0:=w0) (F:=F) (u:=u) (f:=f) h.2
  unfold gI at this⊢
  rw [List.map_cons,List.map_cons,this]
  simp only [fO _ _ (fun e=>h.1 e.symm:j≠k)]
theorem At.freeze {c:Ctx}{s:S}{y:Lay}{a:Act}{w:World}(A:At c s y a w){p:Nat}{rows:List (List D)}(hl:look p s.tree=some rows):Good c {s with tree:=drop1 p s.tree,dG:=(p,rows)::s.dG} a w:=by
 have S0:=A.out' hl
 obtain⟨F,o,hn,hb,k⟩:=S0.open_
 have S1:St c.W w (lI w F::(Ml (s.kill p) y++c.L)):=k w (lI w F) F rfl rfl rfl (Nat.le_refl _) (fun _ _ _=>rfl) ⟨rfl,fun _ _=>rfl⟩ hn (fun b hx=>⟨.inl hx,(hb b hx).2⟩)
 have An:=A.nt
 rw [List.map_append,List.nodup_append]at An
 have hp:p∈s.tree.map (·.1):=dX.2 ⟨rows,hl⟩
 have hpf:p∉s.dG.map (·.1):=fun h=>An.2.2 p hp p h rfl
 have kk:∀n,n∈(drop1 p s.tree++(p,rows)::s.dG).map (·.1)↔n∈(s.tree++s.dG).map (·.1):=by
  intro n
  rw [List.map_append,List.map_append,List.mem_append,List.mem_append,List.map_cons,List.mem_cons,Jd]
  constructor
  ·rintro (h|h|h)
   ·exact .inl h.1
   ·subst h;exact .inl hp
   ·exact .inr h
  ·rintro (h|h)
   ·by_cases e:n=p
    ·exact .inr (.inl e)
    ·exact .inl ⟨h,e⟩
   ·exact .inr (.inr h)
 have le:(aX c s y).le (aX c {s with tree:=drop1 p s.tree,dG:=(p,rows)::s.dG} {y with w0:=dR y.w0 p w,F:=dR y.F p F}):=by
  refine⟨fun _ _ h=>h,fun b o ⟨q,h1,h2,h3⟩=>?_,rfl,fun b h=>⟨h,rfl⟩,fun q h=>⟨(kk q).2 h,rfl⟩⟩
  have hq:q≠p:=fun e=>hpf (by rw [←e];exact h1)
  exact⟨q,List.mem_cons_of_mem _ h1,by show b∈dR y.F p F q;rw [fO _ _ hq];exact h2,by show(dR y.w0 p w q).heap[b]?=some o;rw [fO _ _ hq];exact h3⟩
 refine⟨{y with w0:=dR y.w0 p w,F:=dR y.F p F},A.defers,A.size,?_,fun t v e=>(A.env t v e).le le,fun b cs h=>(A.box b cs h).le le,fun q r h=>?_,A.nb,?_,A.fix⟩
 ·show St c.W w (dJ y.bl y.T y.us s.box++(bW y.hd (drop1 p s.tree)++((lI (dR y.w0 p w p) (dR y.F p F p)::gI (dR y.w0 p w) (dR y.F p F) s.dG)++c.L)))
  rw [dS,dS,NV hpf]
  rw [GI]at S1
  have q:=(List.perm_middle (a:=lI w F) (l₁:=dJ y.bl y.T y.us s.box++bW y.hd (drop1 p s.tree)) (l₂:=gI y.w0 y.F s.dG++c.L)).symm
  simp only [List.append_assoc,List.cons_append]at q⊢S1
  exact S1.perm q
 ·show kL (dR y.w0 p w q) _ (y.hd q) (dR y.F p F q)
  rcases List.mem_cons.1 h with h|h
  ·injection h with h1 h2;subst h1;subst h2
   rw [dS,dS];exact o
  ·have hq:q≠p:=fun e=>hpf (by rw [←e];exact List.mem_map.2 ⟨_,h,rfl⟩)
   rw [fO _ _ hq,fO _ _ hq];exact A.dG q r h
 ·show((drop1 p s.tree++(p,rows)::s.dG).map (·.1)).Nodup
  rw [List.map_append,List.nodup_append]
  refine⟨Ck An.1,List.nodup_cons.2 ⟨hpf,An.2.1⟩,fun x hx z hz e=>?_⟩
  subst e
  have hx:=Jd.1 hx
  rcases List.mem_cons.1 hz with h|h
  ·exact hx.2 h
  ·exact An.2.2 x hx.1 x h rfl
theorem G9 {c:Ctx}{s s':S}{p:Nat}{a:Act}{w:World}(h1:yZ s p (look p s.tree)=some s')(g:Good c s a w):Good c s' a w:=by
 obtain⟨y,A⟩:=g
 unfold yZ at h1
 split at h1
 ·rename_i rows e
  injection h1 with h1;subst h1
  exact A.freeze e
 ·injection h1 with h1;subst h1;exact⟨y,A⟩
theorem Dl {c:Ctx}:∀{cs:List V} {s s':S} {a:Act} {w:World},kD s cs=some s'→Good c s a w→Good c s' a w
 | [],s,s',a,w,h,g=>by simp only [kD]at h;injection h with h;subst h;exact g
 | v::cs,s,s',a,w,h,g=>by
  cases v<;>simp only [kD]at h
  case own p=>
   obtain⟨s1,h1,h⟩:=aj h
   exact Dl h (G9 h1 g)
  all_goals exact Dl h g
theorem F8 {c:Ctx}:∀{ts:List Nat} {s s':S} {a:Act} {w:World},uD s ts=some s'→Good c s a w→Good c s' a w
 | [],s,s',a,w,h,g=>by simp only [uD]at h;injection h with h;subst h;exact g
 | t::ts,s,s',a,w,h,g=>by
  simp only [uD]at h
  obtain⟨s1,h1,h⟩:=aj h
  refine F8 h ?_
  unfold S.freeze at h1
  obtain⟨v,h2,h1⟩:=aj h1
  unfold KS at h1
  split at h1
  ·exact G9 h1 g
  ·obtain⟨cs,h3,h1⟩:=aj h1
   exact Dl h1 g
  ·injection h1 with h1;subst h1;exact g
theorem XC {c:Ctx}{o:Option (List Nat)}{s s':S}(h:Td s o=some s'){a:Act}{w:World}(g:Good c s a w):Good c s' a w:=by
 unfold Td at h
 split at h
 ·exact F8 h g
 ·injection h with h;subst h;exact g
mutual
theorem XD:∀(l:List Nat) (v:V),(∀x∈l,x∈uz l v)∧(∀p,aM p v=true→p∈uz l v)∧(l.Nodup→(uz l v).Nodup)
 | l, .own p=>by
  simp only [uz]
  by_cases h:l.contains p=true
  ·rw [if_pos h]
   exact⟨fun x hx=>hx,fun q hq=>by simp [aM]at hq;subst hq;simpa using h,fun n=>n⟩
  ·rw [if_neg h]
   have hp:p∉l:=by simpa using h
   exact⟨fun x hx=>List.mem_append_left _ hx,fun q hq=>by simp [aM]at hq;subst hq;simp,fun n=>List.nodup_append.2 ⟨n,by simp,fun x hx z hz e=>by simp at hz;rw [e,hz]at hx;exact hp hx⟩⟩
 | l, .inn p _ _ _=>by
  simp only [uz]
  by_cases h:l.contains p=true
  ·rw [if_pos h]
   exact⟨fun x hx=>hx,fun q hq=>by simp [aM]at hq;subst hq;simpa using h,fun n=>n⟩
  ·rw [if_neg h]
   have hp:p∉l:=by simpa using h
   exact⟨fun x hx=>List.mem_append_left _ hx,fun q hq=>by simp [aM]at hq;subst hq;simp,fun n=>List.nodup_append.2 ⟨n,by simp,fun x hx z hz e=>by simp at hz;rw [e,hz]at hx;exact hp hx⟩⟩
 | l, .pe b _ _ _=>by simp only [uz,aM];exact XD l b
 | l, .agg cs=>by simp only [uz,aM];exact DR l cs
 | l, .fK cs=>by simp only [uz,aM];exact DR l cs
 | l, .fn _ cs=>by simp only [uz,aM];exact DR l cs
 | l, .v _=>by simp only [uz,aM];exact⟨fun x hx=>hx,(fun q hq=>by cases hq),fun n=>n⟩
 | l, .nil=>by simp only [uz,aM];exact⟨fun x hx=>hx,(fun q hq=>by cases hq),fun n=>n⟩
 | l, .aP _ _=>by simp only [uz,aM];exact⟨fun x hx=>hx,(fun q hq=>by cases hq),fun n=>n⟩
 | l, .mp _=>by simp only [uz,aM];exact⟨fun x hx=>hx,(fun q hq=>by cases hq),fun n=>n⟩
 | l, .fz _=>by simp only [uz,aM];exact⟨fun x hx=>hx,(fun q hq=>by cases hq),fun n=>n⟩
 | l, .ref _ _=>by simp only [uz,aM];exact⟨fun x hx=>hx,(fun q hq=>by cases hq),fun n=>n⟩
 | l, .dead=>by simp only [uz,aM];exact⟨fun x hx=>hx,(fun q hq=>by cases hq),fun n=>n⟩
theorem DR:∀(l:List Nat) (vs:List V),(∀x∈l,x∈zZ l vs)∧(∀p,aM.any p vs=true→p∈zZ l vs)∧(l.Nodup→(zZ l vs).Nodup)
 | l,[]=>by simp only [zZ,aM.any];exact⟨fun x hx=>hx,(fun q hq=>by cases hq),fun n=>n⟩
 | l,v::vs=>by
  obtain⟨a1,a2,a3⟩:=XD l v
  obtain⟨b1,b2,b3⟩:=DR (uz l v) vs
  simp only [zZ,aM.any]
  refine⟨fun x hx=>b1 x (a1 x hx),fun p hp=>?_,fun n=>b3 (a3 n)⟩
  rw [Bool.or_eq_true]at hp
  exact hp.elim (fun h=>b1 p (a2 p h)) (b2 p)
end
end Go.Proofs.YtlpdjhiggpblcaaGreat
namespace Go.Proofs.YtlpdjhiggpblcaaGreat
open Go.RowKit
set_option linter.unusedSimpArgs false
set_option linter.unusedVariables false
mutual
theorem RV.refs {ρ ρ':Rel}(hK:ρ'.K=ρ.K)(hZ:ρ'.Z=ρ.Z)(hs:ρ'.src=ρ.src)(ht:∀p,ρ.Lt p→ρ'.Lt p∧ρ'.hd p=ρ.hd p){bs:List Nat}(hb:∀b∈bs,ρ.Lb b→ρ'.Lb b∧ρ'.bl b=ρ.bl b):∀{v:V} {u:Value},iL bs v=true→RV ρ v u→RV ρ' v u
 | .v _,_,_,h=>h
 | .nil,_,_,h=>h
 | .aP _ _,_,_,h=>⟨by rw [hK];exact h.1,fun j i=>by rw [hs];exact h.2 j i⟩
 | .own p,_,_,h=>⟨(ht p h.1).1,by rw [(ht p h.1).2];exact h.2⟩
 | .inn p _ _ _,_,_,h=>⟨(ht p h.1).1,by rw [(ht p h.1).2];exact h.2⟩
 | .fz _,_,_,h=>wL.mono h (by rw [hZ];exact fun _ _ h=>h)
 | .mp _,_,_,h=>Pw.mono h (by rw [hZ];exact fun _ _ h=>h)
 | .ref b _,_,r,h=>by
  have:=hb b (by simpa [iL] using r) h.1
  exact⟨this.1,by rw [this.2];exact h.2⟩
 | .pe _ _ _ _,_,r,h=>by obtain⟨ub,h1,h2⟩:=h;exact⟨ub,RV.refs hK hZ hs ht hb (by simpa [iL] using r) h1,h2⟩
 | .agg _,_,r,h=>by obtain⟨us,h1,h2⟩:=h;exact⟨us,h1,jk.refs hK hZ hs ht hb (by simpa [iL] using r) h2⟩
 | .fK _,_,r,h=>by obtain⟨us,h1,h2⟩:=h;exact⟨us,h1,jk.refs hK hZ hs ht hb (by simpa [iL] using r) h2⟩
 | .fn _ _,_,r,h=>by obtain⟨us,h1,h2⟩:=h;exact⟨us,h1,jk.refs hK hZ hs ht hb (by simpa [iL] using r) h2⟩
 | .dead,_,_,_=>trivial
theorem jk.refs {ρ ρ':Rel}(hK:ρ'.K=ρ.K)(hZ:ρ'.Z=ρ.Z)(hs:ρ'.src=ρ.src)(ht:∀p,ρ.Lt p→ρ'.Lt p∧ρ'.hd p=ρ.hd p){bs:List Nat}(hb:∀b∈bs,ρ.Lb b→ρ'.Lb b∧ρ'.bl b=ρ.bl b):∀{vs:List V} {us:List Value},iL.go bs vs=true→jk ρ vs us→jk ρ' vs us
 | [],_,_,h=>h
 | _::_,_,r,h=>by
  simp [iL.go]at r
  obtain⟨u,q,h1,h2,h3⟩:=h
  exact⟨u,q,h1,RV.refs hK hZ hs ht hb r.1 h2,jk.refs hK hZ hs ht hb r.2 h3⟩
end
mutual
theorem RV.ren {ρ ρ':Rel}(hK:ρ'.K=ρ.K)(hZ:ρ'.Z=ρ.Z)(hs:ρ'.src=ρ.src)(hb:∀b,ρ.Lb b→ρ'.Lb b∧ρ'.bl b=ρ.bl b){mp:List (Nat×Nat)}:∀{v:V} {u:Value},(∀p,aM p v=true→ρ.Lt p→ρ'.Lt (YtlpdjhiggpblcaaGreat.ren mp p)∧ρ'.hd (YtlpdjhiggpblcaaGreat.ren mp p)=ρ.hd p)→RV ρ v u→RV ρ' (Bb mp v) u
 | .v _,_,_,h=>h
 | .nil,_,_,h=>h
 | .aP _ _,_,_,h=>⟨by rw [hK];exact h.1,fun j i=>by rw [hs];exact h.2 j i⟩
 | .own p,_,m,h=>by
  have:=m p (by simp [aM]) h.1
  exact⟨this.1,by rw [this.2];exact h.2⟩
 | .inn p _ _ _,_,m,h=>by
  have:=m p (by simp [aM]) h.1
  exact⟨this.1,by rw [this.2];exact h.2⟩
 | .fz _,_,_,h=>wL.mono h (by rw [hZ];exact fun _ _ h=>h)
 | .mp _,_,_,h=>Pw.mono h (by rw [hZ];exact fun _ _ h=>h)
 | .ref b _,_,_,h=>⟨(hb b h.1).1,by rw [(hb b h.1).2];exact h.2⟩
 | .pe _ _ _ _,_,m,h=>by obtain⟨ub,h1,h2⟩:=h;exact⟨ub,RV.ren hK hZ hs hb (fun p hp=>m p (by simpa [aM] using hp)) h1,h2⟩
 | .agg _,_,m,h=>by obtain⟨us,h1,h2⟩:=h;exact⟨us,h1,jk.ren hK hZ hs hb (fun p hp=>m p (by simpa [aM] using hp)) h2⟩
 | .fK _,_,m,h=>by obtain⟨us,h1,h2⟩:=h;exact⟨us,h1,jk.ren hK hZ hs hb (fun p hp=>m p (by simpa [aM] using hp)) h2⟩
 | .fn _ _,_,m,h=>by obtain⟨us,h1,h2⟩:=h;exact⟨us,h1,jk.ren hK hZ hs hb (fun p hp=>m p (by simpa [aM] using hp)) h2⟩
 | .dead,_,_,_=>trivial
theorem jk.ren {ρ ρ':Rel}(hK:ρ'.K=ρ.K)(hZ:ρ'.Z=ρ.Z)(hs:ρ'.src=ρ.src)(hb:∀b,ρ.Lb b→ρ'.Lb b∧ρ'.bl b=ρ.bl b){mp:List (Nat×Nat)}:∀{vs:List V} {us:List Value},(∀p,aM.any p vs=true→ρ.Lt p→ρ'.Lt (YtlpdjhiggpblcaaGreat.ren mp p)∧ρ'.hd (YtlpdjhiggpblcaaGreat.ren mp p)=ρ.hd p)→jk ρ vs us→jk ρ' (Gd mp vs) us
 | [],_,_,h=>h
 | _::_,_,m,h=>by
  obtain⟨u,q,h1,h2,h3⟩:=h
  exact⟨u,q,h1,RV.ren hK hZ hs hb (fun p hp=>m p (by simp [aM.any,hp])) h2,jk.ren hK hZ hs hb (fun p hp=>m p (by simp [aM.any,hp])) h3⟩
end
section
variable {c:Ctx} {s:S} {y:Lay} {a:Act} {w:World}
theorem At.restrict (A:At c s y a w){env:List (Nat×V)}{box:List (Nat×List V)}{bs:List Nat}(hE:∀t v,look t env=some v→look t s.env=some v∧iL bs v=true)(hB:∀b cs,(b,cs)∈box→(b,cs)∈s.box∧iL.go bs cs=true)(hk:box.map (·.1)=bs)(nb:bs.Nodup):At c {s with env:=env,box:=box} y a w:=by
 have hsub:∀b∈box.map (·.1),b∈s.box.map (·.1):=by
  intro b hb
  obtain⟨x,hx,rfl⟩:=List.mem_map.1 hb
  exact List.mem_map.2 ⟨x,(hB x.1 x.2 hx).1,rfl⟩
 have hb:∀b∈bs,(aX c s y).Lb b→(aX c {s with env:=env,box:=box} y).Lb b∧(aX c {s with env:=env,box:=box} y).bl b=(aX c s y).bl b:=fun b hb _=>⟨by show b∈box.map (·.1);rw [hk];exact hb,rfl⟩
 refine⟨A.defers,A.size,?_,fun t v e=>RV.refs (ρ:=aX c s y) (ρ':=aX c {s with env:=env,box:=box} y) rfl rfl rfl (fun p h=>⟨h,rfl⟩) hb (hE t v e).2 (A.env t v (hE t v e).1),fun b cs h=>jk.refs (ρ:=aX c s y) (ρ':=aX c {s with env:=env,box:=box} y) rfl rfl rfl (fun p h=>⟨h,rfl⟩) hb (hB b cs h).2 (A.box b cs (hB b cs h).1),A.dG,by show(box.map (·.1)).Nodup;rw [hk];exact nb,A.nt,A.fix⟩
 have S0:=A.st
 rw [jV]at S0
 show St c.W w (dJ y.bl y.T y.us box++(bW y.hd s.tree++(gI y.w0 y.F s.dG++c.L)))
 rw [jV]
 have p:=(vg A.nb (by rw [hk];exact nb) hsub).map fun b=>rowP (y.bl b) (y.T b) (y.us b)
 rw [List.map_append]at p
 have q:=S0.perm (List.Perm.append_right _ (p.trans List.perm_append_comm))
 rw [List.append_assoc]at q
 exact St.rU q
theorem At.aku (A:At c s y a w){ps:List Nat}(np:ps.Nodup)(hf:∀k∈ps,k∉(s.tree++s.dG).map (·.1))(hb:∀k∈ps,2*aU≤k){env:List (Nat×V)}{box:List (Nat×List V)}(hE:∀t v,look t env=some v→look t s.env=some v∨(look t s.env=some .nil∧∃k∈ps,v= .own k))
  (hk:box.map (·.1)=s.box.map (·.1)) (hB:∀b cs,(b,cs)∈box→∃cs0,(b,cs0)∈s.box∧cs.length=cs0.length∧∀(i:Nat) (v:V),cs[i]?=some v→cs0[i]?=some v∨(cs0[i]?=some .nil∧∃k∈ps,v= .own k)):
  Good c {env:=env,box:=box,tree:=s.tree++ps.map (fun p=>(p,[])),dG:=s.dG} a w:=by
 classical
 let y2:Lay:= {y with hd:=fun n=>if n∈ps then qR else y.hd n}
 have keys:∀n,n∈((s.tree++ps.map (fun p=>(p,([]:List (List D)))))++s.dG).map (·.1)↔n∈(s.tree++s.dG).map (·.1)∨n∈ps:=by
  intro n
  simp only [List.map_append,List.mem_append,List.map_map]
  have:(ps.map ((fun x:Nat×List (List D)=>x.1) ∘ fun p=>(p,[])))=ps:=by simp [Function.comp_def]
  rw [this]
  constructor
  ·rintro ((h|h)|h)
   ·exact .inl (.inl h)
   ·exact .inr h
   ·exact .inl (.inr h)
  ·rintro ((h|h)|h)
   ·exact .inl (.inl h)
   ·exact .inr h
   ·exact .inl (.inr h)
 have le:(aX c s y).le (aX c {env:=env,box:=box,tree:=s.tree++ps.map (fun p=>(p,[])),dG:=s.dG} y2):=
  ⟨fun _ _ h=>h,fun _ _ h=>h,rfl,fun b h=>⟨by show b∈box.map (·.1);rw [hk];exact h,rfl⟩,fun p h=>⟨(keys p).2 (.inl h),if_neg fun hp=>hf p hp h⟩⟩
 have hnew:∀k∈ps,RV (aX c {env:=env,box:=box,tree:=s.tree++ps.map (fun p=>(p,[])),dG:=s.dG} y2) (.own k) (.slice none 0 0):=fun k hk=>⟨(keys k).2 (.inr hk),by show _=Hd.v (if k∈ps then qR else y.hd k);rw [if_pos hk];rfl⟩
 have An:=A.nt
 rw [List.map_append,List.nodup_append]at An
 refine⟨y2,A.defers,A.size,?_,fun t v e=>?_,fun b cs h=>?_,fun p rows hp=>?_,by show(box.map (·.1)).Nodup;rw [hk];exact A.nb,?_,A.fix.1,fun i h1 h2=>⟨(A.fix.2 i h1 h2).1,(show(if i∈ps then qR else y.hd i)=y.hd i from if_neg fun hp=>by have:=hb i hp;omega).trans (A.fix.2 i h1 h2).2⟩⟩
 ·show St c.W w (dJ y.bl y.T y.us box++(bW y2.hd (s.tree++ps.map (fun p=>(p,[])))++(gI y.w0 y.F s.dG++c.L)))
  have e1:dJ y.bl y.T y.us box=dJ y.bl y.T y.us s.box:=by rw [jV,jV,hk]
  have e2:bW y2.hd (s.tree++ps.map (fun p=>(p,[])))=bW y.hd s.tree++ps.map fun _=>gD qR []:=by
   unfold bW
   rw [List.map_append,List.map_map]
   congr 1
   ·refine List.map_congr_left fun x hx=>?_
    have:¬x.1∈ps:=fun hp=>hf x.1 hp (List.mem_map.2 ⟨x,List.mem_append_left _ hx,rfl⟩)
    show gD (if x.1∈ps then _ else y.hd x.1) x.2=_
    rw [if_neg this]
   ·refine List.map_congr_left fun p hp=>?_
    show gD (if p∈ps then _ else _) []=_
    rw [if_pos hp]
  have more:∀(l:List Nat) (L:List Pc),St c.W w L→St c.W w (l.map (fun _=>gD qR [])++L):=by
   intro l;induction l with
   | nil=>intro L S;exact S
   | cons x l ih=>intro L S;exact(ih L S).more (Ext.refl w) (h:=gD qR []) (F:= []) (kL.nil w) List.nodup_nil (fun b hb=>by cases hb)
  have S1:=more ps _ A.st
  rw [e1,e2]
  refine S1.perm ?_
  have q:=XA (dJ y.bl y.T y.us s.box) [] (bW y.hd s.tree) (ps.map fun _=>gD qR []) (gI y.w0 y.F s.dG++c.L)
  simp only [List.append_nil,List.nil_append,List.append_assoc]at q⊢
  refine List.Perm.trans ?_ q.symm
  rw [←List.append_assoc,←List.append_assoc,←List.append_assoc (dJ y.bl y.T y.us s.box) (bW y.hd s.tree),←List.append_assoc (dJ y.bl y.T y.us s.box++bW y.hd s.tree)]
  refine List.Perm.append_right _ ?_
  rw [List.append_assoc]
  exact List.perm_append_comm
 ·rcases hE t v e with h|⟨h,k,hk,rfl⟩
  ·exact(A.env t v h).le le
  ·have h0:=A.env t .nil h
   rw [show a.tmps.getD t undef=_ from h0];exact hnew k hk
 ·obtain⟨cs0,h1,h2,h3⟩:=hB b cs h
  have h0:=A.box b cs0 h1
  refine jk.of (by rw [show (y2.us b)=y.us b from rfl,h0.len,h2]) fun i v u e1 e2=>?_
  have e2:(y.us b).toList[i]?=some u:=e2
  rcases h3 i v e1 with h|⟨h,k,hk,rfl⟩
  ·obtain⟨u',g1,g2⟩:=h0.get h
   rw [e2]at g1;injection g1 with g1;subst g1
   exact g2.le le
  ·obtain⟨u',g1,g2⟩:=h0.get h
   rw [e2]at g1;injection g1 with g1;subst g1
   rw [show u=_ from g2];exact hnew k hk
 ·show kL (y.w0 p) _ (if p∈ps then _ else y.hd p) (y.F p)
  rw [if_neg fun hx=>hf p hx (by rw [List.map_append,List.mem_append];exact .inr (List.mem_map.2 ⟨_,hp,rfl⟩))]
  exact A.dG p rows hp
 ·show(((s.tree++ps.map (fun p=>(p,([]:List (List D)))))++s.dG).map (·.1)).Nodup
  have e:(ps.map ((fun x:Nat×List (List D)=>x.1) ∘ fun p=>(p,[])))=ps:=by simp [Function.comp_def]
  rw [List.map_append,List.map_append,List.map_map,e,List.nodup_append,List.nodup_append]
  refine⟨⟨An.1,np,fun x hx z hz e=>?_⟩,An.2.1,fun x hx z hz e=>?_⟩
  ·subst e;exact hf x hz (by rw [List.map_append,List.mem_append];exact .inl hx)
  ·subst e
   rcases List.mem_append.1 hx with hx|hx
   ·exact An.2.2 x hx x hz rfl
   ·exact hf x hx (by rw [List.map_append,List.mem_append];exact .inr hz)
end
end Go.Proofs.YtlpdjhiggpblcaaGreat
namespace Go.Proofs.YtlpdjhiggpblcaaGreat
set_option linter.unusedSectionVars false
set_option linter.unusedSimpArgs false
set_option linter.unusedVariables false
open Go.RowKit
theorem acj {bs:List Nat}:∀{cs:List V},cs.all (iL bs)=true→iL.go bs cs=true
 | [],_=>rfl
 | c::r,h=>by
  simp only [List.all_cons,Bool.and_eq_true]at h
  simp only [iL.go,h.1,acj h.2,Bool.and_self]
theorem acn:∀{l:List Nat} {a:Nat},desc (a::l)=true→∀b∈l,b<a
 | [],a,_,b,hb=>by cases hb
 | x::r,a,h,b,hb=>by
  simp only [desc,Bool.and_eq_true,decide_eq_true_eq]at h
  rcases List.mem_cons.1 hb with hb|hb
  ·subst hb;exact h.1
  ·exact Nat.lt_trans (acn h.2 b hb) h.1
theorem Qk:∀{l:List Nat},desc l=true→l.Nodup
 | [],_=>List.nodup_nil
 | a::r,h=>by
  refine List.nodup_cons.2 ⟨fun hx=>Nat.lt_irrefl _ (acn h a hx),?_⟩
  cases r with
  | nil=>exact List.nodup_nil
  | cons b r=>simp only [desc,Bool.and_eq_true]at h;exact Qk h.2
theorem MW {α:Type}{l:List (Nat×α)}:∀{ts:List Nat} {r:List (Nat×α)},bG (fun t=>bnd (look t l) fun v=>some (t,v)) ts=some r→r.map (·.1)=ts∧∀t v,(t,v)∈r→look t l=some v
 | [],r,h=>by simp only [bG]at h;injection h with h;subst h;exact⟨rfl,fun t v h=>by cases h⟩
 | t::ts,r,h=>by
  simp only [bG]at h
  obtain⟨x,h1,h⟩:=aj h
  obtain⟨z,h2,h⟩:=aj h
  obtain⟨v,h3,h1⟩:=aj h1
  injection h with h;subst h
  injection h1 with h1;subst h1
  obtain⟨k1,k2⟩:=MW h2
  refine⟨by rw [List.map_cons,k1],fun t' v' hm=>?_⟩
  rcases List.mem_cons.1 hm with hm|hm
  ·injection hm with e1 e2;subst e1;subst e2;exact h3
  ·exact k2 t' v' hm
theorem aad (n t:Nat)(r:List (Nat×V)):dW n ((t, .nil)::r)=((t, .own n)::(dW (n+1) r).1,n::(dW (n+1) r).2):=rfl
theorem Vj {n t:Nat}{v:V}{r:List (Nat×V)}(h:v≠ .nil):dW n ((t,v)::r)=((t,v)::(dW n r).1,(dW n r).2):=by
 cases v<;>first|rfl|exact absurd rfl h
theorem He:∀(l:List (Nat×V)) (n:Nat),(dW n l).2=List.range' n (dW n l).2.length∧∀t v,look t (dW n l).1=some v→look t l=some v∨(look t l=some .nil∧∃k∈(dW n l).2,v= .own k)
 | [],n=>⟨rfl,fun t v h=>by cases h⟩
 | (t0,v0)::r,n=>by
  by_cases hv:v0= .nil
  ·subst hv
   obtain⟨k1,k2⟩:=He r (n+1)
   rw [aad]
   refine⟨by simp only [List.length_cons,List.range'_succ];rw [←k1],fun t v h=>?_⟩
   simp only [look]at h⊢
   by_cases e:t=t0
   ·rw [if_pos e]at h⊢;injection h with h;exact .inr ⟨rfl,n,List.mem_cons_self,h.symm⟩
   ·rw [if_neg e]at h⊢
    rcases k2 t v h with h|⟨h,k,hk,hv⟩
    ·exact .inl h
    ·exact .inr ⟨h,k,List.mem_cons_of_mem _ hk,hv⟩
  ·obtain⟨k1,k2⟩:=He r n
   rw [Vj hv]
   refine⟨k1,fun t v h=>?_⟩
   simp only [look]at h⊢
   by_cases e:t=t0
   ·rw [if_pos e]at h⊢;exact .inl h
   ·rw [if_neg e]at h⊢;exact k2 t v h
theorem XE (n:Nat)(r:List V):cu n (.nil::r)=(.own n::(cu (n+1) r).1,n::(cu (n+1) r).2):=rfl
theorem R9 {n:Nat}{v:V}{r:List V}(h:v≠ .nil):cu n (v::r)=(v::(cu n r).1,(cu n r).2):=by
 cases v<;>first|rfl|exact absurd rfl h
theorem ET:∀(l:List V) (n:Nat),(cu n l).2=List.range' n (cu n l).2.length∧(cu n l).1.length=l.length∧∀(i:Nat) (v:V),(cu n l).1[i]?=some v→l[i]?=some v∨(l[i]?=some .nil∧∃k∈(cu n l).2,v= .own k)
 | [],n=>⟨rfl,rfl,fun i v h=>by simp [cu]at h⟩
 | v0::r,n=>by
  by_cases hv:v0= .nil
  ·subst hv
   obtain⟨k1,k3,k2⟩:=ET r (n+1)
   rw [XE]
   refine⟨by simp only [List.length_cons,List.range'_succ];rw [←k1],by simp only [List.length_cons,k3],fun i v h=>?_⟩
   cases i with
   | zero=>simp at h;exact .inr ⟨rfl,n,List.mem_cons_self,h.symm⟩
   | succ i=>
    rcases k2 i v (by simpa using h)with h|⟨h,k,hk,hv⟩
    ·exact .inl (by simpa using h)
    ·exact .inr ⟨by simpa using h,k,List.mem_cons_of_mem _ hk,hv⟩
  ·obtain⟨k1,k3,k2⟩:=ET r n
   rw [R9 hv]
   refine⟨k1,by simp only [List.length_cons,k3],fun i v h=>?_⟩
   cases i with
   | zero=>exact .inl (by simpa using h)
   | succ i=>simpa using k2 i v (by simpa using h)
theorem Vk (n b:Nat)(cs:List V)(r:List (Nat×List V)):mV n ((b,cs)::r)=((b,(cu n cs).1)::(mV (n+(cu n cs).2.length) r).1,(cu n cs).2++(mV (n+(cu n cs).2.length) r).2):=rfl
theorem Lp:∀(l:List (Nat×List V)) (n:Nat),(mV n l).2=List.range' n (mV n l).2.length∧(mV n l).1.map (·.1)=l.map (·.1)∧∀b cs,(b,cs)∈(mV n l).1→∃cs0,(b,cs0)∈l∧cs.length=cs0.length∧∀(i:Nat) (v:V),cs[i]?=some v→cs0[i]?=some v∨(cs0[i]?=some .nil∧∃k∈(mV n l).2,v= .own k)
 | [],n=>⟨rfl,rfl,fun b cs h=>by cases h⟩
 | (b0,cs0)::r,n=>by
  rw [Vk]
  obtain⟨k1,k3,k2⟩:=ET cs0 n
  obtain⟨m1,m3,m2⟩:=Lp r (n+(cu n cs0).2.length)
  refine⟨?_,by simp only [List.map_cons,m3],fun b cs h=>?_⟩
  ·show(cu n cs0).2++(mV (n+(cu n cs0).2.length) r).2=List.range' n ((cu n cs0).2++(mV (n+(cu n cs0).2.length) r).2).length
   rw [List.length_append,←List.range'_append_1,←k1,←m1]
  ·rcases List.mem_cons.1 h with h|h
   ·injection h with e1 e2;subst e1;subst e2
    refine⟨cs0,List.mem_cons_self,k3,fun i v e=>(k2 i v e).imp _root_.id fun⟨h1,k,h2,h3⟩=>⟨h1,k,List.mem_append_left _ h2,h3⟩⟩
   ·obtain⟨cs1,h1,h2,h3⟩:=m2 b cs h
    exact⟨cs1,List.mem_cons_of_mem _ h1,h2,fun i v e=>(h3 i v e).imp _root_.id fun⟨h1,k,h2,h3⟩=>⟨h1,k,List.mem_append_right _ h2,h3⟩⟩
theorem EU {tree:List (Nat×List (List D))}:∀{l:List Nat} {i:Nat},(∀x∈metIn tree l i,(x.2.1=x.1∧1000000000≤x.1∧x.1<2000000000)∨2000000000+i≤x.2.1)∧(∀x∈metIn tree l i,look x.1 tree=some x.2.2∧x.1∈l)∧(∀p∈l,p∈tree.map (·.1)→p∈(metIn tree l i).map (·.1))∧(l.Nodup→((metIn tree l i).map (·.1)).Nodup∧((metIn tree l i).map (·.2.1)).Nodup)
 | [],i=>⟨(fun x h=>by cases h),(fun x h=>by cases h),(fun p h=>by cases h),fun _=>⟨List.nodup_nil,List.nodup_nil⟩⟩
 | p::r,i=>by
  simp only [metIn]
  cases e:look p tree with
  | some rows=>
   simp only [Mx]
   by_cases hp:1000000000≤p∧p<2000000000
   ·obtain⟨k1,k2,k3,k4⟩:=EU (tree:=tree) (l:=r) (i:=i)
    rw [if_pos hp]
    refine⟨fun x hx=>?_,fun x hx=>?_,fun q hq hin=>?_,fun n=>?_⟩
    ·rcases List.mem_cons.1 hx with hx|hx
     ·subst hx;exact .inl ⟨rfl,hp⟩
     ·exact k1 x hx
    ·rcases List.mem_cons.1 hx with hx|hx
     ·subst hx;exact⟨e,List.mem_cons_self⟩
     ·exact⟨(k2 x hx).1,List.mem_cons_of_mem _ (k2 x hx).2⟩
    ·rw [List.map_cons]
     rcases List.mem_cons.1 hq with hq|hq
     ·subst hq;exact List.mem_cons_self
     ·exact List.mem_cons_of_mem _ (k3 q hq hin)
    ·have n2:=List.nodup_cons.1 n
     rw [List.map_cons,List.map_cons]
     refine⟨List.nodup_cons.2 ⟨fun hx=>?_,(k4 n2.2).1⟩,List.nodup_cons.2 ⟨fun hx=>?_,(k4 n2.2).2⟩⟩
     ·obtain⟨x,hx,e2⟩:=List.mem_map.1 hx
      have:=(k2 x hx).2
      rw [e2]at this;exact n2.1 this
     ·obtain⟨x,hx,e2⟩:=List.mem_map.1 hx
      have e2:x.2.1=p:=e2
      rcases k1 x hx with h|h
      ·have:=(k2 x hx).2
       rw [←h.1,e2]at this;exact n2.1 this
      ·omega
   ·obtain⟨k1,k2,k3,k4⟩:=EU (tree:=tree) (l:=r) (i:=i+1)
    rw [if_neg hp]
    refine⟨fun x hx=>?_,fun x hx=>?_,fun q hq hin=>?_,fun n=>?_⟩
    ·rcases List.mem_cons.1 hx with hx|hx
     ·subst hx;exact .inr (Nat.le_refl _)
     ·exact(k1 x hx).imp _root_.id fun h=>by omega
    ·rcases List.mem_cons.1 hx with hx|hx
     ·subst hx;exact⟨e,List.mem_cons_self⟩
     ·exact⟨(k2 x hx).1,List.mem_cons_of_mem _ (k2 x hx).2⟩
    ·rw [List.map_cons]
     rcases List.mem_cons.1 hq with hq|hq
     ·subst hq;exact List.mem_cons_self
     ·exact List.mem_cons_of_mem _ (k3 q hq hin)
    ·have n2:=List.nodup_cons.1 n
     rw [List.map_cons,List.map_cons]
     refine⟨List.nodup_cons.2 ⟨fun hx=>?_,(k4 n2.2).1⟩,List.nodup_cons.2 ⟨fun hx=>?_,(k4 n2.2).2⟩⟩
     ·obtain⟨x,hx,e2⟩:=List.mem_map.1 hx
      have:=(k2 x hx).2
      rw [e2]at this;exact n2.1 this
     ·obtain⟨x,hx,e2⟩:=List.mem_map.1 hx
      have e2:x.2.1=2000000000+i:=e2
      rcases k1 x hx with h|h<;>omega
  | none=>
   obtain⟨k1,k2,k3,k4⟩:=EU (tree:=tree) (l:=r) (i:=i)
   simp only [Mx]
   refine⟨k1,fun x hx=>⟨(k2 x hx).1,List.mem_cons_of_mem _ (k2 x hx).2⟩,fun q hq hin=>?_,fun n=>k4 (List.nodup_cons.1 n).2⟩
   rcases List.mem_cons.1 hq with hq|hq
   ·subst hq;obtain⟨x,hx⟩:=dX.1 hin;rw [e]at hx;cases hx
   ·exact k3 q hq hin
section
variable {c:Ctx} {s:S} {y:Lay} {a:Act} {w:World}
theorem At.rename (A:At c s y a w){m:List (Nat×Nat×List (List D))}(h1:(m.map (·.2.1)).Nodup)(h2:∀x∈m,look x.1 s.tree=some x.2.2)(h3:(m.map (·.1)).Nodup)(h4:∀x∈m,x.2.1∉s.dG.map (·.1))(h5:∀x∈m,2*aU≤x.2.1∨x.2.1=x.1)
  (hE:∀t v,look t s.env=some v→∀p,aM p v=true→p∈s.tree.map (·.1)→p∈m.map (·.1)) (hB:∀b cs,(b,cs)∈s.box→∀p,aM.any p cs=true→p∈s.tree.map (·.1)→p∈m.map (·.1)):Good c (S.JD m s.env s.box s.dG) a w:=by
 let inv:List (Nat×Nat):=m.map fun x=>(x.2.1,x.1)
 let mp:List (Nat×Nat):=m.map fun x=>(x.1,x.2.1)
 have ai6:inv.map (·.1)=m.map (·.2.1):=by show(m.map _).map _=_;rw [List.map_map];rfl
 have kmp:mp.map (·.1)=m.map (·.1):=by show(m.map _).map _=_;rw [List.map_map];rfl
 have linv:∀x∈m,look x.2.1 inv=some x.1:=fun x hx=>jZ (by rw [ai6];exact h1) (List.mem_map.2 ⟨x,hx,rfl⟩)
 have lmp:∀x∈m,look x.1 mp=some x.2.1:=fun x hx=>jZ (by rw [kmp];exact h3) (List.mem_map.2 ⟨x,hx,rfl⟩)
 let y2:Lay:= {y with hd:=fun n=>match look n inv with|some p=>y.hd p|none=>y.hd n}
 have MU:∀x∈m,y2.hd x.2.1=y.hd x.1:=fun x hx=>by show(match look x.2.1 inv with|some p=>y.hd p|none=>y.hd x.2.1)=_;rw [linv x hx]
 have EO:∀n,n∉m.map (·.2.1)→y2.hd n=y.hd n:=fun n hn=>by
  show(match look n inv with|some p=>y.hd p|none=>y.hd n)=_
  cases e:look n inv with
  | none=>rfl
  | some p=>exact absurd (by rw [←ai6];exact dX.2 ⟨p,e⟩) hn
 have Vl:∀n,n∈s.dG.map (·.1)→n∉m.map (·.2.1):=fun n hn hx=>by
  obtain⟨x,hx7,rfl⟩:=List.mem_map.1 hx
  exact h4 x hx7 hn
 have An:=A.nt
 rw [List.map_append,List.nodup_append]at An
 have ahu:((m.map (·.2)).reverse).map (·.1)=(m.map (·.2.1)).reverse:=by rw [List.map_reverse,List.map_map];rfl
 have ht:∀p,(p∈s.tree.map (·.1)→p∈m.map (·.1))→(aX c s y).Lt p→(aX c (S.JD m s.env s.box s.dG) y2).Lt (ren mp p)∧(aX c (S.JD m s.env s.box s.dG) y2).hd (ren mp p)=(aX c s y).hd p:=by
  intro p hp hin
  have hin:p∈(s.tree++s.dG).map (·.1):=hin
  rw [List.map_append,List.mem_append]at hin
  by_cases hm:p∈m.map (·.1)
  ·obtain⟨x,hx,rfl⟩:=List.mem_map.1 hm
   have e:ren mp x.1=x.2.1:=by unfold ren;rw [lmp x hx];rfl
   rw [e]
   refine⟨?_,MU x hx⟩
   show x.2.1∈((m.map (·.2)).reverse++s.dG).map (·.1)
   rw [List.map_append,ahu,List.mem_append,List.mem_reverse]
   exact .inl (List.mem_map.2 ⟨x,hx,rfl⟩)
  ·have e:ren mp p=p:=by
    unfold ren
    cases e:look p mp with
    | none=>rfl
    | some q=>exact absurd (by rw [←kmp];exact dX.2 ⟨q,e⟩) hm
   rw [e]
   have hf:p∈s.dG.map (·.1):=hin.resolve_left fun h=>hm (hp h)
   refine⟨?_,EO p (Vl p hf)⟩
   show p∈((m.map (·.2)).reverse++s.dG).map (·.1)
   rw [List.map_append,List.mem_append];exact .inr hf
 have hb:∀b,(aX c s y).Lb b→(aX c (S.JD m s.env s.box s.dG) y2).Lb b∧(aX c (S.JD m s.env s.box s.dG) y2).bl b=(aX c s y).bl b:=fun b h=>⟨by
  show b∈(s.box.map fun x=>(x.1,Gd mp x.2)).map (·.1)
  rw [List.map_map];exact h,rfl⟩
 have ai7:(s.box.map fun x=>(x.1,Gd mp x.2)).map (·.1)=s.box.map (·.1):=by rw [List.map_map];rfl
 refine⟨y2,A.defers,A.size,?_,fun t v e=>?_,fun b cs h=>?_,fun p rows hp=>?_,by show((s.box.map fun x=>(x.1,Gd mp x.2)).map (·.1)).Nodup;rw [ai7];exact A.nb,?_,A.fix.1,fun i g1 g2=>⟨(A.fix.2 i g1 g2).1,Eq.trans ?_ (A.fix.2 i g1 g2).2⟩⟩
 ·show St c.W w (dJ y.bl y.T y.us (s.box.map fun x=>(x.1,Gd mp x.2))++(bW y2.hd (m.map (·.2)).reverse++(gI y.w0 y.F s.dG++c.L)))
  rw [jV,ai7,←jV]
  have e2:bW y2.hd (m.map (·.2)).reverse=((m.map (·.1)).map fun p=>gD (y.hd p) ((look p s.tree).getD [])).reverse:=by
   unfold bW
   rw [List.map_reverse,List.map_map,List.map_map]
   congr 1
   refine List.map_congr_left fun x hx=>?_
   simp only [Function.comp]
   rw [MU x hx,h2 x hx];rfl
  rw [e2]
  have p:=(vg An.1 h3 (fun q hq=>by obtain⟨x,hx,rfl⟩:=List.mem_map.1 hq;exact dX.2 ⟨_,h2 x hx⟩)).map fun p=>gD (y.hd p) ((look p s.tree).getD [])
  rw [←nP _ An.1,List.map_append]at p
  have S1:=A.st.perm (List.Perm.append_left _ (List.Perm.append_right _ (p.trans (List.Perm.append_right _ (List.reverse_perm _).symm))))
  have q:=XA (dJ y.bl y.T y.us s.box) [] ((m.map (·.1)).map fun p=>gD (y.hd p) ((look p s.tree).getD [])).reverse (((s.tree.map (·.1)).filter fun k=> !(m.map (·.1)).contains k).map fun p=>gD (y.hd p) ((look p s.tree).getD [])) (gI y.w0 y.F s.dG++c.L)
  simp only [List.append_nil,List.nil_append]at q
  have S2:=S1.perm q
  have q2:∀(X Y Z W:List Pc),(X++(Y++(Z++W))).Perm (Z++(X++(Y++W))):=by
   intro X Y Z W
   rw [←List.append_assoc X Y,←List.append_assoc X Y,←List.append_assoc (X++Y),←List.append_assoc Z]
   exact List.Perm.append_right _ List.perm_append_comm
  exact St.rU (S2.perm (q2 _ _ _ _))
 ·have e:look t (s.env.map fun x=>(x.1,Bb mp x.2))=some v:=e
  have:∀(l:List (Nat×V)),look t (l.map fun x=>(x.1,Bb mp x.2))=(look t l).map (Bb mp):=by
   intro l;induction l with
   | nil=>rfl
   | cons x l ih=>
    simp only [List.map_cons,look]
    by_cases ht:t=x.1
    ·rw [if_pos ht,if_pos ht];rfl
    ·rw [if_neg ht,if_neg ht];exact ih
  rw [this]at e
  obtain⟨v0,e1,rfl⟩:=Option.map_eq_some_iff.1 e
  exact RV.ren (ρ:=aX c s y) (ρ':=aX c (S.JD m s.env s.box s.dG) y2) rfl rfl rfl hb (fun p hp hin=>ht p (hE t v0 e1 p hp) hin) (A.env t v0 e1)
 ·obtain⟨x,hx,e⟩:=List.mem_map.1 (show(b,cs)∈s.box.map fun x=>(x.1,Gd mp x.2)from h)
  injection e with e1 e2;subst e1;subst e2
  exact jk.ren (ρ:=aX c s y) (ρ':=aX c (S.JD m s.env s.box s.dG) y2) rfl rfl rfl hb (fun p hp hin=>ht p (hB x.1 x.2 hx p hp) hin) (A.box x.1 x.2 hx)
 ·have hp:(p,rows)∈s.dG:=hp
  have e:=EO p (Vl p (List.mem_map.2 ⟨_,hp,rfl⟩))
  show kL (y.w0 p) _ (y2.hd p) (y.F p)
  rw [e];exact A.dG p rows hp
 ·show(((m.map (·.2)).reverse++s.dG).map (·.1)).Nodup
  rw [List.map_append,ahu,List.nodup_append]
  refine⟨(List.reverse_perm _).nodup_iff.2 h1,An.2.1,fun x hx z hz e=>?_⟩
  subst e
  exact Vl x hz (List.mem_reverse.1 hx)
 ·by_cases hx:i∈m.map (·.2.1)
  ·obtain⟨x,hx7,rfl⟩:=List.mem_map.1 hx
   rcases h5 x hx7 with h|h
   ·omega
   ·rw [MU x hx7,h]
  ·exact EO i hx
theorem agD {l:List (Nat×V)}{t:Nat}{v:V}(h:look t l=some v){p:Nat}(hp:aM p v=true):aM.any p (l.map (·.2))=true:=by
 induction l with
 | nil=>cases h
 | cons x l ih=>
  simp only [look]at h
  simp only [List.map_cons,aM.any,Bool.or_eq_true]
  split at h
  ·injection h with h;rw [h];exact .inl hp
  ·exact .inr (ih h)
theorem any_append {p:Nat}:∀{l r:List V},aM.any p (l++r)=(aM.any p l||aM.any p r)
 | [],r=>by simp [aM.any]
 | v::l,r=>by simp only [List.cons_append,aM.any,any_append,Bool.or_assoc]
theorem agE {l:List (Nat×List V)}{b:Nat}{cs:List V}(h:(b,cs)∈l){p:Nat}(hp:aM.any p cs=true):aM.any p (l.flatMap (·.2))=true:=by
 induction l with
 | nil=>cases h
 | cons x l ih=>
  rw [List.flatMap_cons,any_append,Bool.or_eq_true]
  rcases List.mem_cons.1 h with h|h
  ·subst h;exact .inl hp
  ·exact .inr (ih h)
theorem aae {ts bs:List Nat}{s':S}(h:s.head ts bs=some s')(g:Good c s a w):Good c s' a w:=by
 unfold S.head at h
 obtain⟨env,h1,h⟩:=aj h
 obtain⟨box,h2,h⟩:=aj h
 obtain⟨h3,h⟩:=aB h
 injection h with h;subst h
 simp only [Bool.and_eq_true,decide_eq_true_eq]at h3
 obtain⟨⟨⟨⟨⟨⟨d1,d2⟩,d3⟩,d4⟩,d5⟩,d6⟩,d7⟩:=h3
 obtain⟨k1,k2⟩:=MW h1
 obtain⟨m1,m2⟩:=MW h2
 obtain⟨y,A⟩:=g
 have A1:At c {s with env:=env,box:=box} y a w:=A.restrict (bs:=bs) (fun t v e=>⟨k2 t v (fD e),List.all_eq_true.1 d3 _ (fD e)⟩) (fun b cs hb=>⟨fD (m2 b cs hb),acj (List.all_eq_true.1 d4 _ hb)⟩) m1 (Qk d2)
 obtain⟨e1,e2⟩:=He env 3000000000
 obtain⟨f1,f3,f2⟩:=Lp box (3000000000+(dW 3000000000 env).2.length)
 generalize hE:dW 3000000000 env=E at*
 generalize hBx:mV (3000000000+E.2.length) box=B at*
 have hps:E.2++B.2=List.range' 3000000000 (E.2.length+B.2.length):=by
  rw [←List.range'_append_1,←e1,←f1]
 have hge:∀k∈E.2++B.2,3000000000≤k:=fun k hk=>by rw [hps,List.mem_range'_1]at hk;exact hk.1
 have hlow:∀k,k∈(s.tree++s.dG).map (·.1)→k<3000000000:=by
  intro k hk
  rw [List.map_append,List.mem_append]at hk
  rcases hk with hk|hk
  ·obtain⟨x,hx,rfl⟩:=List.mem_map.1 hk
   have:=List.all_eq_true.1 d5 x hx
   simpa using this
  ·obtain⟨x,hx,rfl⟩:=List.mem_map.1 hk
   have:=List.all_eq_true.1 d6 x hx
   simp at this;omega
 have g2:Good c {env:=E.1,box:=B.1,tree:=s.tree++(E.2++B.2).map (fun p=>(p,[])),dG:=s.dG} a w:=
  A1.aku (ps:=E.2++B.2) (by rw [hps];exact List.nodup_range') (fun k hk hin=>by have:=hge k hk;have:=hlow k hin;omega) (fun k hk=>by have:=hge k hk;unfold aU;omega)
   (fun t v e=>(e2 t v e).imp _root_.id fun⟨q1,k,q2,q3⟩=>⟨q1,k,List.mem_append_left _ q2,q3⟩) f3
   (fun b cs hb=>by
    obtain⟨cs0,q1,q2,q3⟩:=f2 b cs hb
    exact⟨cs0,q1,q2,fun i v e=>(q3 i v e).imp _root_.id fun⟨r1,k,r2,r3⟩=>⟨r1,k,List.mem_append_right _ r2,r3⟩⟩)
 obtain⟨y2,A2⟩:=g2
 unfold S.abV
 obtain⟨a1,a2,a3⟩:=DR [] (E.1.map (·.2))
 obtain⟨b1,b2,b3⟩:=DR (zZ [] (E.1.map (·.2))) (B.1.flatMap (·.2))
 obtain⟨n1,n2,n3,n4⟩:=EU (tree:=s.tree++(E.2++B.2).map (fun p=>(p,[]))) (l:=zZ (zZ [] (E.1.map (·.2))) (B.1.flatMap (·.2))) (i:=1000*s.dG.length)
 generalize hM:metIn (s.tree++(E.2++B.2).map (fun p=>(p,[]))) (zZ (zZ [] (E.1.map (·.2))) (B.1.flatMap (·.2))) (1000*s.dG.length)=M at*
 have An:=A2.nt
 rw [List.map_append,List.nodup_append]at An
 have nn:=n4 (b3 (a3 List.nodup_nil))
 exact A2.rename (m:=M) nn.2 (fun x hx=>(n2 x hx).1) nn.1 (fun x hx hf=>by
   rcases n1 x hx with h7|h7
   ·rw [h7.1]at hf
    exact An.2.2 x.1 (dX.2 ⟨_,(n2 x hx).1⟩) x.1 hf rfl
   ·obtain⟨z,hz,e⟩:=List.mem_map.1 hf
    have:=List.all_eq_true.1 d6 z hz
    rw [←e]at h7
    simp at this;omega) (fun x hx=>(n1 x hx).elim (fun h=> .inr h.1) fun h=> .inl (by unfold aU;omega))
  (fun t v e p hp hpt=>n3 p (b1 p (a2 p (agD e hp))) hpt) (fun b cs hb p hp hpt=>n3 p (b2 p (agE hb hp)) hpt)
theorem DT (gh:mg):EN gh:=by
 have key:∀(c:Ctx) (o:Option (List Nat×List Nat)) (s s':S) (a:Act) (w:World),Gm s o=some s'→Good c s a w→Good c s' a w:=fun c o s s' a w h g=>by
  unfold Gm at h
  split at h
  ·exact aae h g
  ·injection h with h;subst h;exact g
 refine⟨fun c id s s' h a w g=>key c _ s s' a w h g,fun c id s s' h a w g=>?_⟩
 unfold mg.reg at h
 obtain⟨s1,h1,h⟩:=aj h
 exact XC h (key c _ s s1 a w h1 g)
end
def afg (gh:mg)(fn:Func):Bool:=match fn.body with
 | some x => !(fn.name == "runtime.NumGoroutine") && decide (fn.ntmps ≤ 1000000) && jU gh fn.ntmps x
 | none=>false
theorem sound {P:Program}{G:List (FuncId×Bool×aN)}(gh:mg){f:FuncId}{fn:Func}(hG:∀f M,look f G=some M→aF P f M.2)(hm:P.follows .mixedOrders=true)(hf:P.funcs[f]?=some fn)(h:afg gh fn=true):aF P f (aG P G gh f):=by
 unfold afg at h
 split at h
 ·rename_i x hb
  simp only [Bool.and_eq_true,decide_eq_true_eq]at h
  exact adg hG (DT gh) hf hb (by simpa using h.1.1) h.1.2 h.2 hm
 ·cases h
theorem ay {P:Program}:∀f M,look f ([]:List (FuncId×Bool×aN))=some M→aF P f M.2:=fun _ _ h=>by cases h
theorem ah {P:Program}{f:FuncId}{m:Bool}{M:aN}{G:List (FuncId×Bool×aN)}(h:aF P f M)(k:∀f M,look f G=some M→aF P f M.2):∀g N,look g ((f,m,M)::G)=some N→aF P g N.2:=by
 intro g N e
 simp only [look]at e
 split at e
 ·rename_i e2;injection e with e;subst e2;subst e;exact h
 ·exact k g N e
section
variable {P:Program}
theorem NW {ρ ρ':Rel}(hK:ρ'.K=ρ.K)(hs:ρ'.src=ρ.src):∀{vs:List V} {us:List Value},vs.all Pp=true→jk ρ vs us→jk ρ' vs us
 | [],_,_,h=>h
 | v::vs,us,ha,h=>by
  rw [List.all_cons,Bool.and_eq_true]at ha
  obtain⟨u,q,h1,h2,h3⟩:=h
  refine⟨u,q,h1,?_,NW hK hs ha.2 h3⟩
  cases v
  case v x=>exact h2
  case aP o rows=>exact⟨by rw [hK];exact h2.1,fun j e=>by rw [hs];exact h2.2 j e⟩
  all_goals cases ha.1
theorem Vm {c c0:Ctx}{s:S}{y y0:Lay}{a:Act}{w:World}(A:At c s y a w)(hW:c0.W=c.W)(hL:c0.L=c.L)(hK:c0.K=c.K)(hs:c0.src=c.src){v:V}{u:Value}(hu:RV (aX c s y) v u){r:Ay}(h:Gs s v=some r):∃y',Ends c0 0 0 r y0 u y' w:=by
 unfold Gs at h
 split at h
 ·rename_i b
  obtain⟨cs,h1,h⟩:=aj h
  obtain⟨h2,h⟩:=aB h
  injection h with h;subst h
  obtain⟨l1,l2,e1, -, -⟩:=sS h1
  let y2:Lay:= {bl:=fun _=>y.bl b,hd:=fun _=>qR,T:=fun _=>y.T b,us:=fun _=>y.us b,w0:=y.w0,F:=y.F}
  have hS:St c.W w ([rowP (y.bl b) (y.T b) (y.us b)]++c.L):=by
   have S0:=A.st
   rw [e1]at S0
   have p:(dJ y.bl y.T y.us (l1++(b,cs)::l2)++(bW y.hd s.tree++(gI y.w0 y.F s.dG++c.L))).Perm ((dJ y.bl y.T y.us (l1++l2)++(bW y.hd s.tree++gI y.w0 y.F s.dG))++([rowP (y.bl b) (y.T b) (y.us b)]++c.L)):=by
    have q1:(dJ y.bl y.T y.us (l1++(b,cs)::l2)).Perm (rowP (y.bl b) (y.T b) (y.us b)::dJ y.bl y.T y.us (l1++l2)):=by
     unfold dJ
     rw [List.map_append,List.map_append,List.map_cons]
     exact List.perm_middle
    refine(List.Perm.append_right _ q1).trans ?_
    have q2:=(List.perm_middle (a:=rowP (y.bl b) (y.T b) (y.us b)) (l₁:=dJ y.bl y.T y.us (l1++l2)++(bW y.hd s.tree++gI y.w0 y.F s.dG)) (l₂:=c.L)).symm
    have e2:(rowP (y.bl b) (y.T b) (y.us b)::dJ y.bl y.T y.us (l1++l2))++(bW y.hd s.tree++(gI y.w0 y.F s.dG++c.L))=rowP (y.bl b) (y.T b) (y.us b)::((dJ y.bl y.T y.us (l1++l2)++(bW y.hd s.tree++gI y.w0 y.F s.dG))++c.L):=by simp only [List.cons_append,List.append_assoc]
    rw [e2]
    exact q2
   exact St.rU (S0.perm p)
  refine⟨y2,⟨?_,fun b' cs' hb=>?_,fun p rows hp=>(by cases hp),by simp [oG,bO],by simp [oG]⟩,?_, .inr ⟨rfl,rfl,cs,rfl⟩,fun i hi=>by omega,fun q hq=>by omega⟩
  ·rw [hW,hL]
   exact hS
  ·have hb:(b',cs')∈ [(0,cs)]:=hb
   simp only [List.mem_singleton,Prod.mk.injEq]at hb
   obtain⟨rfl,rfl⟩:=hb
   exact NW (ρ:=aX c s y) hK hs h2 (A.box b cs' (fD h1))
  ·exact⟨List.mem_singleton_self _,hu.2⟩
 ·cases h
theorem adh {G : List (FuncId × Bool × aN)} (hG : ∀ f M, look f G = some M → aF P f M.2) {gh : mg} (hM : EN gh) {f : FuncId} {fn : Func} {x : Code} (hf : P.funcs[f]? = some fn) (hb : fn.body = some x) (hn : (fn.name == "runtime.NumGoroutine") = false) (hsm : fn.ntmps ≤ 1000000) (hx : jU gh fn.ntmps x = true) (hm : P.follows .mixedOrders = true) : aF P f (Xc P G gh f) := by
 refine⟨⟨fn,hf,hn,by rw [hb];rfl⟩,fun c args boxes trees r h y us w m hargs=>?_⟩
 unfold Xc at h
 rw [hf,aY,hb,aY]at h
 obtain⟨⟨hal,ai4,ai5⟩,h7⟩:=aB h
 clear h
 obtain rfl:boxes= []:=List.eq_nil_of_length_eq_zero ai4
 obtain rfl:trees= []:=List.eq_nil_of_length_eq_zero ai5
 obtain⟨e,h1,h⟩:=aj h7
 obtain⟨un,hun⟩:=Vg
 have hle:us.length≤1000:=by rw [hargs.len];exact hal
 have hsz0:(jK fn.ntmps us).tmps.size=us.length+(fn.ntmps-us.length):=by
  show(us.toArray++Array.replicate (fn.ntmps-us.toArray.size) undef).size=_
  rw [Array.size_append,Array.size_replicate,List.size_toArray]
 have hsz:fn.ntmps≤(jK fn.ntmps us).tmps.size:=by rw [hsz0];omega
 have hpb:(jK fn.ntmps us).tmps.size≤aU:=by rw [hsz0];unfold aU;omega
 have A:=Cn m hargs fn.ntmps hun hpb
 refine calls_of_wp hf hb ?_
 refine pJ (c:= {c with n:=(jK fn.ntmps us).tmps.size,bF:=fun b=>y.bl (un b),hF:=fun p=>y.hd (un p)}) (DL hG) hM hm x (.on (yh args [] [])) e (jK fn.ntmps us) w _ (mK hsz x hx) h1 ⟨_,A⟩ fun a' w' g=>?_
 obtain⟨ex,q⟩:=e
 have fin:∀s,DK {c with n:=(jK fn.ntmps us).tmps.size,bF:=fun b=>y.bl (un b),hF:=fun p=>y.hd (un p)} (.on s) a' w'→(bnd (bG (KX P s) fn.results.toList) fun vs=>Gs s (F5 vs))=some r→a'.defers= []∧∃v,(results fn a'.tmps).run P w'= .ok v w'∧∃u y',Ending.returned v= .returned u∧Ends c 0 0 r y u y' w':=by
  intro s ⟨y1,A1⟩ hr
  obtain⟨vs,hvs,hr⟩:=aj hr
  obtain⟨u,k1,k2⟩:=yS A1 hvs
  obtain⟨y',k3⟩:=Vm (c0:=c) (y0:=y) A1 rfl rfl rfl rfl k2 hr
  exact⟨A1.defers,u,k1,u,y',rfl,k3⟩
 cases ex with
 | normal=>
  cases q with
  | off=>exact g.elim
  | on s=>exact fin s g h
 | ret=>
  cases q with
  | off=>exact g.elim
  | on s=>exact fin s g h
 | exit i=>simp only [Pq]at h;cases h
theorem ahW {G:List (FuncId×Bool×aN)}(gh:mg){f:FuncId}{fn:Func}(hG:∀f M,look f G=some M→aF P f M.2)(hm:P.follows .mixedOrders=true)(hf:P.funcs[f]?=some fn)(h:afg gh fn=true):aF P f (Xc P G gh f):=by
 unfold afg at h
 split at h
 ·rename_i x hb
  simp only [Bool.and_eq_true,decide_eq_true_eq]at h
  exact adh hG (DT gh) hf hb (by simpa using h.1.1) h.1.2 h.2 hm
 ·cases h
end
def agF (w:World)(hz:ZW w)(us:List Value):Ctx where
 W:=w
 L:= []
 K:=jT w
 src:=fun j=>us[j]?.getD undef
 n:=0
 hK:=fun _ S _ _ h=>agr h S.ext
 bF:=fun _=>0
 hF:=fun _=>qR
 zed:=ags hz
def agG (w:World):Lay where
 bl:=fun _=>0
 hd:=fun _=>qR
 T:=fun _=>0
 us:=fun _=> #[]
 w0:=fun _=>w
 F:=fun _=> []
def ahX (w:World)(hz:ZW w)(us:List Value):Rel:=aX (agF w hz us) (oG [] (bO 0 [])) (agG w)
theorem agH (w:World)(hz:ZW w)(us:List Value):Mem (agF w hz us) (oG [] (bO 0 [])) (agG w) w:=
 ⟨St.refl w,(fun _ _ h=>nomatch h),(fun _ _ h=>nomatch h),List.nodup_nil,List.nodup_nil⟩
theorem aF.top {P:Program}{f:FuncId}{M:aN}(h:aF P f M){w:World}(hz:ZW w){ls us:List Value}{args:List V}{r:Ay}(hM:M args [] []=some r)(ha:jk (ahX w hz ls) args us):
  Calls P f us.toArray w fun e w'=> ∃u y',e= .returned u∧Ends (agF w hz ls) 0 0 r (agG w) u y' w':=
 h.run (agF w hz ls) args [] [] r hM (agG w) us w (agH w hz ls) ha
theorem aF.ai8 {P:Program}{f:FuncId}{M:aN}(h:aF P f M){w:World}(hz:ZW w){ls us:List Value}{args:List V}{x:Value}{bs:List (List V)}{ts:List (Nat×List (List D))}(hM:M args [] []=some ⟨.v x,bs,ts⟩)(ha:jk (ahX w hz ls) args us):
  Calls P f us.toArray w fun e w'=>e= .returned x∧Ext w w':=
 (h.top hz hM ha).mono fun e w' ⟨u,y',he,E⟩=>⟨by rw [he,show u=x from E.val],E.mem.st.ext⟩
theorem adi {w:World}{hz:ZW w}{ls:List Value}{j:Nat}{u:Value}{rows:List (List D)}(hj:ls[j]?=some u)(h:wL (jT w) (.l rows) u):RV (ahX w hz ls) (.aP (some j) rows) u:=
 ⟨h,fun i e=>by injection e with e;subst e;show ls[j]?.getD undef=u;rw [hj];rfl⟩
def TV (M1 M2:aN):aN:=fun args boxes trees=>match boxes with
 | [b]=>M1 args [b] trees
 | bs=>M2 args bs trees
@[simp] theorem aiE (M1 M2:aN)(args:List V)(b:List V)(trees:List (List (List D))):TV M1 M2 args [b] trees=M1 args [b] trees:=id rfl
@[simp] theorem aiF (M1 M2:aN)(args:List V)(trees:List (List (List D))):TV M1 M2 args [] trees=M2 args [] trees:=id rfl
@[simp] theorem aiG (M1 M2:aN)(args:List V)(a b:List V)(r:List (List V))(trees:List (List (List D))):TV M1 M2 args (a::b::r) trees=M2 args (a::b::r) trees:=id rfl
theorem XF {P:Program}{f:FuncId}{M1 M2:aN}(h1:aF P f M1)(h2:aF P f M2):aF P f (TV M1 M2) where
 fn:=h1.fn
 run:=fun c args boxes trees r hr=>by
  unfold TV at hr
  split at hr
  ·exact h1.run c args _ trees r hr
  ·exact h2.run c args boxes trees r hr
end Go.Proofs.YtlpdjhiggpblcaaGreat
namespace Go.Proofs
open Go.Shelf
def Tryz.lays143_ren:Go.Shelf.Ren:=⟨fun|143=>233|219=>275|217=>287|225=>288|224=>289|267=>290|266=>294|314=>295|n=>n,fun|9=>9|3=>3|4=>4|5=>5|46=>187|146=>218|51=>217|n=>n,fun|1=>0|n=>n⟩
theorem Tryz.lays143:Go.Proofs.Lays.n143 Tryz.prog Tryz.lays143_ren:= {
 mixed:=by kernel_rfl
 f143:=Tryz.func233.trans (congrArg some (by kernel_rfl))
 f217:=Tryz.func287.trans (congrArg some (by kernel_rfl))
 f219:=Tryz.func275.trans (congrArg some (by kernel_rfl))
 f224:=Tryz.func289.trans (congrArg some (by kernel_rfl))
 f225:=Tryz.func288.trans (congrArg some (by kernel_rfl))
 f266:=Tryz.func294.trans (congrArg some (by kernel_rfl))
 f267:=Tryz.func290.trans (congrArg some (by kernel_rfl))
 f314:=Tryz.func295.trans (congrArg some (by kernel_rfl))
 t3:=Tryz.underlying3
 a3:=Tryz.isAgg3
 z3:=Tryz.sizeOf3
 v3:=Tryz.zeroValue3
 t4:=Tryz.underlying4
 a4:=Tryz.isAgg4
 z4:=Tryz.sizeOf4
 v4:=Tryz.zeroValue4
 t5:=Tryz.underlying5
 a5:=Tryz.isAgg5
 z5:=Tryz.sizeOf5
 v5:=Tryz.zeroValue5
 t9:=Tryz.underlying9
 a9:=Tryz.isAgg9
 z9:=Tryz.sizeOf9
 v9:=Tryz.zeroValue9
 t46:=Tryz.underlying187
 a46:=Tryz.isAgg187
 z46:=Tryz.sizeOf187
 v46:=Tryz.zeroValue187
 t51:=Tryz.underlying217
 a51:=Tryz.isAgg217
 z51:=Tryz.sizeOf217
 v51:=Tryz.zeroValue217
 t146:=Tryz.underlying218
 a146:=Tryz.isAgg218
 z146:=Tryz.sizeOf218
 v146:=Tryz.zeroValue218
 g1:=by kernel_rfl}
open Go.RowKit Go.Lib in
theorem Tryz.strings_Index (s sub:ByteArray)(m:Int)(w:World)(hs:s.size<4294967281)(hm:w.cell? ⟨0,0,none⟩=some (.int .i64 m)):
  Calls Tryz.prog 233 #[.string s, .string sub] w fun e w'=>e= .returned (.int .i64 (Lib.index s.data.toList sub.data.toList))∧w'=w:=Any.strings_Index Tryz.lays143 s sub m w hs hm
def Tryz.lays144_ren:Go.Shelf.Ren:=⟨fun|144=>229|143=>233|219=>275|217=>287|225=>288|224=>289|267=>290|266=>294|314=>295|n=>n,fun|9=>9|4=>4|3=>3|5=>5|46=>187|146=>218|51=>217|n=>n,fun|1=>0|n=>n⟩
theorem Tryz.lays144:Go.Proofs.Lays.n144 Tryz.prog Tryz.lays144_ren:= {
 mixed:=by kernel_rfl
 f143:=Tryz.func233.trans (congrArg some (by kernel_rfl))
 f144:=Tryz.func229.trans (congrArg some (by kernel_rfl))
 f217:=Tryz.func287.trans (congrArg some (by kernel_rfl))
 f219:=Tryz.func275.trans (congrArg some (by kernel_rfl))
 f224:=Tryz.func289.trans (congrArg some (by kernel_rfl))
 f225:=Tryz.func288.trans (congrArg some (by kernel_rfl))
 f266:=Tryz.func294.trans (congrArg some (by kernel_rfl))
 f267:=Tryz.func290.trans (congrArg some (by kernel_rfl))
 f314:=Tryz.func295.trans (congrArg some (by kernel_rfl))
 t3:=Tryz.underlying3
 a3:=Tryz.isAgg3
 z3:=Tryz.sizeOf3
 v3:=Tryz.zeroValue3
 t4:=Tryz.underlying4
 a4:=Tryz.isAgg4
 z4:=Tryz.sizeOf4
 v4:=Tryz.zeroValue4
 t5:=Tryz.underlying5
 a5:=Tryz.isAgg5
 z5:=Tryz.sizeOf5
 v5:=Tryz.zeroValue5
 t9:=Tryz.underlying9
 a9:=Tryz.isAgg9
 z9:=Tryz.sizeOf9
 v9:=Tryz.zeroValue9
 t46:=Tryz.underlying187
 a46:=Tryz.isAgg187
 z46:=Tryz.sizeOf187
 v46:=Tryz.zeroValue187
 t51:=Tryz.underlying217
 a51:=Tryz.isAgg217
 z51:=Tryz.sizeOf217
 v51:=Tryz.zeroValue217
 t146:=Tryz.underlying218
 a146:=Tryz.isAgg218
 z146:=Tryz.sizeOf218
 v146:=Tryz.zeroValue218
 g1:=by kernel_rfl}
open Go.RowKit Go.Lib in
theorem Tryz.strings_Contains (s sub:ByteArray)(m:Int)(w:World)(hs:s.size<4294967281)(hm:w.cell? ⟨0,0,none⟩=some (.int .i64 m)):
  Calls Tryz.prog 229 #[.string s, .string sub] w fun e w'=>e= .returned (.bool (Lib.contains s.data.toList sub.data.toList))∧w'=w:=Any.strings_Contains Tryz.lays144 s sub m w hs hm
def Tryz.laysM144_ren:Go.Shelf.Ren:=⟨fun|144=>229|143=>233|219=>275|217=>287|225=>288|224=>289|267=>290|266=>294|314=>295|n=>n,fun|9=>9|4=>4|3=>3|5=>5|46=>187|146=>218|51=>217|n=>n,fun|1=>0|n=>n⟩
theorem Tryz.laysM144:Go.Proofs.LaysM.n144 Tryz.prog Tryz.laysM144_ren:= {
 mixed:=by kernel_rfl
 f143:=Tryz.func233.trans (congrArg some (by kernel_rfl))
 f144:=Tryz.func229.trans (congrArg some (by kernel_rfl))
 f217:=Tryz.func287.trans (congrArg some (by kernel_rfl))
 f219:=Tryz.func275.trans (congrArg some (by kernel_rfl))
 f224:=Tryz.func289.trans (congrArg some (by kernel_rfl))
 f225:=Tryz.func288.trans (congrArg some (by kernel_rfl))
 f266:=Tryz.func294.trans (congrArg some (by kernel_rfl))
 f267:=Tryz.func290.trans (congrArg some (by kernel_rfl))
 f314:=Tryz.func295.trans (congrArg some (by kernel_rfl))
 t3:=Tryz.underlying3
 a3:=Tryz.isAgg3
 z3:=Tryz.sizeOf3
 v3:=Tryz.zeroValue3
 t4:=Tryz.underlying4
 a4:=Tryz.isAgg4
 z4:=Tryz.sizeOf4
 v4:=Tryz.zeroValue4
 t5:=Tryz.underlying5
 a5:=Tryz.isAgg5
 z5:=Tryz.sizeOf5
 v5:=Tryz.zeroValue5
 t9:=Tryz.underlying9
 a9:=Tryz.isAgg9
 z9:=Tryz.sizeOf9
 v9:=Tryz.zeroValue9
 t46:=Tryz.underlying187
 a46:=Tryz.isAgg187
 z46:=Tryz.sizeOf187
 v46:=Tryz.zeroValue187
 t51:=Tryz.underlying217
 a51:=Tryz.isAgg217
 z51:=Tryz.sizeOf217
 v51:=Tryz.zeroValue217
 t146:=Tryz.underlying218
 a146:=Tryz.isAgg218
 z146:=Tryz.sizeOf218
 v146:=Tryz.zeroValue218
 g1:=by kernel_rfl
 i3:=by kernel_rfl
 i4:=by kernel_rfl
 i5:=by kernel_rfl
 i9:=by kernel_rfl
 i46:=by kernel_rfl
 i51:=by kernel_rfl
 i146:=by kernel_rfl
 m1:=by kernel_rfl
 s1_3:=fun w h=>Go.Proofs.cell_of_shapedOpen_int (zero:= #[.int .i64 0]) (t:=3) h (of_decide_eq_true (by kernel_rfl)) (by kernel_rfl) rfl (by kernel_rfl) (by kernel_rfl) Tryz.underlying3}
end Go.Proofs
namespace Go.Proofs.YtlpdjhiggpblcaaGreat
set_option linter.unusedSectionVars false
set_option linter.unusedSimpArgs false
set_option linter.unusedVariables false
open Go.RowKit
def lM:aN:=fun args boxes trees=>
 match args,boxes,trees with
 | [.v (.string s), .v (.string sub)],[],[]=>if s.size<4294967281 then some ⟨.v (.bool (Lib.contains s.data.toList sub.data.toList)),[],[]⟩else none
 | _,_,_=>none
theorem Kj:aF prog 229 lM where
 fn:=⟨_,func229,by kernel_rfl,by kernel_rfl⟩
 run:=fun c args boxes trees r hr y us w hM ha=>by
  unfold lM at hr
  split at hr
  ·rename_i s sub
   split at hr
   ·rename_i hc
    injection hr with hr;subst hr
    obtain⟨u0,q0,rfl,h0,u1,q1,rfl,h1,h2⟩:=ha
    obtain rfl:u0= .string s:=h0
    obtain rfl:u1= .string sub:=h1
    obtain rfl:q1= []:=h2
    have S:St c.W w c.L:=hM.st
    obtain⟨m,hm⟩:=(c.zed w (c.hK w S)).2
    refine(Tryz.strings_Contains s sub m w hc hm).mono fun e w' ⟨he,hw⟩=>?_
    subst hw
    exact⟨_,y,he,hM,rfl, .inl rfl,fun _ _=>rfl,fun _ _=>rfl⟩
   ·cases hr
  ·cases hr
def rW:aN:=fun args boxes trees=>
 match args,boxes,trees with
 | [.v (.string s), .v (.string sub)],[],[]=>if s.size<4294967281 then some ⟨.v (.int .i64 (Lib.index s.data.toList sub.data.toList)),[],[]⟩else none
 | _,_,_=>none
theorem OE:aF prog 233 rW where
 fn:=⟨_,func233,by kernel_rfl,by kernel_rfl⟩
 run:=fun c args boxes trees r hr y us w hM ha=>by
  unfold rW at hr
  split at hr
  ·rename_i s sub
   split at hr
   ·rename_i hc
    injection hr with hr;subst hr
    obtain⟨u0,q0,rfl,h0,u1,q1,rfl,h1,h2⟩:=ha
    obtain rfl:u0= .string s:=h0
    obtain rfl:u1= .string sub:=h1
    obtain rfl:q1= []:=h2
    have S:St c.W w c.L:=hM.st
    obtain⟨m,hm⟩:=(c.zed w (c.hK w S)).2
    refine(Tryz.strings_Index s sub m w hc hm).mono fun e w' ⟨he,hw⟩=>?_
    subst hw
    exact⟨_,y,he,hM,rfl, .inl rfl,fun _ _=>rfl,fun _ _=>rfl⟩
   ·cases hr
  ·cases hr
def gG:List (List D)→List Value→List (List D)
 | [],_=> []
 | r::rows,us=>(us.take r.length).map D.a::gG rows (us.drop r.length)
theorem EW:∀{rows:List (List D)} {us:List Value},us.length=rows.flatten.length→(gG rows us).flatten=us.map D.a
 | [],us,h=>by
  have:us= []:=List.eq_nil_of_length_eq_zero (by simpa using h)
  subst this;rfl
 | r::rows,us,h=>by
  rw [List.flatten_cons,List.length_append]at h
  show((us.take r.length).map D.a++(gG rows (us.drop r.length)).flatten)=_
  rw [EW (rows:=rows) (us:=us.drop r.length) (by rw [List.length_drop];omega),←List.map_append,List.take_append_drop]
theorem sV:∀(rows:List (List D)) (us:List Value),(gG rows us).length=rows.length
 | [],_=>rfl
 | r::rows,us=>by show(gG rows (us.drop r.length)).length+1=rows.length+1;rw [sV]
theorem Co {k:Nat}:∀{rows:List (List D)} {us:List Value},us.length=rows.flatten.length→(∀r∈rows,r.length=k)→∀r∈gG rows us,r.length=k
 | [],_,_,_,r,hr=>by cases hr
 | r0::rows,us,h,hk,r,hr=>by
  rw [List.flatten_cons,List.length_append]at h
  have h0:=hk r0 (by simp)
  rcases List.mem_cons.1 hr with hr|hr
  ·subst hr;rw [List.length_map,List.length_take];omega
  ·exact Co (rows:=rows) (us:=us.drop r0.length) (by rw [List.length_drop];omega) (fun r hr=>hk r (List.mem_cons_of_mem _ hr)) r hr
def afh:D→Value→Prop
 | .a x,u=>u=x
 | _,u=>u.oneCell'=true
def Ad (ds:List D)(us:List Value):Prop:= ∀(i:Nat) (d:D) (u:Value),ds[i]?=some d→us[i]?=some u→afh d u
theorem adj {w:World}{d:D}{u:Value}{F:List Nat}(o:pG w d u F):afh d u:=by
 cases o with
 | a x=>exact rfl
 | gone u h=>exact h
 | nil A F=>rfl
 | l=>rfl
section
variable {c:Ctx} {s:S} {y:Lay} {a:Act} {w:World}
theorem At.ahv (A:At c s y a w){p:Nat}{rows:List (List D)}(hl:look p s.tree=some rows){w':World}{rows':List (List D)}{L':List Pc}(hK':∀w,St c.W w L'→∀b o,c.K b o→w.heap[b]?=some o)(S:St c.W w' (gD (y.hd p) rows'::(dJ y.bl y.T y.us s.box++(bW y.hd (drop1 p s.tree)++(gI y.w0 y.F s.dG++L'))))):
  At {c with L:=L',hK:=hK'} {s with tree:=upd p rows' s.tree} y a w':=by
 obtain⟨l1,l2,h1,h2,h3⟩:=sS hl
 have n:=A.nt
 rw [List.map_append,List.nodup_append]at n
 have h3:=h3 n.1
 have le:(aX c s y).le (aX {c with L:=L',hK:=hK'} {s with tree:=upd p rows' s.tree} y):=
  ⟨fun _ _ h=>h,fun _ _ h=>h,rfl,fun b' h=>⟨h,rfl⟩,fun q h=>⟨by
   show q∈(upd p rows' s.tree++s.dG).map (·.1)
   rw [List.map_append,oN,←List.map_append];exact h,rfl⟩⟩
 refine⟨A.defers,A.size,?_,fun t' v e=>(A.env t' v e).le le,fun b cs h=>(A.box b cs h).le le,A.dG,A.nb,by
  show((upd p rows' s.tree++s.dG).map (·.1)).Nodup
  rw [List.map_append,oN,←List.map_append];exact A.nt,A.fix⟩
 show St c.W w' (dJ y.bl y.T y.us s.box++(bW y.hd (upd p rows' s.tree)++(gI y.w0 y.F s.dG++L')))
 rw [h2 rows']
 rw [h3]at S
 refine S.perm ?_
 refine(List.perm_middle (l₁:=dJ y.bl y.T y.us s.box) (l₂:=bW y.hd (l1++l2)++(gI y.w0 y.F s.dG++L')) (a:=gD (y.hd p) rows')).symm.trans ?_
 refine List.Perm.append_left _ ?_
 rw [←List.cons_append]
 refine List.Perm.append_right _ ?_
 unfold bW
 rw [List.map_append,List.map_append,List.map_cons]
 exact List.perm_middle.symm
theorem St.afi {W w:World}{h:Hd}{rows:List (List D)}{us:List Value}{L:List Pc}(S:St W w (qQ h.v rows::L))(hf:rows.flatten=us.map D.a):St W w (gD h rows::L):=by
 obtain⟨F,s,n,hb⟩:=S.sep
 obtain⟨F1,G,rfl,a,g⟩:=s.lF
 refine⟨S.ext,_, .cons (h:=gD h rows) ⟨a,fun g o n c cs T fr m r' e1 e2 e3=>?_⟩ g,n,hb⟩
 rw [hf,List.getElem?_map]at e3
 cases e:us[m]? with
 | none=>rw [e]at e3;cases e3
 | some x=>rw [e]at e3;cases e3
theorem St.afj {W w:World}{L:List Pc}(S:St W w L)(us:List Value):St W w (qw (us.map D.a) us++L):=by
 refine S.atoms (fun d hd=>?_) (fun i x u e1 e2=>?_)
 ·obtain⟨x,_,rfl⟩:=List.mem_map.1 hd;rfl
 ·rw [List.getElem?_map,e2]at e1
  simp only [Option.map_some,Option.some.injEq,D.a.injEq]at e1
  exact e1
theorem Good.flat {p:Nat}{rows:List (List D)}(g:Good c s a w)(hp:look p s.tree=some rows):∃(us:List Value) (hK':∀w,St c.W w (qw rows.flatten us++c.L)→∀b o,c.K b o→w.heap[b]?=some o),us.length=rows.flatten.length∧Ad rows.flatten us∧
  Good {c with L:=qw rows.flatten us++c.L,hK:=hK'} {s with tree:=upd p (gG rows us) s.tree} a w:=by
 obtain⟨y,A⟩:=g
 have hK:∀us:List Value,∀w,St c.W w (qw rows.flatten us++c.L)→∀b o,c.K b o→w.heap[b]?=some o:=fun us w S=>c.hK w S.rU
 have S0:=(A.out' hp).Bg
 rcases S0.split with⟨h1, -⟩|⟨g,o,cc,k,T,cs,us,h0,h1,h2,h3,h4,h5,h6,h7,h8,S⟩
 ·subst h1
  refine⟨[],hK [],rfl,fun i d u e=>by simp at e,y,?_⟩
  exact At.ahv A hp (hK []) (A.out hp)
 ·have hcell:Ad rows.flatten us:=fun i d u e1 e2=>by
   obtain⟨F,sp, -, -⟩:=S.sep
   obtain⟨F1,G1,rfl, -,g1⟩:=sp.lF
   obtain⟨fs,G, -, -,hh⟩:=Sep.ab2 h7 g1
   exact adj (hh i d u e1 e2)
  refine⟨us,hK us,h7,hcell,y,?_⟩
  have hfl:=EW h7
  have S1:=S.afj us
  have S2:=S1.perm (L':=rowP g T cs::(qw (gG rows us).flatten us++(qw rows.flatten us++(Ml (s.kill p) y++c.L)))) (by rw [hfl];exact List.perm_middle)
  have hne:gG rows us≠ []:=fun e=>h0 (List.eq_nil_of_length_eq_zero (by rw [←sV rows us,e];rfl))
  have S3:=St.join S2 (by rw [hfl,List.length_map]) (by rw [sV];exact h2) h3 h4 (Co h7 h5) h6 (fun e=>absurd e hne) (by rw [sV];exact h8)
  rw [sV,←h1]at S3
  have S4:=S3.afi hfl
  refine At.ahv A hp (hK us) (S4.perm (List.Perm.cons _ ?_))
  rw [GI,List.append_assoc,List.append_assoc]
  have p1:=List.perm_append_comm_assoc (qw rows.flatten us) (dJ y.bl y.T y.us s.box++(bW y.hd (drop1 p s.tree)++gI y.w0 y.F s.dG)) c.L
  simp only [List.append_assoc]at p1⊢
  exact p1
end
theorem afk {w:World}{us us':List Value}{L:List Pc}{F:List Nat}(hl:us'.length=us.length)(S:Sep w (qw (us.map D.a) us'++L) F):us'=us:=by
 obtain⟨fs,G, -, -,h⟩:=Sep.ab2 (by rw [List.length_map];exact hl) S
 refine List.ext_getElem? fun i=>?_
 by_cases hi:i<us.length
 ·have hi':i<us'.length:=by omega
  have:=h i (.a us[i]) us'[i] (by rw [List.getElem?_map,List.getElem?_eq_getElem hi];rfl) (List.getElem?_eq_getElem hi')
  rw [List.getElem?_eq_getElem hi,List.getElem?_eq_getElem hi']
  generalize us[i]=x at*
  generalize us'[i]=x' at*
  generalize fs i=F0 at this
  cases this;rfl
 ·rw [List.getElem?_eq_none (by omega),List.getElem?_eq_none (by omega)]
theorem widths {α β:Type}{k:Nat}{A:List (List α)}{B:List (List β)}(hn:B.length=A.length)(hk:∀(i:Nat) r r',A[i]?=some r→B[i]?=some r'→r.length=r'.length)(h:∀r∈A,r.length=k):∀r∈B,r.length=k:=by
 intro r hr
 obtain⟨i,hi⟩:=List.getElem?_of_mem hr
 have h1:=(List.getElem?_eq_some_iff.1 hi).1
 have h2:i<A.length:=by omega
 have:=hk i A[i] r (List.getElem?_eq_getElem h2) hi
 rw [←this]
 exact h _ (List.getElem_mem h2)
theorem St.Vn {W w:World}{L:List Pc}{u:Value}{Lr y9:List (List D)}{us:List Value}(S:St W w (qQ u Lr::(qw y9.flatten us++L)))(hF:Lr.flatten=us.map D.a)(hl:us.length=y9.flatten.length)(hn:y9.length=Lr.length)
  (hk:∀(i:Nat) r r',Lr[i]?=some r→y9[i]?=some r'→r.length=r'.length):St W w (qQ u y9::L):=by
 rcases S.split with⟨h1,g,cc,e1,e2,e3,S1⟩|⟨g,o,cc,k,T,cs,us',h0,h1,h2,h3,h4,h5,h6,h7,h8,S1⟩
 ·subst h1
  have h2:y9= []:=List.eq_nil_of_length_eq_zero (by rw [hn];rfl)
  subst h2
  subst e3
  rw [e1]
  exact St.more (h:=qQ (.slice g 0 0) []) S1.rU (Ext.refl w) (F:= []) (.nil _ _) List.nodup_nil (fun b hb=>by cases hb)
 ·rw [hF]at S1 h7
  rw [List.length_map]at h7
  have hu:us'=us:=by
   obtain⟨F,s, -, -⟩:=S1.sep
   obtain⟨F1,G,rfl, -,g1⟩:=s.lF
   exact afk h7 g1
  subst hu
  have S2:St W w (rowP g T cs::(qw y9.flatten us'++L)):=by
   refine St.rU (L1:=qw (us'.map D.a) us') (S1.perm ?_)
   exact List.perm_middle.symm
  have hne:y9≠ []:=fun e=>h0 (List.eq_nil_of_length_eq_zero (by rw [←hn,e];rfl))
  have:=St.join S2 hl (by rw [hn];exact h2) h3 h4 (widths hn hk h5) h6 (fun e=>absurd e hne) (by rw [hn];exact h8)
  rw [hn,←h1]at this
  exact this
def jg:Code→List Code
 | .seq a b=>jg a++jg b
 | c=> [c]
def wpL (P:Program):List Code→(Exit→Act→World→Prop)→Act→World→Prop
 | [],Q,a,w=>Q .normal a w
 | c::r,Q,a,w=>c.wp P (Exit.then (wpL P r Q) Q) a w
section
variable {P:Program}
theorem Exit.adk {n n':Act→World→Prop}{Q Q':Exit→Act→World→Prop}(h1:∀a w,n a w→n' a w)(h2:∀e a w,Q e a w→Q' e a w):∀e a w,Exit.then n Q e a w→Exit.then n' Q' e a w:=by
 intro e a w h
 cases e<;>first|exact h1 a w h|exact h2 _ a w h
theorem XG:∀(l:List Code) {Q Q':Exit→Act→World→Prop} {a:Act} {w:World},wpL P l Q a w→(∀e a w,Q e a w→Q' e a w)→wpL P l Q' a w
 | [],Q,Q',a,w,h,k=>k _ a w h
 | c::r,Q,Q',a,w,h,k=>wp_mono h (Exit.adk (fun a w h=>XG r h k) k)
theorem Vo:∀(l m:List Code) {Q:Exit→Act→World→Prop} {a:Act} {w:World},wpL P l (Exit.then (wpL P m Q) Q) a w→wpL P (l++m) Q a w
 | [],m,Q,a,w,h=>h
 | c::l,m,Q,a,w,h=>by
  refine wp_mono h fun e a w h=>?_
  cases e with
  | normal=>exact Vo l m h
  | _=>exact h
theorem XH:∀(x:Code) {Q:Exit→Act→World→Prop} {a:Act} {w:World},wpL P (jg x) Q a w→x.wp P Q a w:=by
 have one:∀(x:Code) {Q:Exit→Act→World→Prop} {a:Act} {w:World},wpL P [x] Q a w→x.wp P Q a w:=fun x Q a w h=>wp_mono h fun e a w h=>by cases e<;>exact h
 intro x
 induction x with
 | seq x y ihx ihy=>
  intro Q a w h
  have cut:∀(l m:List Code) {Q:Exit→Act→World→Prop} {a:Act} {w:World},wpL P (l++m) Q a w→wpL P l (Exit.then (wpL P m Q) Q) a w:=by
   intro l
   induction l with
   | nil=>intro m Q a w h;exact h
   | cons c l ih=>
    intro m Q a w h
    refine wp_mono h fun e a w h=>?_
    cases e with
    | normal=>exact ih m h
    | _=>exact h
  refine wp_seq (ihx (XG _ (cut _ _ h) fun e a w h=>?_))
  cases e with
  | normal=>exact ihy h
  | _=>exact h
 | _=>intro Q a w h;exact one _ h
end
section
variable (P:Program) (G:List (FuncId×Bool×aN)) (gh:mg)
noncomputable def F9:List Code→Q→Option (Ex×Q)
 | [],q=>some (.normal,q)
 | c::r,q=>Bd (Eo P G gh c q) fun q=>F9 r q
@[simp] theorem agI (q:Q):F9 P G gh [] q=some (.normal,q):=id rfl
@[simp] theorem afl (c:Code)(r:List Code)(q:Q):F9 P G gh (c::r) q=Bd (Eo P G gh c q) fun q=>F9 P G gh r q:=id rfl
variable {P G gh}
theorem DU {c:Ctx}(hC:ED P G)(hM:EN gh)(hm:P.follows .mixedOrders=true):∀(l:List Code) (q:Q) (r:Ex×Q) (a:Act) (w:World) (Q1:Exit→Act→World→Prop),(l.all fun x=>jU gh c.n x)=true→F9 P G gh l q=some r→DK c q a w→(∀a w,DK c r.2 a w→Q1 (agC r.1) a w)→wpL P l Q1 a w
 | [],q,r,a,w,Q1,_,h,g,k=>by
  rw [agI]at h;injection h with h;subst h;exact k a w g
 | x::l,q,r,a,w,Q1,ho,h,g,k=>by
  rw [List.all_cons,Bool.and_eq_true]at ho
  rw [afl]at h
  cases e:Eo P G gh x q with
  | none=>rw [e,ME]at h;cases h
  | some r1=>
   rw [e]at h
   obtain⟨ex,q1⟩:=r1
   refine pJ hC hM hm x q (ex,q1) a w _ ho.1 e g fun a' w' g'=>?_
   cases ex with
   | normal=>rw [Gq]at h;exact DU hC hM hm l q1 r a' w' Q1 ho.2 h g' k
   | exit i=>rw [MC]at h;injection h with h;subst h;exact k a' w' g'
   | ret=>rw [Pn]at h;injection h with h;subst h;exact k a' w' g'
def Hg (rows:List (List D))(us:List Value)(r r2:Ay):Prop:=
 ∀(c:Ctx) (hK':∀w,St c.W w (qw rows.flatten us++c.L)→∀b o,c.K b o→w.heap[b]?=some o) (y:Lay) (w:World) (u:Value),Mem {c with L:=qw rows.flatten us++c.L,hK:=hK'} (oG [] r2.tree) y w→RV (aX {c with L:=qw rows.flatten us++c.L,hK:=hK'} (oG [] r2.tree) y) r2.val u→
  ∃y',Mem c (oG [] r.tree) y' w∧RV (aX c (oG [] r.tree) y') r.val u
def Ae (E:Ay→Prop):Option Ay→Prop
 | some r=>E r
 | none=>False
def EX (P:Program)(rs:List ResultVar)(E:Ay→Prop):Option (Ex×Q)→Prop
 | some (.normal, .on s2)=>Ae E (sQ P rs 0 0 s2)
 | some (.ret, .on s2)=>Ae E (sQ P rs 0 0 s2)
 | _=>False
@[simp] theorem agJ (E:Ay→Prop)(r:Ay):Ae E (some r)=E r:=id rfl
@[simp] theorem afm (P:Program)(rs:List ResultVar)(E:Ay→Prop)(s:S):EX P rs E (some (.normal, .on s))=Ae E (sQ P rs 0 0 s):=id rfl
@[simp] theorem ahw (P:Program)(rs:List ResultVar)(E:Ay→Prop)(s:S):EX P rs E (some (.ret, .on s))=Ae E (sQ P rs 0 0 s):=id rfl
def XI (P:Program)(G:List (FuncId×Bool×aN))(gh:mg)(rs:List ResultVar)(l2:List Code)(r:Ay)(p:Nat)(s:S):Prop:=
 ∃rows,look p s.tree=some rows∧∀us:List Value,us.length=rows.flatten.length→Ad rows.flatten us→EX P rs (Hg rows us r) (F9 P G gh l2 (.on {s with tree:=upd p (gG rows us) s.tree}))
def Ls (E:S→Prop):Option (Ex×Q)→Prop
 | some (.normal, .on s)=>E s
 | _=>False
@[simp] theorem agK (E:S→Prop)(s:S):Ls E (some (.normal, .on s))=E s:=id rfl
def partsOf (P:Program)(f:FuncId):List Code:=match P.funcs[f]? with
 | some fn=>match fn.body with
  | some c=>jg c
  | none=> []
 | none=> []
def Vp (P:Program)(G:List (FuncId×Bool×aN))(gh:mg)(f:FuncId)(rs:List ResultVar)(n p:Nat)(args:List V)(r:Ay):Prop:=
 Ls (XI P G gh rs ((partsOf P f).drop n) r p) (F9 P G gh ((partsOf P f).take n) (.on (yh args [] [])))
theorem Ql (hG : ∀ f M, look f G = some M → aF P f M.2) (hm : P.follows .mixedOrders = true) {f : FuncId} {fn : Func} {x : Code} (hf : P.funcs[f]? = some fn) (hb : fn.body = some x) (hn : (fn.name == "runtime.NumGoroutine") = false) (hsm : fn.ntmps ≤ 1000000) (hx : ((jg x).all fun x => jU gh fn.ntmps x) = true) (n : Nat) {M : aN}
  (H:∀args boxes trees r,M args boxes trees=some r→args.length≤1000∧boxes= []∧trees= []∧r.box= []∧∃p,Vp P G gh f fn.results.toList n p args r):aF P f M:=by
 refine⟨⟨fn,hf,hn,by rw [hb];rfl⟩,fun c args boxes trees r h y us w m hargs=>?_⟩
 obtain⟨hal,rfl,rfl,hrb,p,hh⟩:=H args boxes trees r h
 have hp:partsOf P f=jg x:=by unfold partsOf;rw [hf];simp only [hb]
 unfold Vp at hh
 rw [hp]at hh
 obtain⟨s,h1,rows,h2,h3⟩:∃s,F9 P G gh ((jg x).take n) (.on (yh args [] []))=some (.normal, .on s)∧XI P G gh fn.results.toList ((jg x).drop n) r p s:=by
  unfold Ls at hh
  split at hh
  ·rename_i s e;exact⟨s,e,hh⟩
  ·exact hh.elim
 have h3:∀us:List Value,us.length=rows.flatten.length→Ad rows.flatten us→∃(ex:Ex) (s2:S) (r2:Ay),F9 P G gh ((jg x).drop n) (.on {s with tree:=upd p (gG rows us) s.tree})=some (ex, .on s2)∧(ex= .normal∨ex= .ret)∧sQ P fn.results.toList 0 0 s2=some r2∧Hg rows us r r2:=fun us Xl huc=>by
  have:=h3 us Xl huc
  unfold EX at this
  split at this
  ·rename_i s2 e
   unfold Ae at this
   split at this
   ·rename_i r2 e2;exact⟨_,s2,r2,e, .inl rfl,e2,this⟩
   ·exact this.elim
  ·rename_i s2 e
   unfold Ae at this
   split at this
   ·rename_i r2 e2;exact⟨_,s2,r2,e, .inr rfl,e2,this⟩
   ·exact this.elim
  ·exact this.elim
 obtain⟨un,hun⟩:=Vg
 have hle:us.length≤1000:=by rw [hargs.len];exact hal
 have hsz0:(jK fn.ntmps us).tmps.size=us.length+(fn.ntmps-us.length):=by
  show(us.toArray++Array.replicate (fn.ntmps-us.toArray.size) undef).size=_
  rw [Array.size_append,Array.size_replicate,List.size_toArray]
 have hsz:fn.ntmps≤(jK fn.ntmps us).tmps.size:=by rw [hsz0];omega
 have hpb:(jK fn.ntmps us).tmps.size≤aU:=by rw [hsz0];unfold aU;omega
 have A:=Cn m hargs fn.ntmps hun hpb
 have hxs:=List.all_eq_true.1 hx
 have ho:∀l:List Code,(∀z∈l,z∈jg x)→(l.all fun x=>jU gh (jK fn.ntmps us).tmps.size x)=true:=fun l hl=>List.all_eq_true.2 fun z hz=>mK hsz z (hxs z (hl z hz))
 refine calls_of_wp hf hb (XH x ?_)
 rw [←List.take_append_drop n (jg x)]
 refine Vo _ _ ?_
 refine DU (c:= {c with n:=(jK fn.ntmps us).tmps.size,bF:=fun b=>y.bl (un b),hF:=fun p=>y.hd (un p)}) (DL hG) (DT gh) hm _ (.on (yh args [] [])) (.normal, .on s) (jK fn.ntmps us) w _ (ho _ fun z hz=>List.mem_of_mem_take hz) h1 ⟨_,A⟩ fun a1 w1 g1=>?_
 obtain⟨vs,hK',hvl,hvc,g2⟩:=Good.flat (show Good _ s a1 w1 from g1) h2
 obtain⟨ex,s2,r2,k1,k2,k3,k4⟩:=h3 vs hvl hvc
 refine DU (c:= {c with L:=qw rows.flatten vs++c.L,hK:=hK',n:=(jK fn.ntmps us).tmps.size,bF:=fun b=>y.bl (un b),hF:=fun p=>y.hd (un p)}) (DL hG) (DT gh) hm _ _ (ex, .on s2) a1 w1 _ (ho _ fun z hz=>List.mem_of_mem_drop hz) k1 g2 fun a' w' g=>?_
 obtain⟨y1,A1⟩:=(show Good _ s2 a' w' from g)
 have fin:a'.defers= []∧∃v,(results fn a'.tmps).run P w'= .ok v w'∧∃u y',Ending.returned v= .returned u∧Ends c 0 0 r y u y' w':=by
  have hr2:=k3
  unfold sQ at hr2
  obtain⟨ws,hvs,_⟩:=aj hr2
  obtain⟨u,q1,q2⟩:=yS A1 hvs
  obtain⟨y',q3,q4,q5,q6,q7⟩:=G8 (n0:=c.n) (bF':=c.bF) (hF':=c.hF) A1 hvs q2 k3
  have ahY:r2.box= []:=List.eq_nil_of_length_eq_zero q5
  rw [ahY]at q3 q4
  obtain⟨y2,z1,z2⟩:=k4 c hK' y' w' u q3 q4
  refine⟨A1.defers,u,q1,u,y2,rfl,by rw [hrb];exact z1,by rw [hrb];exact z2, .inl (by rw [hrb];rfl),fun i hi=>by omega,fun q hq=>by omega⟩
 rcases k2 with rfl|rfl
 ·exact fin
 ·exact fin
end
theorem Hl:∀{rows:List (List D)} {us:List Value},(∀r∈rows,r.length=1)→us.length=rows.length→gG rows us=us.map fun u=> [D.a u]
 | [],us,_,h=>by
  have:us= []:=List.eq_nil_of_length_eq_zero (by simpa using h)
  subst this;rfl
 | r::rows,us,hw,h=>by
  have h1:=hw r (by simp)
  cases us with
  | nil=>simp at h
  | cons u us=>
   show(List.take r.length (u::us)).map D.a::gG rows (List.drop r.length (u::us))=_
   rw [h1,List.take_succ_cons,List.take_zero,List.drop_succ_cons,List.drop_zero,Hl (fun r hr=>hw r (List.mem_cons_of_mem _ hr)) (by simpa using h)]
   rfl
theorem Lu {α:Type}:∀{rows:List (List α)},(∀r∈rows,r.length=1)→rows.flatten.length=rows.length
 | [],_=>rfl
 | r::rows,h=>by rw [List.flatten_cons,List.length_append,h r (by simp),Lu fun r hr=>h r (List.mem_cons_of_mem _ hr),List.length_cons];omega
theorem TW:∀(us:List Value),(us.map fun u=> [D.a u]).flatten=us.map D.a
 | []=>rfl
 | u::us=>by rw [List.map_cons,List.flatten_cons,TW us];rfl
theorem aco {c:Ctx}{y:Lay}{w:World}{rows:List (List D)}:Mem c (oG [] [(0,rows)]) y w→St c.W w (gD (y.hd 0) rows::c.L):=fun m=>m.st
theorem Mem.Vn {c:Ctx}{ds:List D}{us:List Value}{hK':∀w,St c.W w (qw ds us++c.L)→∀b o,c.K b o→w.heap[b]?=some o}{y:Lay}{w:World}{Lr y9:List (List D)}{us2:List Value}(m:Mem {c with L:=qw ds us++c.L,hK:=hK'} (oG [] [(0,Lr)]) y w)
  (hF:Lr.flatten=us2.map D.a) (hl:us2.length=y9.flatten.length) (hn:y9.length=Lr.length) (hk:∀(i:Nat) r r',Lr[i]?=some r→y9[i]?=some r'→r.length=r'.length) (hp:(qw ds us).Perm (qw y9.flatten us2)):
  ∃h:Hd,h.v=(y.hd 0).v∧Mem c (oG [] [(0,y9)]) {y with hd:=dR y.hd 0 h} w:=by
 have S0:=(aco m).Bg
 have S1:=St.Vn (S0.perm (List.Perm.cons _ (List.Perm.append_right _ hp))) hF hl hn hk
 obtain⟨h,e,S2⟩:=S1.tree
 refine⟨h,e,?_,fun b cs hb=>(by cases hb),fun p rows hp=>(by cases hp),List.nodup_nil,by simp [oG]⟩
 show St c.W w ([]++([gD (dR y.hd 0 h 0) y9]++([]++c.L)))
 rw [dS]
 exact S2
theorem agL {c c':Ctx}{rows rows':List (List D)}{y:Lay}{h:Hd}{u:Value}(e:h.v=(y.hd 0).v)(r:RV (aX c' (oG [] [(0,rows)]) y) (.agg [.own 0]) u):RV (aX c (oG [] [(0,rows')]) {y with hd:=dR y.hd 0 h}) (.agg [.own 0]) u:=by
 obtain⟨us,rfl,v,q,rfl,⟨-,hv⟩,hq⟩:=r
 refine⟨_,rfl,v,q,rfl,⟨?_,?_⟩,hq⟩
 ·show(0:Nat)∈List.map Prod.fst ([((0:Nat),rows')]++([]:List (Nat×List (List D))))
  simp
 ·show v=(dR y.hd 0 h 0).v
  rw [dS,e];exact hv
theorem adl {ds:List D}{us:List Value}(h:us.length=ds.length):(qw ds us).Perm (qw (ds.drop 1++ds.take 1) (us.drop 1++us.take 1)):=by
 rw [sH (by simp;omega)]
 have:qw ds us=qw (ds.take 1) (us.take 1)++qw (ds.drop 1) (us.drop 1):=by
  rw [←sH (by simp;omega),List.take_append_drop,List.take_append_drop]
 rw [this]
 exact List.perm_append_comm
theorem acp {α:Type}{rows:List (List α)}(h:∀r∈rows,r.length=1):(rows.drop 1++rows.take 1).flatten=rows.flatten.drop 1++rows.flatten.take 1:=by
 cases rows with
 | nil=>rfl
 | cons r rows=>
  have h1:=h r (by simp)
  obtain⟨x,rfl⟩:=List.length_eq_one_iff.1 h1
  simp
theorem TY {c:Ctx}{rows:List (List D)}{us:List Value}(hw:∀r∈rows,r.length=1)(hul:us.length=rows.length){hK':∀w,St c.W w (qw rows.flatten us++c.L)→∀b o,c.K b o→w.heap[b]?=some o}{y:Lay}{w:World}{u:Value}
  (m:Mem {c with L:=qw rows.flatten us++c.L,hK:=hK'} (oG [] [(0,(us.drop 1++us.take 1).map fun u=> [D.a u])]) y w) (r:RV (aX {c with L:=qw rows.flatten us++c.L,hK:=hK'} (oG [] [(0,(us.drop 1++us.take 1).map fun u=> [D.a u])]) y) (.agg [.own 0]) u):
  ∃y',Mem c (oG [] [(0,rows.drop 1++rows.take 1)]) y' w∧RV (aX c (oG [] [(0,rows.drop 1++rows.take 1)]) y') (.agg [.own 0]) u:=by
 have hfl:=Lu hw
 obtain⟨h,e,m2⟩:=Mem.Vn (y9:=rows.drop 1++rows.take 1) (us2:=us.drop 1++us.take 1) m (TW _) (by rw [acp hw,List.length_append,List.length_append,List.length_drop,List.length_drop,List.length_take,List.length_take,hfl];omega) (by simp;omega) (fun i r r' e1 e2=>by
  have h1:r.length=1:=by
   obtain⟨x,_,rfl⟩:=List.mem_map.1 (List.mem_of_getElem? e1);rfl
  have h2:r'.length=1:=by
   rcases List.mem_append.1 (List.mem_of_getElem? e2)with q|q
   ·exact hw r' (List.mem_of_mem_drop q)
   ·exact hw r' (List.mem_of_mem_take q)
  omega) (by rw [acp hw];exact adl (by omega))
 exact⟨_,m2,agL e r⟩
theorem acr {rows:List (List D)}(h:∀r∈rows,∃q,r= [D.l q]):∀r∈rows,r.length=1:=fun r hr=>by
 obtain⟨q,rfl⟩:=h r hr;rfl
theorem Kk:∀{rows:List (List D)} {us:List Value},(∀r∈rows,∃q,r= [D.l q])→us.length=rows.length→Ad rows.flatten us→∀u∈us,u.oneCell'=true
 | [],us,_,h,_,u,hu=>by
  have:us= []:=List.eq_nil_of_length_eq_zero (by simpa using h)
  subst this;cases hu
 | r::rows,[],_,h,_,u,hu=>by cases hu
 | r::rows,v::us,hr,h,hc,u,hu=>by
  obtain⟨q,rfl⟩:=hr r (by simp)
  rcases List.mem_cons.1 hu with hu|hu
  ·subst hu;exact hc 0 (.l q) u rfl rfl
  ·exact Kk (fun r h=>hr r (List.mem_cons_of_mem _ h)) (by simpa using h) (fun i d u e1 e2=>hc (i+1) d u (by simpa using e1) (by simpa using e2)) u hu
theorem Qm:∀{us:List Value},(∀u∈us,u.oneCell'=true)→wid 1 (us.map fun u=> [D.a u])=true
 | [],_=>rfl
 | u::us,h=>by
  simp only [List.map_cons,wid,List.length_singleton,decide_true,List.all_cons,List.all_nil,Bool.and_true,Bool.true_and,A9,h u (by simp),Qm fun u hu=>h u (List.mem_cons_of_mem _ hu)]
theorem acs (us:List Value):dN (us.map fun u=> [D.a u])=true:=by
 unfold dN
 refine List.all_eq_true.2 fun r hr=>?_
 obtain⟨x,_,rfl⟩:=List.mem_map.1 hr
 rfl
theorem T9 (us:List Value):List.take us.length (us.map fun u=> [D.a u])=us.map fun u=> [D.a u]:=List.take_of_length_le (by simp)
end Go.Proofs.YtlpdjhiggpblcaaGreat
