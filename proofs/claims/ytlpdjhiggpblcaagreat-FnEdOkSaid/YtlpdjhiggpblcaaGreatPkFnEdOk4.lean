/- Part 4 of a proof in several texts (an abstract evaluator, what the functions compute). -/
import Derived.Test.YtlpdjhiggpblcaaGreatPkFnEdOk3
import Derived.Laws.CopyRow
import Derived.Great.BuildSlice
import Derived.Deep.Upon
import Derived.Laws.Small
import Derived.Laws.MakeOwn
namespace Go.Proofs.YtlpdjhiggpblcaaGreat
set_option linter.unusedSectionVars false
set_option linter.unusedSimpArgs false
set_option linter.unusedVariables false
open Go.RowKit
theorem GH {ρ:Rel}:∀{vs:List V} {xs:List Value} {off:Nat} {cs:List V} {us:List Value},jk ρ vs xs→jk ρ cs us→off+xs.length≤us.length→jk ρ (setAt cs off vs) (us.take off++xs++us.drop (off+xs.length))
 | [],xs,off,cs,us,h,k,hl=>by
  rw [show xs= []from h]
  simpa [setAt] using k
 | v::vs,xs,off,cs,us,h,k,hl=>by
  obtain⟨x,q,rfl,h2,h3⟩:=h
  have:=GH (off:=off+1) h3 (k.set h2 off) (by simp at hl⊢;omega)
  rw [list_seg_step us off x q (by simpa using hl)]at this
  exact this
section
variable {P:Program} {c:Ctx} {s:S} {y:Lay} {a:Act} {w:World}
theorem At.turn (A:At c s y a w){b:Nat}{cs cs':List V}{us':Array Value}{w':World}(hl:look b s.box=some cs)(hv:jk (aX c s y) cs' us'.toList)(hh:w'.heap[y.bl b]?=some (.cells us' (y.T b) (0,0)))(g:w.grownBy w' (some (y.bl b))):
  At c {s with box:=upd b cs' s.box} {y with us:=dR y.us b us'} a w':=by
 obtain⟨l1,l2,h1,h2,_⟩:=sS hl
 have hk:(s.box.map (·.1))=(l1.map (·.1))++b::(l2.map (·.1)):=by rw [h1];simp
 have nb:=A.nb
 rw [hk]at nb
 have n2:=List.nodup_cons.1 (List.perm_middle.nodup_iff.1 nb)
 have n1:b∉l1.map (·.1):=fun h=>n2.1 (List.mem_append_left _ h)
 have n3:b∉l2.map (·.1):=fun h=>n2.1 (List.mem_append_right _ h)
 have hsame:∀{l:List (Nat×List V)},b∉l.map (·.1)→dJ y.bl y.T (dR y.us b us') l=dJ y.bl y.T y.us l:=by
  intro l;induction l with
  | nil=>intro _;rfl
  | cons x l ih=>
   intro h
   simp only [List.map_cons,List.mem_cons,not_or]at h
   unfold dJ at ih⊢
   rw [List.map_cons,List.map_cons,ih h.2,fO _ _ (fun e=>h.1 e.symm)]
 have le:(aX c s y).le (aX c {s with box:=upd b cs' s.box} {y with us:=dR y.us b us'}):=
  ⟨fun _ _ h=>h,fun _ _ h=>h,rfl,fun b' h=>⟨by show b'∈(upd b cs' s.box).map (·.1);rw [oN];exact h,rfl⟩,fun p h=>⟨h,rfl⟩⟩
 refine⟨A.defers,A.size,?_,fun t' v e=>(A.env t' v e).le le,fun b' cs1 h=>?_,A.dG,by show((upd b cs' s.box).map (·.1)).Nodup;rw [oN];exact A.nb,A.nt,A.fix⟩
 ·have S:=A.st
  rw [h1]at S
  unfold dJ at S
  rw [List.map_append,List.map_cons,List.append_assoc,List.cons_append]at S
  have S2:=(S.perm List.perm_middle).set hh g
  have S3:=S2.perm List.perm_middle.symm
  show St c.W w' (dJ y.bl y.T (dR y.us b us') (upd b cs' s.box)++_)
  rw [h2 cs']
  have e:dJ y.bl y.T (dR y.us b us') (l1++(b,cs')::l2)=dJ y.bl y.T y.us l1++rowP (y.bl b) (y.T b) us'::dJ y.bl y.T y.us l2:=by
   have e1:=hsame n1
   have e2:=hsame n3
   unfold dJ at e1 e2⊢
   rw [List.map_append,List.map_cons,e1,e2]
   simp only [dS]
  rw [e,List.append_assoc,List.cons_append]
  exact S3
 ·rcases U0 A.nb h with⟨h3,h4⟩|⟨h3,h4⟩
  ·subst h3;subst h4
   show jk _ cs1 (dR y.us b' us' b').toList
   rw [dS];exact hv.le le
  ·show jk _ cs1 (dR y.us b us' b').toList
   rw [fO _ _ h3];exact(A.box b' cs1 h4).le le
theorem uU {t:TypeId}{v:Value}{b off:Nat}{cur:Array Value}{T:TypeId}(hz:v.cells.size=P.cellsOf t)(hs:eF P t=true)(hh:w.heap[b]?=some (.cells cur T (0,0)))(hl:off+v.cells.size≤cur.size)(h1:∀x∈v.cells.toList,x.oneCell'=true):
  (Instr.storeAt t (.pointer (some ⟨b,off,none⟩)) v).run P w= .ok () (w.setRow b (cur.toList.take off++v.cells.toList++cur.toList.drop (off+v.cells.size)).toArray):=by
 have hst:=run_storeCells_at P b off T v.cells.toList 0 cur w hh (by simpa using hl) h1
 have hsz:=kW (P:=P) (w:=w) hs
 simp only [Nat.add_zero,Array.length_toList]at hst
 simp [Instr.storeAt,Instr.sureAddr,storeVar,hsz,hz,hst]
theorem JF {o:Oper}{t:TypeId}{x z:Operand}(ho:o.op= .store t x z){b off:Nat}{v:V}{cs:List V}(hx:s.ev x=some (.ref b off))(hv:s.ev z=some v)(hz:v.cells.length=P.cellsOf t)(hsz:eF P t=true)(h1:v.cells.all V.one=true)(hl:look b s.box=some cs)(hle:off+v.cells.length≤cs.length)(A:At c s y a w):
  ∃us' w1,(execOp a.eval o).run P w= .ok .skip w1∧At c {s with box:=upd b (setAt cs off v.cells) s.box} {y with us:=dR y.us b us'} a w1:=by
 obtain⟨hb,hr⟩:=A.ab0 hl
 have ex:=(A.ev hx).2
 obtain⟨ev,e1⟩:=A.cells (A.ev hv) h1
 have l1:=ev.len
 have l2:=hr.len
 rw [Array.length_toList]at l1 l2
 have hrun:=uU (P:=P) (off:=off) (v:=a.eval z) (by rw [l1];exact hz) hsz hb (by rw [l1,l2];exact hle) e1
 have A2:=A.turn (cs':=setAt cs off v.cells) (us':=((y.us b).toList.take off++(a.eval z).cells.toList++(y.us b).toList.drop (off+(a.eval z).cells.size)).toArray) hl (by
  have:=GH ev hr (off:=off) (by rw [Array.length_toList,Array.length_toList,l1,l2];exact hle)
  rw [Array.length_toList]at this
  exact this) (setRow_heap w _ _ _ _ _ hb) ⟨rfl,rfl,rfl,by simp,fun k _ hk=>setRow_other w _ k _ (fun e=>hk (by rw [e]))⟩
 refine⟨_,_,?_,A2⟩
 unfold execOp;simp only [ho,show a.eval x=_ from ex]
 rw [Sem.run_bind]
 have hrun':(Instr.storeAt t (.pointer (some ⟨(aX c s y).bl b,off,none⟩)) (a.eval z)).run P w=_:=hrun
 rw [hrun'];rfl
theorem R4 {o:Oper}{t:TypeId}{x z:Operand}(ho:o.op= .store t x z){b off:Nat}{v:V}{cs:List V}(hx:s.ev x=some (.ref b off))(hv:s.ev z=some v)(hz:v.cells.length=P.cellsOf t)(hsz:eF P t=true)(h1:v.cells.all V.one=true)(hl:look b s.box=some cs)(hle:off+v.cells.length≤cs.length):
  Step P c o s ({s with box:=upd b (setAt cs off v.cells) s.box}.skip o.dst):=by
 intro a w G next Q k
 obtain⟨y,A⟩:=G
 obtain⟨us',w1,hr,A2⟩:=JF ho hx hv hz hsz h1 hl hle A
 exact I9 hr (k _ _ ⟨_,A2.skip undef⟩)
theorem pG.put {w:World}{rows:List (List D)}{g o n cc:Nat}{F:List Nat}(h:pG w (.l rows) (.slice (some ⟨g,o,none⟩) n cc) F){i j:Nat}{r:List D}{x0 x:Value}(hi:rows[i]?=some r)(hj:r[j]?=some (.a x0)){u:Value}(hu:u=x):
  ∃T cs,w.heap[g]?=some (.cells cs T (0,0))∧o+(i*r.length+j)<cs.size∧∀w':World,((w'.heap[g]?=some (.cells (cs.setIfInBounds (o+(i*r.length+j)) u) T (0,0)))→(∀b∈F,b≠g→w'.heap[b]?=w.heap[b]?)→F.Nodup→pG w' (.l (rows.set i (r.set j (.a x)))) (.slice (some ⟨g,o,none⟩) n cc) F):=by
 subst hu
 cases h with
 | nil=>simp at hi
 | l _ _ _ _ _ k T cs us fs h1 h2 h3 h4 h5 h6 h00 h7 h8 h9=>
  have hk:r.length=k:=h5 r (List.mem_of_getElem? hi)
  have hjk:j<k:=by rw [←hk];exact(List.getElem?_eq_some_iff.1 hj).1
  have f:=flat_get rows i j r _ h5 hi hj
  have hcs:=h8 _ _ f
  have hsz:o+(i*k+j)<cs.size:=(Array.getElem?_eq_some_iff.1 hcs).1
  refine⟨T,cs,h7,by rw [hk];exact hsz,fun w' hh hF hnd=>?_⟩
  rw [hk]at hh
  have xR:=y8 rows i j r (.a u) h5 hi hjk
  have hlen:(rows.set i (r.set j (.a u))).flatten.length=rows.flatten.length:=by rw [xR,List.length_set]
  rw [←hlen]
  have hg:=List.nodup_cons.1 hnd
  refine .l _ n cc g o k T _ (fun m=>if m=i*k+j then u else us m) fs (by rw [List.length_set];exact h1) h2 h3 h4 (fun r' hr'=>?_) (by simpa using h6) (fun e=>h00 (List.eq_nil_of_length_eq_zero (by have:=congrArg List.length e;simpa using this))) hh (fun m d e=>?_) (fun m d e=>?_)
  ·rcases List.mem_or_eq_of_mem_set hr' with hr'|hr'
   ·exact h5 r' hr'
   ·rw [hr',List.length_set];exact hk
  ·rw [xR,List.getElem?_set]at e
   by_cases hm:i*k+j=m
   ·subst hm;simp [hsz]
   ·rw [if_neg hm]at e
    simp only [if_neg (fun e=>hm e.symm:¬m=i*k+j)]
    rw [Array.getElem?_setIfInBounds_ne (by omega)]
    exact h8 m d e
  ·rw [xR,List.getElem?_set]at e
   by_cases hm:i*k+j=m
   ·subst hm
    rw [if_pos rfl]at e
    split at e
    ·injection e with e;subst e
     simp only [if_true]
     have:=h9 _ _ f
     have hnil:fs (i*k+j)= []:=by
      generalize fs (i*k+j)=F0 at this
      cases this;rfl
     rw [hnil];exact .a u
    ·cases e
   ·rw [if_neg hm]at e
    simp only [if_neg (fun e=>hm e.symm:¬m=i*k+j)]
    have hmF:∀b∈fs m,b∈(List.range rows.flatten.length).flatMap fs:=fun b hb=>List.mem_flatMap.2 ⟨m,List.mem_range.2 (List.getElem?_eq_some_iff.1 e).1,hb⟩
    exact(h9 m d e).st fun b hb=>hF b (List.mem_cons_of_mem _ (hmF b hb)) fun e2=>hg.1 (by rw [←e2];exact hmF b hb)
theorem At.ahL (A:At c s y a w){p:Nat}{rows:List (List D)}(hl:look p s.tree=some rows){w':World}{rows':List (List D)}(S:St c.W w' (gD (y.hd p) rows'::(dJ y.bl y.T y.us s.box++(bW y.hd (drop1 p s.tree)++(gI y.w0 y.F s.dG++c.L))))):
  At c {s with tree:=upd p rows' s.tree} y a w':=by
 obtain⟨l1,l2,h1,h2,h3⟩:=sS hl
 have n:=A.nt
 rw [List.map_append,List.nodup_append]at n
 have h3:=h3 n.1
 have le:(aX c s y).le (aX c {s with tree:=upd p rows' s.tree} y):=
  ⟨fun _ _ h=>h,fun _ _ h=>h,rfl,fun b' h=>⟨h,rfl⟩,fun q h=>⟨by
   show q∈(upd p rows' s.tree++s.dG).map (·.1)
   rw [List.map_append,oN,←List.map_append];exact h,rfl⟩⟩
 refine⟨A.defers,A.size,?_,fun t' v e=>(A.env t' v e).le le,fun b cs h=>(A.box b cs h).le le,A.dG,A.nb,by
  show((upd p rows' s.tree++s.dG).map (·.1)).Nodup
  rw [List.map_append,oN,←List.map_append];exact A.nt,A.fix⟩
 show St c.W w' (dJ y.bl y.T y.us s.box++(bW y.hd (upd p rows' s.tree)++(gI y.w0 y.F s.dG++c.L)))
 rw [h2 rows']
 rw [h3]at S
 refine S.perm ?_
 refine(List.perm_middle (l₁:=dJ y.bl y.T y.us s.box) (l₂:=bW y.hd (l1++l2)++(gI y.w0 y.F s.dG++c.L)) (a:=gD (y.hd p) rows')).symm.trans ?_
 refine List.Perm.append_left _ ?_
 rw [←List.cons_append]
 refine List.Perm.append_right _ ?_
 unfold bW
 rw [List.map_append,List.map_append,List.map_cons]
 exact List.perm_middle.symm
theorem Tn {v:V}{d:D}(h:v.atom=some d):∃x,v= .v x∧d= .a x:=by
 unfold V.atom at h
 split at h
 ·injection h with h;subst h;exact⟨_,rfl,rfl⟩
 ·cases h
theorem R5 {o:Oper}{t:TypeId}{x z:Operand}(ho:o.op= .store t x z){q i off k:Nat}{v:V}{d d0:D}{rows:List (List D)}{r:List D}(hx:s.ev x=some (.pe (.own q) k i off))(hv:s.ev z=some v)(hz:v.cells.length=P.cellsOf t)(hsz:eF P t=true)
  (hl:look q s.tree=some rows) (hat:v.atom=some d) (hr:rows[i]?=some r) (hd0:r[off]?=some d0) (hk:r.length=k) (hf:sF d0=true) (h1:A9 d=true):
  Step P c o s ({s with tree:=upd q (rows.set i (r.set off d)) s.tree}.skip o.dst):=by
 intro a w G next Q kk
 obtain⟨y,A⟩:=G
 obtain⟨X,rfl,rfl⟩:=Tn hat
 obtain⟨ub,⟨_,rfl⟩,g,o',n,cc,e1,e2,e3⟩:=A.ev hx
 have ez:a.eval z=X:=A.ev hv
 have hX:X.oneCell'=true:=h1
 cases d0 with
 | l _=>cases hf
 | gone=>cases hf
 | a x0=>
 have S:=A.out hl
 have e1:(y.hd q).v= .slice (some ⟨g,o',none⟩) n cc:=e1
 obtain⟨F,Ld,hnd,hbd,rest⟩:=S.open_
 have Ld:kL w rows (y.hd q) F:=Ld
 have hown:=Ld.own
 rw [e1]at hown
 have hgF:∃T0,F=g::T0:=by
  have:pG w (.l rows) (.slice (some ⟨g,o',none⟩) n cc) F:=hown
  cases this with
  | nil=>simp at hr
  | l=>exact⟨_,rfl⟩
 obtain⟨T0,hF⟩:=hgF
 obtain⟨T,cs,hh,hlt,hput⟩:=pG.put hown hr hd0 (u:=X) rfl
 rw [hk]at hlt hput
 have hXc:=PE hX
 have hrun:=uU (P:=P) (t:=t) (v:=X) (off:=o'+(i*k+off)) (by rw [hXc];exact hz) hsz hh (by rw [hXc];exact hlt) (by rw [hXc];simpa using hX)
 have ahM:(cs.toList.take (o'+(i*k+off))++X.cells.toList++cs.toList.drop (o'+(i*k+off)+X.cells.size)).toArray=cs.setIfInBounds (o'+(i*k+off)) X:=by
  rw [hXc]
  apply Array.ext'
  rw [Array.toList_setIfInBounds,List.set_eq_take_append_cons_drop,if_pos (by simpa using hlt)]
  simp
 rw [ahM]at hrun
 have hset:=setRow_heap w g cs (cs.setIfInBounds (o'+(i*k+off)) X) T (0,0) hh
 have hoth:∀b,b≠g→(w.setRow g (cs.setIfInBounds (o'+(i*k+off)) X)).heap[b]?=w.heap[b]?:=fun b hb=>setRow_other w g b _ hb
 have A2:=A.ahL hl (rest (w.setRow g (cs.setIfInBounds (o'+(i*k+off)) X)) (gD (y.hd q) (rows.set i (r.set off (.a X)))) F rfl rfl rfl (by simp) (fun b hb hne=>hoth b fun e=>hne (by rw [e,hF];exact List.mem_cons_self)) (by
  show kL _ _ (y.hd q) F
  refine⟨by rw [e1];exact hput _ hset (fun b _ hb=>hoth b hb) hnd,fun g2 ob2 n2 c2 cs2 T2 fr m r' q1 q2 q3=>?_⟩
  rw [e1]at q1
  injection q1 with q1 _ _;injection q1 with q1;injection q1 with q1 qo _
  subst q1;subst qo
  have q2:(w.setRow g (cs.setIfInBounds (o'+(i*k+off)) X)).heap[g]?=_:=q2
  rw [hset]at q2
  injection q2 with q2;injection q2 with q2 _ _
  subst q2
  have hrk:∀r∈rows,r.length=k:=by
   cases hown with
   | nil=>simp at hr
   | l _ _ _ _ _ k2 T2 cs2 us2 fs2 a1 a2 a3 a4 a5=>
    intro r2 hr2
    rw [a5 r2 hr2,←a5 r (List.mem_of_getElem? hr),hk]
  rw [y8 rows i off r (.a X) hrk hr (by rw [←hk];exact(List.getElem?_eq_some_iff.1 hd0).1),List.getElem?_set]at q3
  by_cases hm:i*k+off=m
  ·subst hm;rw [if_pos rfl]at q3;split at q3<;>cases q3
  ·rw [if_neg hm]at q3
   rw [Array.getElem?_setIfInBounds_ne (by omega)]
   exact Ld.hd g _ n cc cs T (0,0) m r' e1 hh q3) hnd (fun b hb=>⟨.inl hb,by have:=(hbd b hb).2;simpa using this⟩))
 refine I9 ?_ (kk _ _ ⟨_,A2.skip undef⟩)
 unfold execOp;simp only [ho,e3,ez]
 rw [Sem.run_bind,hrun];rfl
end
section
variable {P:Program} {c:Ctx} {s:S} {y:Lay} {a:Act} {w:World}
theorem Tp:∀{fs:List Field},(fs.all fun f=>eF P f.type)=true→∃places,fs.mapM (fun f=>(P.info? f.type).map fun i=>(f.offset,i.size))=some places∧∀(i:Nat) (f:Field),fs[i]?=some f→places[i]?=some (f.offset,P.cellsOf f.type)
 | [],_=>⟨[],rfl,fun i f h=>by simp at h⟩
 | f::fs,h=>by
  simp only [List.all_cons,Bool.and_eq_true]at h
  obtain⟨pl,h1,h2⟩:=Tp h.2
  obtain⟨i,hi⟩:=Option.isSome_iff_exists.1 h.1
  refine⟨(f.offset,i.size)::pl,by simp [List.mapM_cons,hi,h1],fun j f' e=>?_⟩
  cases j with
  | zero=>simp at e;subst e;simp [Program.cellsOf,hi]
  | succ j=>simp at e⊢;exact h2 j f' e
theorem acW {off:Nat}{vs cur:Array Value}(h:off+vs.size≤cur.size):(vs.zipIdx.foldl (fun cs (x:Value×Nat)=>cs.setIfInBounds (off+x.2) x.1) cur).toList=cur.toList.take off++vs.toList++cur.toList.drop (off+vs.size):=by
 obtain⟨h1,h2⟩:=Great.foldl_set off vs.toList 0 cur
 have e:vs.zipIdx.foldl (fun cs (x:Value×Nat)=>cs.setIfInBounds (off+x.2) x.1) cur=(vs.toList.zipIdx 0).foldl (fun cs (x:Value×Nat)=>cs.setIfInBounds (off+x.2) x.1) cur:=by
  rw [←Array.foldl_toList,Array.toList_zipIdx]
 rw [e]
 apply List.ext_getElem?
 intro k
 rw [Array.getElem?_toList,h2 k]
 simp only [Nat.add_zero,Array.length_toList]
 by_cases k1:k<off
 ·rw [if_neg (by omega),List.append_assoc,List.getElem?_append_left (by rw [List.length_take,Array.length_toList];omega),List.getElem?_take,if_pos k1,Array.getElem?_toList]
 ·by_cases k2:k<off+vs.size
  ·rw [if_pos (by omega),List.append_assoc,List.getElem?_append_right (by rw [List.length_take,Array.length_toList];omega),List.length_take,Array.length_toList,Nat.min_eq_left (by omega),List.getElem?_append_left (by rw [Array.length_toList];omega)]
  ·rw [if_neg (by omega),List.getElem?_append_right (by rw [List.length_append,List.length_take,Array.length_toList,Array.length_toList];omega),List.length_append,List.length_take,Array.length_toList,Array.length_toList,List.getElem?_drop,Array.getElem?_toList]
   congr 1;omega
theorem Dc (A:At c s y a w){fs:Parts}{place:Nat→Option (Nat×Nat)}(hp:∀(i:Nat) (f:Nat×Nat),Pg P fs i=some f→place i=some f):
  ∀{ps:List (Nat×Operand)} {vs:List (Nat×V)} {cs cs':List V} {us:Array Value},bG (pE s) ps=some vs→jk (aX c s y) cs us.toList→sG P fs cs vs=some cs'→∃us',Instr.fill place us (ps.map fun x=>(x.1,a.eval x.2))=some us'∧jk (aX c s y) cs' us'.toList
 | [],vs,cs,cs',us,h1,h2,h3=>by
  simp only [bG]at h1;injection h1 with h1;subst h1
  simp only [sG]at h3;injection h3 with h3;subst h3
  exact⟨us,rfl,h2⟩
 | (i,x)::ps,vs,cs,cs',us,h1,h2,h3=>by
  simp only [bG]at h1
  obtain⟨⟨i',v⟩,h4,h1⟩:=aj h1
  obtain⟨vs',h5,h1⟩:=aj h1
  injection h1 with h1;subst h1
  unfold pE at h4
  obtain⟨v',h6,h4⟩:=aj h4
  injection h4 with h4;injection h4 with h7 h8;subst h7;subst h8
  simp only [sG]at h3
  obtain⟨f,hf,h3⟩:=aj h3
  obtain⟨⟨hl,hle,ho⟩,h3⟩:=aB h3
  obtain⟨ec, -⟩:=A.cells (A.ev h6) ho
  have l1:=ec.len
  have l2:=h2.len
  rw [Array.length_toList]at l1 l2
  have hfit:f.1+(a.eval x).cells.size≤us.size:=by rw [l1,l2];exact hle
  have:=GH ec h2 (off:=f.1) (by rw [Array.length_toList,Array.length_toList];exact hfit)
  rw [Array.length_toList,←acW hfit]at this
  obtain⟨us',k1,k2⟩:=Dc A hp h5 this h3
  refine⟨us',?_,k2⟩
  simp only [List.map_cons]
  unfold Instr.fill
  have hpl:place i=some (f.1,f.2):=hp i f hf
  simp only [hpl]
  rw [if_neg (by simp only [Bool.or_eq_true,decide_eq_true_eq,not_or];constructor
                 ·simp [l1,hl]
                 ·omega)]
  exact k1
theorem PI {o:Oper}{t:TypeId}{ps:Array (Nat×Operand)}(ho:o.op= .build t ps){d:TypeDesc}{fs:Parts}{z cs:List V}{vs:List (Nat×V)}(hu:P.underlying t=some d)(hst:yR d=some fs)(hfo:jm P t=true)(hz:jM P t=some z)(hvs:bG (pE s) ps.toList=some vs)(h:sG P fs z vs=some cs){yy:Lay}{a:Act}{w:World}(A:At c s yy a w):∃u,(execOp a.eval o).run P w= .ok (.value u) w∧RV (aX c s yy) (.agg cs) u:=by
 obtain⟨i,z',h1,h2,h3⟩:=GA hz
 unfold jm at hfo
 rw [hu]at hfo
 have fin:∀us':Array Value,P.built t (ps.map fun(i,x)=>(i,a.eval x)).toList=some us'→jk (aX c s yy) cs us'.toList→∃u,(execOp a.eval o).run P w= .ok (.value u) w∧RV (aX c s yy) (.agg cs) u:=fun us' hb k2=>by
  refine⟨.agg us',?_,us'.toList,by simp,k2⟩
  unfold execOp;simp only [ho,Sem.run_bind,run_build w t _ us' hb]
  rfl
 unfold yR at hst
 split at hst
 ·rename_i fs0
  injection hst with hst;subst hst
  obtain⟨places,p1,p2⟩:=Tp (P:=P) (fs:=fs0.toList) hfo
  obtain⟨us',k1,k2⟩:=Dc A (place:=(places.toArray[·]?)) (fun i f e=>by
   obtain⟨f0,e1,e2⟩:=aj e
   injection e2 with e2;subst e2
   have:=p2 i f0 (by simpa using e1)
   simpa using this) hvs (h3 _) h
  refine fin us' ?_ k2
  unfold Program.built
  simp only [h1,hu,h2,p1]
  rw [Array.toList_map]
  exact k1
 ·rename_i n0 e0
  injection hst with hst;subst hst
  obtain⟨ie,hie⟩:=Option.isSome_iff_exists.1 (show(P.info? e0).isSome=true from hfo)
  have hc:P.cellsOf e0=ie.size:=by simp [Program.cellsOf,hie]
  obtain⟨us',k1,k2⟩:=Dc A (place:=fun i=>some (i*ie.size,ie.size)) (fun i f e=>by
   rw [←hc];exact e) hvs (h3 _) h
  refine fin us' ?_ k2
  unfold Program.built
  simp only [h1,hu,h2,hie]
  rw [Array.toList_map]
  exact k1
 ·cases hst
theorem ZO {o:Oper}{t:TypeId}{ps:Array (Nat×Operand)}(ho:o.op= .build t ps)(hd':fM c.n o.dst=true){d:TypeDesc}{fs:Parts}{z cs:List V}{vs:List (Nat×V)}(hu:P.underlying t=some d)(hst:yR d=some fs)(hfo:jm P t=true)(hz:jM P t=some z)(hvs:bG (pE s) ps.toList=some vs)(h:sG P fs z vs=some cs):
  Step P c o s (s.put o.dst (.agg cs)):=jr hd' fun _ _ _ A=>PI ho hu hst hfo hz hvs h A
def dP (d:D)(u:Value):Pc:=⟨fun w F=>pG w d u F,fun h k=>h.st k⟩
def qw:List D→List Value→List Pc
 | d::ds,u::us=>dP d u::qw ds us
 | _,_=> []
theorem sH:∀{ds es:List D} {us vs:List Value},us.length=ds.length→qw (ds++es) (us++vs)=qw ds us++qw es vs
 | [],es,[],vs,_=>rfl
 | [],es,_::_,vs,h=>by simp at h
 | d::ds,es,[],vs,h=>by simp at h
 | d::ds,es,u::us,vs,h=>by
  simp only [List.cons_append,qw]
  rw [sH (by simpa using h)]
theorem Sep.ab2 {w:World}{L:List Pc}:∀{ds:List D} {us:List Value} {F:List Nat},us.length=ds.length→Sep w (qw ds us++L) F→
  ∃(fs:Nat→List Nat) (G:List Nat),F=(List.range ds.length).flatMap fs++G∧Sep w L G∧∀(i:Nat) (d:D) (u:Value),ds[i]?=some d→us[i]?=some u→pG w d u (fs i)
 | [],[],F,_,S=>⟨fun _=> [],F,rfl,S,fun i d u e=>by simp at e⟩
 | [],_::_,F,h,_=>by simp at h
 | d::ds,[],F,h,_=>by simp at h
 | d::ds,u::us,F,h,S=>by
  obtain⟨F1,G1,rfl,a,g⟩:=Sep.lF S
  obtain⟨fs,G,rfl,g2,h2⟩:=Sep.ab2 (by simpa using h) g
  refine⟨fun i=>match i with|0=>F1|i+1=>fs i,G,?_,g2,fun i d' u' e1 e2=>?_⟩
  ·rw [List.length_cons,List.range_succ_eq_map,List.flatMap_cons,List.flatMap_map,List.append_assoc]
  ·cases i with
   | zero=>simp at e1 e2;subst e1;subst e2;exact a
   | succ i=>exact h2 i d' u' (by simpa using e1) (by simpa using e2)
theorem Sep.ahp {w:World}{L:List Pc}:∀{ds:List D} {us:List Value} {fs:Nat→List Nat} {G:List Nat},us.length=ds.length→Sep w L G→(∀(i:Nat) (d:D) (u:Value),ds[i]?=some d→us[i]?=some u→pG w d u (fs i))→
  Sep w (qw ds us++L) ((List.range ds.length).flatMap fs++G)
 | [],[],fs,G,_,S,_=>S
 | [],_::_,_,_,h,_,_=>by simp at h
 | d::ds,[],_,_,h,_,_=>by simp at h
 | d::ds,u::us,fs,G,h,S,k=>by
  rw [List.length_cons,List.range_succ_eq_map,List.flatMap_cons,List.flatMap_map,List.append_assoc]
  exact Sep.cons (h:=dP d u) (k 0 d u rfl rfl) (Sep.ahp (fs:=fun i=>fs (i+1)) (by simpa using h) S fun i d' u' e1 e2=>k (i+1) d' u' (by simpa using e1) (by simpa using e2))
theorem St.split {W w:World}{rows:List (List D)}{u:Value}{L:List Pc}(S:St W w (qQ u rows::L)):
  (rows= []∧∃g c,u= .slice g 0 c∧(g=none→c=0)∧c=0∧St W w L)∨∃(g o c k:Nat) (T:TypeId) (cs:Array Value) (us:List Value),rows≠ []∧u= .slice (some ⟨g,o,none⟩) rows.length c∧rows.length≤c∧c≤maxLen∧0<k∧(∀r∈rows,r.length=k)∧cs.size=o+c*k∧
   us.length=rows.flatten.length∧(cs.toList.drop o).take (rows.length*k)=us∧St W w (rowP g T cs::(qw rows.flatten us++L)):=by
 obtain⟨F,s,n,hb⟩:=S.sep
 obtain⟨F1,G,rfl,o,g⟩:=s.lF
 have o:pG w (.l rows) u F1:=o
 by_cases hr:rows= []
 ·subst hr
  left
  refine⟨rfl,?_⟩
  cases o with
  | nil A _=>exact⟨A,0,rfl,fun _=>rfl,rfl,S.drop⟩
  | l _ n' c g' ob k T cs us fs h1 h2 h3 h4 h5 h6 h00 h7 h8 h9=>
   have hc:=h00 rfl
   subst hc
   have:n'=0:=by simpa using h1.symm
   subst this
   exact⟨some ⟨g',ob,none⟩,0,rfl,(fun h=>nomatch h),rfl,S.drop⟩
 ·right
  cases o with
  | nil=>exact absurd rfl hr
  | l _ n' c g' ob k T cs us fs h1 h2 h3 h4 h5 h6 h00 h7 h8 h9=>
   subst h1
   have hfl:=jf rows h5
   have hck:rows.length*k≤cs.size-ob:=by rw [h6,Nat.add_sub_cancel_left];exact Nat.mul_le_mul_right _ h2
   have hlen:((cs.toList.drop ob).take (rows.length*k)).length=rows.flatten.length:=by rw [List.length_take,List.length_drop,Array.length_toList,hfl];exact Nat.min_eq_left hck
   refine⟨g',ob,c,k,T,cs,(cs.toList.drop ob).take (rows.length*k),hr,rfl,h2,h3,h4,h5,h6,hlen,rfl,S.ext,g'::((List.range rows.flatten.length).flatMap fs++G),?_,by simpa using n,by simpa using hb⟩
   refine Sep.cons (h:=rowP g' T cs) (F:= [g']) ⟨rfl,h7⟩ (Sep.ahp hlen g fun i d u e1 e2=>?_)
   have hi:i<rows.length*k:=by rw [←hfl];exact(List.getElem?_eq_some_iff.1 e1).1
   rw [List.getElem?_take,if_pos hi,List.getElem?_drop,Array.getElem?_toList,h8 i d e1]at e2
   injection e2 with e2;subst e2
   exact h9 i d e1
theorem St.join {W w:World}{rows:List (List D)}{g ob cc k:Nat}{T:TypeId}{cs:Array Value}{us:List Value}{L:List Pc}(S:St W w (rowP g T cs::(qw rows.flatten us++L)))(hl:us.length=rows.flatten.length)(h1:rows.length≤cc)(h2:cc≤maxLen)(h3:0<k)(h4:∀r∈rows,r.length=k)(h5:cs.size=ob+cc*k)
  (h0:rows= []→cc=0) (h6:(cs.toList.drop ob).take (rows.length*k)=us):St W w (qQ (.slice (some ⟨g,ob,none⟩) rows.length cc) rows::L):=by
 obtain⟨F,s,n,hb⟩:=S.sep
 obtain⟨F1,G1,rfl,⟨rfl,o⟩,g1⟩:=s.lF
 obtain⟨fs,G,rfl,g2,h7⟩:=Sep.ab2 hl g1
 refine⟨S.ext,(g::(List.range rows.flatten.length).flatMap fs)++G,Sep.cons (h:=qQ _ rows) ?_ g2,by simpa using n,by simpa using hb⟩
 have hfl:=jf rows h4
 refine pG.l rows rows.length cc g ob k T cs (fun i=>us[i]?.getD undef) fs rfl h1 h2 h3 h4 h5 h0 o (fun i d e=>?_) (fun i d e=>?_)
 ·have hi:=(List.getElem?_eq_some_iff.1 e).1
  have hi2:i<us.length:=by rw [hl];exact hi
  have:us[i]?=cs[ob+i]?:=by rw [←h6,List.getElem?_take,if_pos (by rw [←hfl];exact hi),List.getElem?_drop,Array.getElem?_toList]
  rw [←this,List.getElem?_eq_getElem hi2];rfl
 ·have hi:=(List.getElem?_eq_some_iff.1 e).1
  have hi2:i<us.length:=by rw [hl];exact hi
  exact h7 i d _ e (by rw [List.getElem?_eq_getElem hi2];rfl)
theorem St.atoms {W w:World}{L:List Pc}(S:St W w L):∀{ds:List D} {us:List Value},(∀d∈ds,sF d=true)→(∀(i:Nat) (x:Value) (u:Value),ds[i]?=some (.a x)→us[i]?=some u→u=x)→St W w (qw ds us++L)
 | [],us,_,_=>by cases us<;>exact S
 | _::_,[],_,_=>S
 | d::ds,u::us,h,k=>by
  cases d with
  | l r=>have:=h (.l r) (by simp);cases this
  | gone=>have:=h .gone (by simp);cases this
  | a x=>
   have:=k 0 x u rfl rfl
   subst this
   exact(St.atoms S (ds:=ds) (us:=us) (fun d hd=>h d (by simp [hd])) fun i x' u' e1 e2=>k (i+1) x' u' (by simpa using e1) (by simpa using e2)).more (Ext.refl w) (h:=dP (.a u) u) (F:= []) (.a u) List.nodup_nil (fun b hb=>by cases hb)
end
def Ctx.with (c:Ctx)(E:List Pc):Ctx:= {c with L:=E++c.L,hK:=fun w S=>c.hK w (St.rU S)}
section
variable {P:Program} {c:Ctx} {s:S} {y:Lay} {a:Act} {w:World}
def Ml (s:S)(y:Lay):List Pc:=dJ y.bl y.T y.us s.box++(bW y.hd s.tree++gI y.w0 y.F s.dG)
theorem At.qw (A:At c s y a w):St c.W w (Ml s y++c.L):=by
 have:=A.st
 unfold Ml
 rw [List.append_assoc,List.append_assoc];exact this
theorem At.aeP (A:At c s y a w){w':World}{L':List Pc}(hK':∀w,St c.W w L'→∀b o,c.K b o→w.heap[b]?=some o)(S:St c.W w' (Ml s y++L')):At {c with L:=L',hK:=hK'} s y a w':=by
 unfold Ml at S
 rw [List.append_assoc,List.append_assoc]at S
 exact⟨A.defers,A.size,S,A.env,A.box,A.dG,A.nb,A.nt,A.fix⟩
theorem At.push (A:At c s y a w){x:Pc}(S:St c.W w (x::(Ml s y++c.L))):At (c.with [x]) s y a w:=
 A.aeP (L':= [x]++c.L) (Ctx.with c [x]).hK (S.perm (List.perm_middle).symm)
theorem At.pop {E:List Pc}(A:At (c.with E) s y a w):At c s y a w:=by
 have S:St c.W w (Ml s y++(E++c.L)):=A.qw
 have S2:St c.W w (E++(Ml s y++c.L)):=S.perm (by
  rw [←List.append_assoc,←List.append_assoc]
  exact List.Perm.append_right _ List.perm_append_comm)
 exact A.aeP (c:=c.with E) (L':=c.L) c.hK (St.rU S2)
theorem At.front {E:List Pc}(A:At (c.with E) s y a w):St c.W w (E++(Ml s y++c.L)):=by
 have S:St c.W w (Ml s y++(E++c.L)):=A.qw
 refine S.perm ?_
 rw [←List.append_assoc,←List.append_assoc]
 exact List.Perm.append_right _ List.perm_append_comm
theorem GI (s:S)(y:Lay)(p:Nat):Ml (s.kill p) y=dJ y.bl y.T y.us s.box++(bW y.hd (drop1 p s.tree)++gI y.w0 y.F s.dG):=by
 unfold Ml
 show dJ y.bl y.T y.us (oK p s.box)++_=_
 rw [Gz]
 rfl
theorem At.out' (A:At c s y a w){p:Nat}{rows:List (List D)}(hl:look p s.tree=some rows):St c.W w (gD (y.hd p) rows::(Ml (s.kill p) y++c.L)):=by
 have:=A.out hl
 rw [GI,List.append_assoc,List.append_assoc];exact this
theorem At.U8 (A:At c s y a w){p:Nat}{w':World}{L':List Pc}(hK':∀w,St c.W w L'→∀b o,c.K b o→w.heap[b]?=some o)(S:St c.W w' (Ml (s.kill p) y++L')){rows:List (List D)}(hl:look p s.tree=some rows):At {c with L:=L',hK:=hK'} (s.kill p) y a w':=by
 rw [GI,List.append_assoc,List.append_assoc]at S
 exact A.killed hK' S (List.mem_map.2 ⟨_,fD hl,rfl⟩)
theorem At.take (A:At c s y a w){p:Nat}{rows:List (List D)}(hl:look p s.tree=some rows):At (c.with [qQ (y.hd p).v rows]) (s.kill p) y a w:=
 A.U8 (L':= [qQ (y.hd p).v rows]++c.L) (Ctx.with c _).hK ((A.out' hl).Bg.perm List.perm_middle.symm) hl
def PV (y:Lay):V→Value→Prop
 | .v x,u=>u=x
 | .nil,u=>u= .slice none 0 0
 | .own q,u=>u=(y.hd q).v
 | .inn p i j k,u=>u=(y.hd p).cv (i*k+j)∧u.oneCell'=true
 | _,_=>True
theorem PV.of {v:V}{u:Value}(h:RV (aX c s y) v u):PV y v u:=by
 cases v<;>first|exact trivial|exact h|exact h.2
theorem Df:∀{vs:List V} {us:List Value} {s s':S} {ds:List D} {E:List Pc},At (c.with E) s y a w→us.length=vs.length→(∀(i:Nat) (v:V) (u:Value),vs[i]?=some v→us[i]?=some u→PV y v u)→iK s vs=some (ds,s')→
  ∃E',At (c.with (E'++E)) s' y a w∧E'.Perm (qw ds us)∧ds.length=vs.length
 | [],us,s,s',ds,E,A,hl,_,h=>by
  simp only [iK]at h;injection h with h;injection h with h1 h2;subst h1;subst h2
  obtain rfl:us= []:=List.eq_nil_of_length_eq_zero hl
  exact⟨[],A,List.Perm.refl _,rfl⟩
 | v::r,[],s,s',ds,E,A,hl,_,h=>by simp at hl
 | v::r,u::us,s,s',ds,E,A,hl,hp,h=>by
  have hp0:=hp 0 v u rfl rfl
  have hpr:∀(i:Nat) (v':V) (u':Value),r[i]?=some v'→us[i]?=some u'→PV y v' u':=fun i v' u' e1 e2=>hp (i+1) v' u' (by simpa using e1) (by simpa using e2)
  have fin:∀(d:D) (s1:S) (A1:At (c.with (dP d u::E)) s1 y a w) (x:List D×S),iK s1 r=some x→∃E',At (c.with (E'++E)) x.2 y a w∧E'.Perm (qw (d::x.1) (u::us))∧(d::x.1).length=(v::r).length:=by
   intro d s1 A1 x hx
   obtain⟨E',h1,h2,h3⟩:=Df (E:=dP d u::E) A1 (by simpa using hl) hpr hx
   refine⟨E'++ [dP d u],by rw [List.append_assoc];exact h1,?_,by rw [List.length_cons,List.length_cons,h3]⟩
   exact(List.perm_append_comm).trans (List.Perm.cons _ h2)
  have triv:∀(d:D) (o:pG w d u []) (x:List D×S),iK s r=some x→∃E',At (c.with (E'++E)) x.2 y a w∧E'.Perm (qw (d::x.1) (u::us))∧(d::x.1).length=(v::r).length:=fun d o x hx=>
   fin d s (At.push (c:=c.with E) A (A.qw.more (Ext.refl w) (h:=dP d u) (F:= []) o List.nodup_nil (fun b hb=>by cases hb))) x hx
  cases v with
  | own p=>
   simp only [iK]at h
   obtain⟨rows,h1,h⟩:=aj h
   obtain⟨x,h2,h⟩:=aj h
   injection h with h;injection h with h3 h4;subst h3;subst h4
   have hu:u=(y.hd p).v:=hp0
   subst hu
   exact fin (.l rows) (s.kill p) (At.take (c:=c.with E) A h1) x h2
  | v x0=>
   simp only [iK,zT]at h
   obtain⟨d,h1,h⟩:=aj h
   obtain⟨x,h2,h⟩:=aj h
   injection h1 with h1;subst h1
   injection h with h;injection h with h3 h4;subst h3;subst h4
   have hu:u=x0:=hp0
   subst hu
   exact triv _ (.a u) x h2
  | nil=>
   simp only [iK,zT]at h
   obtain⟨d,h1,h⟩:=aj h
   obtain⟨x,h2,h⟩:=aj h
   injection h1 with h1;subst h1
   injection h with h;injection h with h3 h4;subst h3;subst h4
   have hu:u= .slice none 0 0:=hp0
   subst hu
   exact triv _ (.nil none []) x h2
  | _=>simp only [iK,zT]at h;obtain⟨_,h1,_⟩:=aj h;cases h1
theorem GJ {k:Nat}:∀{vs:List V} {us:List (List Value)} {s s':S} {rows:List (List D)} {E:List Pc},At (c.with E) s y a w→us.length=vs.length→(∀(i:Nat) (v:V) (u:List Value),vs[i]?=some v→us[i]?=some u→v.cells.length=k∧u.length=k∧∀(j:Nat) (v':V) (u':Value),v.cells[j]?=some v'→u[j]?=some u'→PV y v' u')→kG s vs=some (rows,s')→
  ∃E',At (c.with (E'++E)) s' y a w∧E'.Perm (qw rows.flatten us.flatten)∧rows.length=vs.length∧∀r∈rows,r.length=k
 | [],us,s,s',rows,E,A,hl,_,h=>by
  simp only [kG]at h;injection h with h;injection h with h1 h2;subst h1;subst h2
  obtain rfl:us= []:=List.eq_nil_of_length_eq_zero hl
  exact⟨[],A,List.Perm.refl _,rfl,fun r hr=>by cases hr⟩
 | v::r,[],s,s',ds,E,A,hl,_,h=>by simp at hl
 | v::r,u::us,s,s',rows,E,A,hl,hp,h=>by
  obtain⟨k1,k2,k3⟩:=hp 0 v u rfl rfl
  simp only [kG]at h
  obtain⟨x,h1,h⟩:=aj h
  obtain⟨z,h2,h⟩:=aj h
  injection h with h;injection h with h3 h4;subst h3;subst h4
  obtain⟨E1,a1,a2,a3⟩:=Df (s':=x.2) (ds:=x.1) A (by rw [k1,k2]) k3 h1
  obtain⟨E2,b1,b2,b3,b4⟩:=GJ (s':=z.2) (rows:=z.1) a1 (by simpa using hl) (fun i v' u' e1 e2=>hp (i+1) v' u' (by simpa using e1) (by simpa using e2)) h2
  refine⟨E2++E1,by rw [List.append_assoc];exact b1,?_,by rw [List.length_cons,List.length_cons,b3],fun r' hr=>?_⟩
  ·rw [List.flatten_cons,List.flatten_cons,sH (by rw [a3,k1,k2])]
   exact List.perm_append_comm.trans (List.Perm.append a2 b2)
  ·rcases List.mem_cons.1 hr with rfl|hr
   ·rw [a3,k1]
   ·exact b4 r' hr
theorem PK {α:Type}{n:Nat}:∀{k:Nat} {ps:List (Nat×α)},upto k n (ps.map (·.1))=true→ps=((ps.map (·.2)).zipIdx k).map (fun x=>(x.2,x.1))∧k+ps.length=n
 | k,[],h=>by simp [upto]at h;exact⟨rfl,by simpa using h⟩
 | k,(j,x)::ps,h=>by
  simp only [List.map_cons,upto,Bool.and_eq_true,decide_eq_true_eq]at h
  obtain⟨rfl,h⟩:=h
  obtain⟨h1,h2⟩:=PK h
  refine⟨?_,by rw [List.length_cons];omega⟩
  rw [List.map_cons,List.zipIdx_cons,List.map_cons,←h1]
theorem ab3 (A:At c s y a w):∀{ps:List (Nat×Operand)} {vs:List (Nat×V)},bG (pE s) ps=some vs→vs.length=ps.length∧vs.map (·.1)=ps.map (·.1)∧∀(i:Nat) (v:V) (x:Nat×Operand),(vs.map (·.2))[i]?=some v→ps[i]?=some x→RV (aX c s y) v (a.eval x.2)
 | [],vs,h=>by simp only [bG]at h;injection h with h;subst h;exact⟨rfl,rfl,fun i v x e=>by simp at e⟩
 | x::ps,vs,h=>by
  simp only [bG]at h
  obtain⟨v,h1,h⟩:=aj h
  obtain⟨vs',h2,h⟩:=aj h
  injection h with h;subst h
  obtain⟨k1,k2,k3⟩:=ab3 A h2
  unfold pE at h1
  obtain⟨v',h3,h1⟩:=aj h1
  injection h1 with h1;subst h1
  refine⟨by rw [List.length_cons,List.length_cons,k1],by rw [List.map_cons,List.map_cons,k2],fun i v2 x2 e1 e2=>?_⟩
  cases i with
  | zero=>simp at e1 e2;subst e1;subst e2;exact A.ev h3
  | succ i=>exact k3 i v2 x2 (by simpa using e1) (by simpa using e2)
theorem GK {e:TypeId}(h:iA P e=true):∃i z,P.info? e=some i∧i.zero=some z∧z.cells.size=i.size∧0<i.size∧P.cellsOf e=i.size:=by
 unfold iA at h
 split at h
 ·rename_i i hi
  split at h
  ·rename_i z hz
   simp only [Bool.and_eq_true,decide_eq_true_eq]at h
   exact⟨i,z,hi,hz,h.1,h.2,by unfold Program.cellsOf;rw [hi];rfl⟩
  ·cases h
 ·cases h
theorem pI {E:List Pc}{dst:Option Nat}{s':S}{rows:List (List D)}{u:Value}{w':World}(A:At (c.with E) s y a w)(hd':fM c.n dst=true)(h:s.newTree dst rows=some s')(S0:St c.W w' (qQ u rows::(Ml s y++c.L))):∃y',At c s' y' (a.put dst u) w':=by
 unfold S.newTree at h
 obtain⟨t,ht,h⟩:=aj h
 obtain⟨hf,h⟩:=aB h
 injection h with h;subst h;subst ht
 have A0:At c s y a w:=A.pop
 obtain⟨hh,rfl,S1⟩:=S0.tree
 refine⟨_,A0.newTree hf hd' ?_⟩
 unfold Ml at S1
 rw [List.append_assoc,List.append_assoc]at S1
 exact S1
theorem OD {o:Oper}{t e:TypeId}{n:Nat}{ps:Array (Nat×Operand)}(ho:o.op= .buildSlice t n ps)(hd':fM c.n o.dst=true){vs:List (Nat×V)}{rows:List (List D)}{s1 s':S}(hu:P.underlying t=some (.slice e))(hvs:bG (pE s) ps.toList=some vs)
  (hz:iA P e=true) (hn:n*P.cellsOf e≤16777216) (hup:upto 0 n (vs.map (·.1))=true) (hc:∀v∈vs,v.2.cells.length=P.cellsOf e∧v.2.cells.all V.one=true) (hp:kG s (vs.map (·.2))=some (rows,s1)) (h:s1.newTree o.dst rows=some s'):Step P c o s s':=by
 intro a w G next Q kk
 obtain⟨y,A⟩:=G
 obtain⟨i,z,z1,z2,z3,z4,z5⟩:=GK hz
 obtain⟨q1,q2,q3⟩:=ab3 A hvs
 obtain⟨u1,u2⟩:=PK hup
 have hcells:∀(j:Nat) (v:V) (x:Nat×Operand),(vs.map (·.2))[j]?=some v→ps.toList[j]?=some x→v.cells.length=P.cellsOf e∧jk (aX c s y) v.cells (a.eval x.2).cells.toList:=by
  intro j v x e1 e2
  rw [List.getElem?_map]at e1
  obtain⟨v0,e3,rfl⟩:=Option.map_eq_some_iff.1 e1
  have hm:=hc v0 (List.mem_of_getElem? e3)
  exact⟨hm.1,(A.cells (q3 j v0.2 x (by rw [List.getElem?_map,e3];rfl) e2) hm.2).1⟩
 have A0:At (c.with []) s y a w:=A
 obtain⟨E,a1,a2,a3,a4⟩:=GJ (k:=P.cellsOf e) (vs:=vs.map (·.2)) (us:=ps.toList.map fun x=>(a.eval x.2).cells.toList) A0 (by rw [List.length_map,List.length_map,q1]) (fun j v us' e1 e2=>by
  rw [List.getElem?_map]at e2
  obtain⟨x,e3,rfl⟩:=Option.map_eq_some_iff.1 e2
  obtain⟨m1,m2⟩:=hcells j v x e1 e3
  refine⟨m1,by rw [m2.len,m1],fun j' v' u' f1 f2=>?_⟩
  obtain⟨u2,f3,f4⟩:=m2.get f1
  rw [f2]at f3;injection f3 with f3;subst f3
  exact PV.of f4) hp
 rw [List.append_nil]at a1
 have hlen:rows.length=n:=by rw [a3,List.length_map];omega
 have xR:∀r∈(ps.toList.map fun x=>(a.eval x.2).cells.toList),r.length=P.cellsOf e:=by
  intro r hr
  obtain⟨x,hx,rfl⟩:=List.mem_map.1 hr
  obtain⟨j,e3⟩:=List.getElem?_of_mem hx
  have hj:j<(vs.map (·.2)).length:=by rw [List.length_map,q1];exact(List.getElem?_eq_some_iff.1 e3).1
  obtain⟨m1,m2⟩:=hcells j _ x (List.getElem?_eq_getElem hj) e3
  rw [m2.len,m1]
 have hpn:ps.toList.length=n:=by rw [←q1];omega
 have akl:=jf rows a4
 have aeQ:=jf _ xR
 rw [List.length_map,hpn]at aeQ
 have fin:∀cells:Array Value,cells.toList=(ps.toList.map fun x=>(a.eval x.2).cells.toList).flatten→(Instr.buildSlice t n (ps.map fun(i,x)=>(i,a.eval x))).run P w= .ok (.slice (some ⟨w.heap.size,0,none⟩) n n) (w.alloc (.cells cells e))→o.wp P a w next Q:=by
  intro cells hcl hrun
  have hcs:cells.size=n*P.cellsOf e:=by rw [←Array.length_toList,hcl,aeQ]
  have S:=(a1.front).alloc cells e
  have S2:St c.W (w.alloc (.cells cells e)) (rowP w.heap.size e cells::(qw rows.flatten (ps.toList.map fun x=>(a.eval x.2).cells.toList).flatten++(Ml s1 y++c.L))):=S.perm (List.Perm.cons _ (List.Perm.append_right _ a2))
  have S3:=S2.join (ob:=0) (cc:=n) (k:=P.cellsOf e) (by rw [akl,aeQ,hlen]) (by omega) (by unfold maxLen;have:=Nat.le_mul_of_pos_right n (show 0<P.cellsOf e by rw [z5];exact z4);omega) (by rw [z5];exact z4) a4 (by rw [Nat.zero_add];exact hcs) (fun e0=>by rw [e0]at hlen;simpa using hlen.symm) (by rw [List.drop_zero,hcl,hlen,List.take_of_length_le (by rw [aeQ];exact Nat.le_refl _)])
  rw [hlen]at S3
  obtain⟨y',A'⟩:=pI a1 hd' h S3
  refine qD (u:= .slice (some ⟨w.heap.size,0,none⟩) n n) (w':=w.alloc (.cells cells e)) ?_ (kk _ _ ⟨y',A'⟩)
  unfold execOp;simp only [ho,Sem.run_bind,hrun];rfl
 by_cases h0:n=0
 ·subst h0
  have hpe:ps.toList= []:=List.eq_nil_of_length_eq_zero hpn
  refine fin #[] (by rw [hpe];rfl) ?_
  have hps:ps= #[]:=by apply Array.ext';rw [hpe]
  subst hps
  simp [Instr.buildSlice,run_underlying hu,sizeOf,typeInfo,z1,Instr.fill,newRow]
  congr 2
  apply Array.eq_empty_of_size_eq_zero
  simp
 ·have Xl:(ps.map fun(i,x)=>(i,a.eval x)).toList=(((ps.toList.map fun x=>a.eval x.2)).zipIdx 0).map fun x=>(x.2,x.1):=by
   have:=(PK (ps:=ps.toList.map fun x=>(x.1,a.eval x.2)) (k:=0) (n:=n) (by rw [List.map_map];rw [q2]at hup;exact hup)).1
   rw [Array.toList_map]
   rw [List.map_map]at this
   exact this
  obtain⟨r,f1,f2,f3⟩:=Great.fill_dense (s:=i.size) z4 (ps.toList.map fun x=>a.eval x.2) 0 ((Array.range (n*i.size)).map (z.cells[· %z.cells.size]!)) (fun v hv=>by
   obtain⟨x,hx,rfl⟩:=List.mem_map.1 hv
   rw [←Array.length_toList,xR _ (List.mem_map.2 ⟨x,hx,rfl⟩),z5]) (by simp [hpn])
  rw [←Xl]at f1
  have hrs:r.size=n*i.size:=by rw [f2];simp
  have hrun:=run_buildSlice (P:=P) w t e n (ps.map fun(i,x)=>(i,a.eval x)) r i z hu z1 z2 (by rw [←z5];omega) (by have:=Nat.mul_pos (Nat.pos_of_ne_zero h0) z4;omega) f1
  refine fin r ?_ hrun
  apply List.ext_getElem?
  intro m
  rw [Array.getElem?_toList]
  by_cases hm:m<n*i.size
  ·rw [f3 m,if_pos ⟨by omega,by simpa [hpn] using hm⟩]
   have hdm:=Nat.div_add_mod m i.size
   rw [Nat.mul_comm]at hdm
   have hd:m / i.size<n:=Nat.div_lt_of_lt_mul (by rw [Nat.mul_comm];exact hm)
   have hmod:=Nat.mod_lt m z4
   rw [Nat.sub_zero,List.getElem?_map]
   have hps:m / i.size<ps.toList.length:=by rw [hpn];exact hd
   rw [List.getElem?_eq_getElem hps,Option.map_some,Option.bind_some]
   have hrow:=xR _ (List.mem_map.2 ⟨_,List.getElem_mem hps,rfl⟩)
   rw [z5]at hrow
   have hin:m%i.size<(a.eval (ps.toList[m / i.size]).2).cells.toList.length:=by rw [hrow];exact hmod
   have:=flat_get (k:=i.size) (ps.toList.map fun x=>(a.eval x.2).cells.toList) (m / i.size) (m%i.size) _ _ (fun r hr=>by rw [xR r hr,z5]) (by rw [List.getElem?_map,List.getElem?_eq_getElem hps];rfl) (List.getElem?_eq_getElem hin)
   rw [hdm]at this
   rw [this,←Array.getElem?_toList,List.getElem?_eq_getElem hin]
  ·rw [Array.getElem?_eq_none (by omega),List.getElem?_eq_none (by rw [aeQ,z5];omega)]
end
end Go.Proofs.YtlpdjhiggpblcaaGreat
namespace Go.Proofs.YtlpdjhiggpblcaaGreat
open Go.RowKit
set_option linter.unusedSimpArgs false
set_option linter.unusedVariables false
mutual
theorem RV.turn {ρ ρ':Rel}{p:Nat}(hK:ρ'.K=ρ.K)(hZ:∀b o,ρ.Z b o→ρ'.Z b o)(hs:ρ'.src=ρ.src)(hb:∀b,ρ.Lb b→ρ'.Lb b∧ρ'.bl b=ρ.bl b)(ht:∀q,ρ.Lt q→ρ'.Lt q∧(ρ'.hd q).v=(ρ.hd q).v∧(q≠p→ρ'.hd q=ρ.hd q)):
  ∀{v:V} {u:Value},kH p v=false→RV ρ v u→RV ρ' v u
 | .v _,_,_,h=>h
 | .nil,_,_,h=>h
 | .aP _ _,_,_,h=>⟨by rw [hK];exact h.1,fun j i=>by rw [hs];exact h.2 j i⟩
 | .own q,_,_,h=>⟨(ht q h.1).1,by rw [(ht q h.1).2.1];exact h.2⟩
 | .inn q _ _ _,_,m,h=>by
  have hq:q≠p:=by intro e;subst e;simp [kH]at m
  exact⟨(ht q h.1).1,by rw [(ht q h.1).2.2 hq];exact h.2⟩
 | .fz _,_,_,h=>wL.mono h hZ
 | .mp _,_,_,h=>Pw.mono h hZ
 | .ref b _,_,_,h=>⟨(hb b h.1).1,by rw [(hb b h.1).2];exact h.2⟩
 | .pe _ _ _ _,_,m,h=>by obtain⟨ub,h1,h2⟩:=h;exact⟨ub,RV.turn hK hZ hs hb ht (by simpa [kH] using m) h1,h2⟩
 | .agg _,_,m,h=>by obtain⟨us,h1,h2⟩:=h;exact⟨us,h1,jk.turn hK hZ hs hb ht (by simpa [kH] using m) h2⟩
 | .fK _,_,m,h=>by obtain⟨us,h1,h2⟩:=h;exact⟨us,h1,jk.turn hK hZ hs hb ht (by simpa [kH] using m) h2⟩
 | .fn _ _,_,m,h=>by obtain⟨us,h1,h2⟩:=h;exact⟨us,h1,jk.turn hK hZ hs hb ht (by simpa [kH] using m) h2⟩
 | .dead,_,_,_=>trivial
theorem jk.turn {ρ ρ':Rel}{p:Nat}(hK:ρ'.K=ρ.K)(hZ:∀b o,ρ.Z b o→ρ'.Z b o)(hs:ρ'.src=ρ.src)(hb:∀b,ρ.Lb b→ρ'.Lb b∧ρ'.bl b=ρ.bl b)(ht:∀q,ρ.Lt q→ρ'.Lt q∧(ρ'.hd q).v=(ρ.hd q).v∧(q≠p→ρ'.hd q=ρ.hd q)):
  ∀{vs:List V} {us:List Value},kH.any p vs=false→jk ρ vs us→jk ρ' vs us
 | [],_,_,h=>h
 | _::_,_,m,h=>by
  simp [kH.any]at m
  obtain⟨u,q,h1,h2,h3⟩:=h;exact⟨u,q,h1,RV.turn hK hZ hs hb ht m.1 h2,jk.turn hK hZ hs hb ht m.2 h3⟩
end
theorem ML (p t:Nat):∀(l:List (Nat×V)),look t (OA p l)=(look t l).map fun v=>if kH p v=true then .dead else v
 | []=>rfl
 | (i,z)::r=>by
  unfold OA
  simp only [look]
  split
  ·rfl
  ·exact ML p t r
theorem MN (p:Nat):∀(l:List (Nat×List V)),(Gi p l).map (·.1)=l.map (·.1)
 | []=>rfl
 | (i,z)::r=>by unfold Gi;rw [List.map_cons,List.map_cons,MN p r]
theorem PL {bl:Nat→Nat}{T:Nat→TypeId}{us:Nat→Array Value}(p:Nat):∀(l:List (Nat×List V)),dJ bl T us (Gi p l)=dJ bl T us l
 | []=>rfl
 | (i,z)::r=>by
  have:=PL (bl:=bl) (T:=T) (us:=us) p r
  unfold dJ at this⊢
  unfold Gi;rw [List.map_cons,List.map_cons,this]
theorem Xm {p b:Nat}{cs:List V}:∀{l:List (Nat×List V)},(b,cs)∈Gi p l→∃cs',(b,cs')∈l∧cs=WW p cs'
 | [],h=>by cases h
 | (i,z)::r,h=>by
  unfold Gi at h
  rcases List.mem_cons.1 h with h|h
  ·injection h with h1 h2;subst h1;subst h2;exact⟨z,List.mem_cons_self,rfl⟩
  ·obtain⟨cs',h1,h2⟩:=Xm h
   exact⟨cs',List.mem_cons_of_mem _ h1,h2⟩
theorem PN {ρ ρ':Rel}{p:Nat}(hK:ρ'.K=ρ.K)(hZ:∀b o,ρ.Z b o→ρ'.Z b o)(hs:ρ'.src=ρ.src)(hb:∀b,ρ.Lb b→ρ'.Lb b∧ρ'.bl b=ρ.bl b)(ht:∀q,ρ.Lt q→ρ'.Lt q∧(ρ'.hd q).v=(ρ.hd q).v∧(q≠p→ρ'.hd q=ρ.hd q)):
  ∀{vs:List V} {us:List Value},jk ρ vs us→jk ρ' (WW p vs) us
 | [],_,h=>h
 | v::_,_,h=>by
  obtain⟨u,q,h1,h2,h3⟩:=h
  refine⟨u,q,h1,?_,PN hK hZ hs hb ht h3⟩
  cases e:kH p v with
  | true=>simp;trivial
  | false=>simp;exact RV.turn hK hZ hs hb ht e h2
section
variable {P:Program} {c:Ctx} {s:S} {y:Lay} {a:Act} {w:World}
theorem At.turned (A:At c s y a w){p:Nat}{rows rows':List (List D)}(hl:look p s.tree=some rows)(hp:¬(aU≤p∧p<2*aU)){h':Hd}(hv:h'.v=(y.hd p).v){w':World}{L':List Pc}(hK':∀w,St c.W w L'→∀b o,c.K b o→w.heap[b]?=some o)
  (S:St c.W w' (gD h' rows'::(Ml (s.kill p) y++L'))):At {c with L:=L',hK:=hK'} (s.turned p rows') {y with hd:=dR y.hd p h'} a w':=by
 obtain⟨l1,l2,h1,h2,h3⟩:=sS hl
 have n:=A.nt
 rw [List.map_append,List.nodup_append]at n
 have h3:=h3 n.1
 have keys:(upd p rows' s.tree).map (·.1)=s.tree.map (·.1):=oN _
 have hpt:p∈s.tree.map (·.1):=List.mem_map.2 ⟨_,fD hl,rfl⟩
 have ht:∀q,(aX c s y).Lt q→(aX c (s.turned p rows') {y with hd:=dR y.hd p h'}).Lt q∧((aX c (s.turned p rows') {y with hd:=dR y.hd p h'}).hd q).v=((aX c s y).hd q).v∧(q≠p→(aX c (s.turned p rows') {y with hd:=dR y.hd p h'}).hd q=(aX c s y).hd q):=by
  intro q h
  refine⟨?_,?_,fun e=>fO _ _ e⟩
  ·have h:q∈(s.tree++s.dG).map (·.1):=h
   show q∈(upd p rows' s.tree++s.dG).map (·.1)
   rw [List.map_append,keys,←List.map_append];exact h
  ·show(dR y.hd p h' q).v=(y.hd q).v
   by_cases e:q=p
   ·subst e;rw [dS];exact hv
   ·rw [fO _ _ e]
 have hb:∀b,(aX c s y).Lb b→(aX c (s.turned p rows') {y with hd:=dR y.hd p h'}).Lb b∧(aX c (s.turned p rows') {y with hd:=dR y.hd p h'}).bl b=(aX c s y).bl b:=by
  intro b h
  refine⟨?_,rfl⟩
  show b∈(Gi p s.box).map (·.1)
  rw [MN];exact h
 refine⟨A.defers,A.size,?_,fun t v e=>?_,fun b cs h=>?_,fun q r h=>?_,?_,?_,A.fix.1,fun i g1 g2=>⟨(A.fix.2 i g1 g2).1,(fO _ _ (fun e=>hp (by rw [←e];exact⟨g1,g2⟩))).trans (A.fix.2 i g1 g2).2⟩⟩
 ·show St c.W w' (dJ y.bl y.T y.us (Gi p s.box)++(bW (dR y.hd p h') (upd p rows' s.tree)++(gI y.w0 y.F s.dG++L')))
  rw [PL,h2 rows']
  rw [GI,h3,List.append_assoc,List.append_assoc]at S
  have hk:p∉l1.map (·.1)∧p∉l2.map (·.1):=by
   have n1:=n.1
   rw [h1,List.map_append,List.map_cons]at n1
   have n2:=List.nodup_cons.1 (List.perm_middle.nodup_iff.1 n1)
   exact⟨fun h=>n2.1 (List.mem_append_left _ h),fun h=>n2.1 (List.mem_append_right _ h)⟩
  have e:bW (dR y.hd p h') (l1++(p,rows')::l2)=bW y.hd l1++gD h' rows'::bW y.hd l2:=by
   have e1:=uE (hd:=y.hd) (u:=h') hk.1
   have e2:=uE (hd:=y.hd) (u:=h') hk.2
   unfold bW at e1 e2⊢
   rw [List.map_append,List.map_cons,e1,e2]
   simp only [dS]
  rw [e]
  refine S.perm ?_
  have e3:bW y.hd (l1++l2)=bW y.hd l1++bW y.hd l2:=by unfold bW;rw [List.map_append]
  rw [e3]
  refine(List.perm_middle (l₁:=dJ y.bl y.T y.us s.box) (l₂:=(bW y.hd l1++bW y.hd l2)++(gI y.w0 y.F s.dG++L')) (a:=gD h' rows')).symm.trans ?_
  refine List.Perm.append_left _ ?_
  rw [←List.cons_append]
  refine List.Perm.append_right _ ?_
  exact List.perm_middle.symm
 ·have e:look t (OA p s.env)=some v:=e
  rw [ML]at e
  cases e2:look t s.env with
  | none=>rw [e2]at e;cases e
  | some v'=>
   rw [e2]at e;simp only [Option.map_some,Option.some.injEq]at e
   subst e
   cases e3:kH p v' with
   | true=>simp;trivial
   | false=>simp only [Bool.false_eq_true,if_false];exact RV.turn (ρ:=aX c s y) (ρ':=aX c (s.turned p rows') {y with hd:=dR y.hd p h'}) rfl (fun _ _ h=>h) rfl hb ht e3 (A.env t v' e2)
 ·obtain⟨cs',h4,rfl⟩:=Xm h
  exact PN (ρ:=aX c s y) (ρ':=aX c (s.turned p rows') {y with hd:=dR y.hd p h'}) rfl (fun _ _ h=>h) rfl hb ht (A.box b cs' h4)
 ·show kL (y.w0 q) r (dR y.hd p h' q) (y.F q)
  have hq:q≠p:=fun e=>n.2.2 p hpt q (List.mem_map.2 ⟨_,h,rfl⟩) e.symm
  rw [fO _ _ hq];exact A.dG q r h
 ·show((Gi p s.box).map (·.1)).Nodup
  rw [MN];exact A.nb
 ·show((upd p rows' s.tree++s.dG).map (·.1)).Nodup
  rw [List.map_append,keys,←List.map_append];exact A.nt
theorem At.turned' (A:At c s y a w){p:Nat}{rows rows':List (List D)}(hl:look p s.tree=some rows)(hp:¬(aU≤p∧p<2*aU)){w':World}{L':List Pc}(hK':∀w,St c.W w L'→∀b o,c.K b o→w.heap[b]?=some o)
  (S:St c.W w' (qQ (y.hd p).v rows'::(Ml (s.kill p) y++L'))):∃h',h'.v=(y.hd p).v∧At {c with L:=L',hK:=hK'} (s.turned p rows') {y with hd:=dR y.hd p h'} a w':=by
 obtain⟨h',hv,S1⟩:=S.tree
 exact⟨h',hv,A.turned hl hp hv hK' S1⟩
end
theorem ab4 {A B:List D}{UA UB:List Value}{d:D}{u:Value}(h:UA.length=A.length):qw (A++d::B) (UA++u::UB)=qw A UA++dP d u::qw B UB:=by
 rw [sH h];rfl
theorem Ab {α:Type}{l:List α}{m:Nat}{x:α}(h:l[m]?=some x):l=l.take m++x::l.drop (m+1)∧∀z,l.set m z=l.take m++z::l.drop (m+1):=by
 have hm:=(List.getElem?_eq_some_iff.1 h).1
 have hx:=(List.getElem?_eq_some_iff.1 h).2
 refine⟨?_,fun z=>?_⟩
 ·rw [←hx,←List.drop_eq_getElem_cons hm,List.take_append_drop]
 ·rw [List.set_eq_take_append_cons_drop,if_pos hm]
theorem St.agv {W w:World}{L:List Pc}{u:Value}{rows:List (List D)}(S:St W w (qQ u rows::L)){i j:Nat}{r:List D}{rs:List (List D)}(hi:rows[i]?=some r)(hj:r[j]?=some (.l rs)){ui:Value}(ho:ui.oneCell'=true)
  (hcell:∀(g ob n c:Nat) (cs:Array Value) (T:TypeId) (fr:Nat×Nat),u= .slice (some ⟨g,ob,none⟩) n c→w.heap[g]?=some (.cells cs T fr)→cs[ob+(i*r.length+j)]?=some ui):
  St W w (qQ u (rows.set i (r.set j .gone))::(qQ ui rs::L)):=by
 rcases S.split with⟨e,_⟩|⟨g,ob,cc,k,T,cs,us,k1,k2,k3,k4,k5,k6,k7,k8,k9,S1⟩
 ·rw [e]at hi;simp at hi
 ·have hk:r.length=k:=k6 r (List.mem_of_getElem? hi)
  have hjk:j<k:=by rw [←hk];exact(List.getElem?_eq_some_iff.1 hj).1
  have f:=flat_get rows i j r _ k6 hi hj
  have hm:=(List.getElem?_eq_some_iff.1 f).1
  have hfl:=jf rows k6
  have hg:w.heap[g]?=some (.cells cs T (0,0)):=S1.MI List.mem_cons_self
  have hu:us[i*k+j]?=some ui:=by
   have:=hcell g ob _ cc cs T (0,0) k2 hg
   rw [hk]at this
   rw [←k9,List.getElem?_take,if_pos (by rw [←hfl];exact hm),List.getElem?_drop,Array.getElem?_toList];exact this
  obtain⟨a1,a2⟩:=Ab f
  obtain⟨b1,_⟩:=Ab hu
  have hlen:(us.take (i*k+j)).length=(rows.flatten.take (i*k+j)).length:=by rw [List.length_take,List.length_take,k8]
  rw [a1,b1,ab4 hlen]at S1
  have S2:St W w (dP (.l rs) ui::(rowP g T cs::((qw (rows.flatten.take (i*k+j)) (us.take (i*k+j))++qw (rows.flatten.drop (i*k+j+1)) (us.drop (i*k+j+1)))++L))):=S1.perm (by
   refine(List.Perm.cons _ (List.Perm.append_right L List.perm_middle)).trans ?_
   rw [List.cons_append]
   exact List.Perm.swap _ _ _)
  have S3:=S2.more (Ext.refl w) (h:=dP .gone ui) (F:= []) (pG.gone ui ho) List.nodup_nil (fun b hb=>by cases hb)
  have S4:St W w (rowP g T cs::(qw (rows.set i (r.set j .gone)).flatten us++(qQ ui rs::L))):=by
   rw [y8 rows i j r .gone k6 hi hjk,a2 .gone]
   conv=>rw [b1]
   rw [ab4 hlen]
   refine S3.perm ?_
   refine(List.Perm.cons _ (List.Perm.swap _ _ _)).trans ?_
   refine(List.Perm.swap _ _ _).trans ?_
   refine List.Perm.cons _ ?_
   rw [List.append_assoc]
   have:∀(X Y:List Pc) (a b:Pc),(a::b::(X++(Y++L))).Perm ((X++a::Y)++b::L):=by
    intro X Y a b
    have p1:((X++a::Y)++b::L).Perm (b::((X++a::Y)++L)):=List.perm_middle
    have p2:(X++a::Y).Perm (a::(X++Y)):=List.perm_middle
    refine List.Perm.trans ?_ p1.symm
    refine List.Perm.trans (List.Perm.swap _ _ _) (List.Perm.cons _ ?_)
    refine List.Perm.trans ?_ (List.Perm.append_right L p2).symm
    rw [List.cons_append,List.append_assoc]
   exact this _ _ _ _
  have hne:rows.set i (r.set j .gone)≠ []:=fun e=>k1 (List.eq_nil_of_length_eq_zero (by have:=congrArg List.length e;simpa using this))
  have hall:∀r'∈rows.set i (r.set j .gone),r'.length=k:=fun r' hr'=>by
   rcases List.mem_or_eq_of_mem_set hr' with hr'|hr'
   ·exact k6 r' hr'
   ·rw [hr',List.length_set];exact hk
  have S5:=S4.join (cc:=cc) (k:=k) (by rw [k8,y8 rows i j r .gone k6 hi hjk,List.length_set]) (by rw [List.length_set];exact k3) k4 k5 hall k7 (fun e=>absurd e hne) (by rw [List.length_set];exact k9)
  rw [List.length_set,←k2]at S5
  exact S5
section
variable {P:Program} {c:Ctx} {s:S} {y:Lay} {a:Act} {w:World}
theorem At.cellOf (A:At c s y a w){p i j:Nat}{rows:List (List D)}{r:List D}{rs:List (List D)}{u:Value}(hl:look p s.tree=some rows)(hi:rows[i]?=some r)(hj:r[j]?=some (.l rs))(hu:u=(y.hd p).cv (i*r.length+j)):
  ∀(g ob n c:Nat) (cs:Array Value) (T:TypeId) (fr:Nat×Nat),(y.hd p).v= .slice (some ⟨g,ob,none⟩) n c→w.heap[g]?=some (.cells cs T fr)→cs[ob+(i*r.length+j)]?=some u:=by
 intro g ob n cc cs T fr e1 e2
 obtain⟨F,t⟩:=A.Db hl
 have o:=t.own
 rw [e1]at o
 cases o with
 | nil=>simp at hi
 | l _ _ _ _ _ k T2 cs2 us fs a1 a2 a3 a4 a5=>
  have hk:r.length=k:=a5 r (List.mem_of_getElem? hi)
  have f:=flat_get rows i j r _ a5 hi hj
  rw [hk]at hu⊢
  rw [hu]
  exact t.hd g ob n cc cs T fr _ rs e1 e2 f
theorem At.Ca (A:At c s y a w){p i j k:Nat}{u:Value}{rs:List (List D)}{s1:S}(hv:RV (aX c s y) (.inn p i j k) u)(h:s.rows (.inn p i j k)=some rs)(h1:s.Ca p i j=some s1):
  ∃y',At (c.with [qQ u rs]) s1 y' a w:=by
 obtain⟨rows,r,k1,k2,k3,k4⟩:=K8 h
 unfold S.Ca at h1
 obtain⟨y9,q1,h1⟩:=aj h1
 rw [k1]at q1;injection q1 with q1;subst q1
 obtain⟨r2,q2,h1⟩:=aj h1
 rw [k2]at q2;injection q2 with q2;subst q2
 obtain⟨hp,h1⟩:=aB h1
 have hp:¬(aU≤p∧p<2*aU):=by unfold aU;exact hp
 injection h1 with h1;subst h1
 have hu:=hv.2.1
 rw [←k3]at hu
 have S:=(A.out' k1).Bg
 have S1:=S.agv k2 k4 hv.2.2 (A.cellOf k1 k2 k4 hu)
 obtain⟨h',_,A'⟩:=A.turned' k1 hp (L':= [qQ u rs]++c.L) (Ctx.with c _).hK (rows':=rows.set i (r.set j .gone)) (S1.perm (List.Perm.cons _ List.perm_middle.symm))
 exact⟨_,A'⟩
end
end Go.Proofs.YtlpdjhiggpblcaaGreat
namespace Go.Proofs.YtlpdjhiggpblcaaGreat
set_option linter.unusedSectionVars false
set_option linter.unusedSimpArgs false
set_option linter.unusedVariables false
open Go.RowKit
section
variable {P:Program} {c:Ctx} {s:S} {y:Lay} {a:Act} {w:World}
def Kind (P:Program)(t:TypeId):Prop:=(∃e',P.underlying t=some (.slice e'))∨P.underlying t=some .string
theorem Tq {t:TypeId}(h:Du P t=true):Kind P t:=by
 unfold Du at h
 split at h
 ·rename_i d hd
  unfold aiJ at h
  split at h
  ·exact .inl ⟨_,hd⟩
  ·exact .inr hd
  ·cases h
 ·cases h
theorem wL.one {G:Nat→Obj→Prop}{d:D}{u:Value}(h:wL G d u)(o:A9 d=true):u.oneCell'=true:=by
 cases d with
 | a x=>rw [h.atom];exact o
 | l r=>obtain⟨A,c,e,_⟩:=h.len;rw [e];rfl
 | gone=>cases h;assumption
theorem wL.source {k:Nat}{rows:List (List D)}{u:Value}(h:wL (jT w) (.l rows) u)(hw:wid k rows=true){t:TypeId}(ht:Kind P t):
  ∃news,Src P k t u rows.length news w∧news.length=rows.flatten.length∧∀(i:Nat) (x:Value) (v:Value),rows.flatten[i]?=some (.a x)→news[i]?=some v→v=x:=by
 cases h with
 | nil A c h1 h2=>
  refine⟨[],?_,rfl,fun i x v e=>by simp at e⟩
  cases A with
  | none=>exact⟨ht,fun _=>rfl,run_firstCells_none w k 0 0 c,run_firstCells_none w.drew k 0 0 c,by simp,fun _ h=>by cases h⟩
  | some ad=>exact⟨ht,fun _=>rfl,run_firstCells_some w k 0 ad 0 c [] (by simp) (fun j v h=>by simp at h),run_firstCells_some w.drew k 0 ad 0 c [] (by simp) (fun j v h=>by simp at h),by simp,fun _ h=>by cases h⟩
 | l _ n c b o k' T fr cs us q1 q2 q3 q4 q5 q6 q7 q8 q9=>
  subst q1
  have hk:k'=k:=by
   cases rows with
   | nil=>simp at q2
   | cons r rs=>rw [←q6 r (by simp),rV hw r (by simp)]
  subst hk
  have hfl:=jf rows q6
  have hl:((List.range rows.flatten.length).map us).length=rows.length*k':=by rw [List.length_map,List.length_range,hfl]
  have hget:∀j u,((List.range rows.flatten.length).map us)[j]?=some u→∃d,rows.flatten[j]?=some d∧u=us j:=by
   intro j u e
   rw [List.getElem?_map]at e
   obtain⟨m,e1,rfl⟩:=Option.map_eq_some_iff.1 e
   have hj:=(List.getElem?_eq_some_iff.1 e1).1
   rw [List.length_range]at hj
   rw [List.getElem?_range hj]at e1
   injection e1 with e1;subst e1
   exact⟨_,List.getElem?_eq_getElem hj,rfl⟩
  have hcell:∀j u,((List.range rows.flatten.length).map us)[j]?=some u→w.cell? ((⟨b,o,none⟩:Addr).add j)=some u:=by
   intro j u e
   obtain⟨d,e1,rfl⟩:=hget j u e
   rw [Addr.add_mid,cell_of_row w b _ cs T fr q7]
   exact q8 j d e1
  refine⟨(List.range rows.flatten.length).map us,⟨ht,fun _=>rfl,run_firstCells_some w k' rows.length ⟨b,o,none⟩ rows.length c _ hl hcell,run_firstCells_some w.drew k' rows.length ⟨b,o,none⟩ rows.length c _ hl hcell,hl,fun u hu=>?_⟩,by rw [hl,hfl],fun i x v e1 e2=>?_⟩
  ·obtain⟨j,e⟩:=List.getElem?_of_mem hu
   obtain⟨d,e1,rfl⟩:=hget j u e
   obtain⟨r,hr,hd⟩:=List.mem_flatten.1 (List.mem_of_getElem? e1)
   exact(q9 j d e1).one (U5 hw r hr d hd)
  ·obtain⟨d,e3,rfl⟩:=hget i v e2
   rw [e1]at e3;injection e3 with e3;subst e3
   exact(q9 i _ e1).atom
theorem acX {rows:List (List D)}(h:dN rows=true):∀d∈rows.flatten,sF d=true:=by
 intro d hd
 obtain⟨r,hr,hd⟩:=List.mem_flatten.1 hd
 exact List.all_eq_true.1 (List.all_eq_true.1 h r hr) d hd
theorem ZP {k:Nat}{b:ByteArray}(hw:wid k (b.toList.map fun c=> [.a (.int .u8 (c.toNat:Int))])=true){t:TypeId}(ht:Kind P t):
  ∃news,Src P k t (.string b) (b.toList.map fun c=> [D.a (.int .u8 (c.toNat:Int))]).length news w∧news.length=(b.toList.map fun c=> [D.a (.int .u8 (c.toNat:Int))]).flatten.length∧
   ∀(i:Nat) (x:Value) (v:Value),(b.toList.map fun c=> [D.a (.int .u8 (c.toNat:Int))]).flatten[i]?=some (.a x)→news[i]?=some v→v=x:=by
 have hsz:b.toList.length=b.size:=by rw [ByteArray.toList_eq,Array.length_toList];rfl
 have hfl:=jf (k:=1) (b.toList.map fun c=> [D.a (.int .u8 (c.toNat:Int))]) (fun r hr=>by obtain⟨x,_,rfl⟩:=List.mem_map.1 hr;rfl)
 have hf:∀w':World,(Builtin.firstCells k b.size (.string b)).run P w'= .ok (byteCells b).toArray w':=by
  intro w'
  have:=firstCells_string (P:=P) b w'
  exact this
 refine⟨byteCells b,⟨ht,fun _=>by rw [List.length_map,hsz];rfl,by rw [List.length_map,hsz];exact hf w,by rw [List.length_map,hsz];exact hf w.drew,?_,fun u hu=>?_⟩,?_,fun i x v e1 e2=>?_⟩
 ·rw [byteCells_length,List.length_map,hsz]
  by_cases h0:b.size=0
  ·rw [h0];simp
  ·have hne:b.toList≠ []:=by intro e;rw [e]at hsz;simp at hsz;omega
   obtain⟨x,r,e⟩:=List.exists_cons_of_ne_nil hne
   rw [e]at hw
   have:=rV hw [D.a (.int .u8 (x.toNat:Int))] (by simp)
   simp at this
   rw [←this];simp
 ·obtain⟨_,_,rfl⟩:=List.mem_map.1 hu
  rfl
 ·rw [byteCells_length,hfl,List.length_map,hsz,Nat.mul_one]
 ·have hi:i<b.toList.length:=by
   have:=(List.getElem?_eq_some_iff.1 e1).1
   rw [hfl,List.length_map,Nat.mul_one]at this;exact this
  have:=flat_get (k:=1) (b.toList.map fun c=> [D.a (.int .u8 (c.toNat:Int))]) i 0 _ _ (fun r hr=>by obtain⟨x,_,rfl⟩:=List.mem_map.1 hr;rfl) (by rw [List.getElem?_map,List.getElem?_eq_getElem hi];rfl) rfl
  rw [show i*1+0=i by omega,e1]at this
  injection this with this;injection this with this;subst this
  unfold byteCells at e2
  rw [←ByteArray.toList_eq,List.getElem?_map,List.getElem?_eq_getElem hi]at e2
  simpa using e2.symm
theorem PO (A:At c s y a w){v:V}{u:Value}(hv:RV (aX c s y) v u){rows:List (List D)}{s1:S}(h:Jy s v=some (rows,s1)){k:Nat}(hw:wid k rows=true){t:TypeId}(ht:Kind P t):
  ∃E news,At (c.with E) s1 y a w∧E=qw rows.flatten news∧Src P k t u rows.length news w∧news.length=rows.flatten.length:=by
 have flat:∀(rows:List (List D)),dN rows=true→(∃news,Src P k t u rows.length news w∧news.length=rows.flatten.length∧∀(i:Nat) (x:Value) (v:Value),rows.flatten[i]?=some (.a x)→news[i]?=some v→v=x)→
   ∃E news,At (c.with E) s y a w∧E=qw rows.flatten news∧Src P k t u rows.length news w∧news.length=rows.flatten.length:=by
  intro rows hf ⟨news,h1,h2,h3⟩
  have S:=St.atoms A.qw (acX hf) h3
  refine⟨_,news,A.aeP (L':=qw rows.flatten news++c.L) (Ctx.with c _).hK (S.perm ?_),rfl,h1,h2⟩
  rw [←List.append_assoc,←List.append_assoc]
  exact List.Perm.append_right _ List.perm_append_comm
 unfold Jy at h
 split at h
 ·rename_i b
  injection h with h;injection h with h1 h2;subst h1;subst h2
  rw [show u= .string b from hv]
  have hf:dN (b.toList.map fun c=> [D.a (.int .u8 (c.toNat:Int))])=true:=by
   unfold dN;rw [List.all_eq_true];intro r hr
   obtain⟨x,_,rfl⟩:=List.mem_map.1 hr
   rfl
  have:=flat _ hf (by rw [show u= .string b from hv];exact ZP hw ht)
  rw [show u= .string b from hv]at this
  exact this
 ·rename_i q
  unfold JZ at h
  split at h
  ·rename_i rows' hq
   injection h with h;injection h with h1 h2;subst h1
   by_cases hf:dN rows'=true
   ·rw [if_pos hf]at h2;subst h2
    exact flat _ hf (wL.source (A.rows hv (by simp only [S.rows,hq,mD])) hw ht)
   ·rw [if_neg hf]at h2;subst h2
    have hu:u=(y.hd q).v:=hv.2
    rcases(A.out' hq).Bg.split with⟨e,_⟩|⟨g,ob,cc,k',T,cs,us,k1,k2,k3,k4,k5,k6,k7,k8,k9,S⟩
    ·rw [e]at hf;exact absurd rfl hf
    ·have hk:k'=k:=by
      cases hr:rows' with
      | nil=>exact absurd hr k1
      | cons r rs=>rw [hr]at k6 hw;rw [←k6 r (by simp),rV hw r (by simp)]
     subst hk
     have hg:w.heap[g]?=some (.cells cs T (0,0)):=S.MI List.mem_cons_self
     have hfl:=jf rows' k6
     have hcell:∀j v,us[j]?=some v→w.cell? ((⟨g,ob,none⟩:Addr).add j)=some v:=by
      intro j v e
      rw [Addr.add_mid,cell_of_row w g _ cs T (0,0) hg]
      rw [←k9,List.getElem?_take]at e
      split at e
      ·rw [List.getElem?_drop,Array.getElem?_toList]at e;exact e
      ·cases e
     have S2:=S.drop
     refine⟨_,us,A.U8 (L':=qw rows'.flatten us++c.L) (Ctx.with c _).hK (S2.perm ?_) hq,rfl,?_,k8⟩
     ·rw [←List.append_assoc,←List.append_assoc]
      exact List.Perm.append_right _ List.perm_append_comm
     ·rw [hu,k2]
      refine⟨ht,fun _=>rfl,run_firstCells_some w k' rows'.length ⟨g,ob,none⟩ rows'.length cc _ (by rw [k8,hfl]) hcell,run_firstCells_some w.drew k' rows'.length ⟨g,ob,none⟩ rows'.length cc _ (by rw [k8,hfl]) hcell,by rw [k8,hfl],fun x hx=>?_⟩
      obtain⟨j,e⟩:=List.getElem?_of_mem hx
      have hj:j<rows'.flatten.length:=by rw [←k8];exact(List.getElem?_eq_some_iff.1 e).1
      have hd:=List.getElem?_eq_getElem hj
      obtain⟨F,o⟩:=A.Db hq
      have hrd:=o.own.rd (G:=jT w) fun _ _ _ e=>e
      rw [k2]at hrd
      cases hrd with
      | nil=>exact absurd rfl k1
      | l _ n c' b' o' k'' T' fr' cs' us' q1 q2 q3 q4 q5 q6 q7 q8 q9=>
       have e7:jT w g (.cells cs' T' fr'):=q7
       unfold jT at e7
       rw [hg]at e7
       injection e7 with e7;injection e7 with e7 _ _
       have e8:=q8 j _ hd
       rw [←e7]at e8
       have e9:cs[ob+j]?=some x:=by
        have:=hcell j x e
        rw [Addr.add_mid,cell_of_row w g _ cs T (0,0) hg]at this
        exact this
       rw [e9]at e8;injection e8 with e8
       rw [e8]
       obtain⟨r,hr,hdr⟩:=List.mem_flatten.1 (List.mem_of_getElem? hd)
       exact(q9 j _ hd).one (U5 hw r hr _ hdr)
  ·rename_i hq
   obtain⟨rows',h1,h⟩:=aj h
   obtain⟨hf,h⟩:=aB h
   injection h with h;injection h with h2 h3;subst h2;subst h3
   exact flat _ hf (wL.source (A.rows hv (by simp only [S.rows,hq,mD,h1])) hw ht)
 ·injection h with h;injection h with h1 h2;subst h1;subst h2
  exact flat [] rfl (wL.source (A.rows hv rfl) hw ht)
 ·rename_i rows'
  obtain⟨hf,h⟩:=aB h
  injection h with h;injection h with h2 h3;subst h2;subst h3
  exact flat _ hf (wL.source (A.rows hv rfl) hw ht)
 ·rename_i rows'
  obtain⟨hf,h⟩:=aB h
  injection h with h;injection h with h2 h3;subst h2;subst h3
  exact flat _ hf (wL.source (A.rows hv rfl) hw ht)
 ·rename_i p i j k
  obtain⟨rows',hr,h⟩:=aj h
  obtain⟨hf,h⟩:=aB h
  injection h with h;injection h with h2 h3;subst h2;subst h3
  exact flat _ hf (wL.source (A.rows hv hr) hw ht)
 ·cases h
theorem MO (t tx ty e:TypeId)(i:TypeInfo)(ht:P.underlying t=some (.slice e))(hi:P.info? e=some i)(g ob sLen sCap:Nat)(cur:Array Value)(T:TypeId)(hg:w.heap[g]?=some (.cells cur T (0,0)))(x:Value)(n:Nat)(news:List Value)(hs:Src P i.size tx x n news w)
  (hroom:sLen+n≤sCap) (hfit:ob+sLen*i.size+news.length≤cur.size):
  (Builtin.append_ #[t,tx] ty #[.slice (some ⟨g,ob,none⟩) sLen sCap,x]).run P w= .ok (.slice (some ⟨g,ob,none⟩) (sLen+n) sCap) (w.setRow g (cur.toList.take (ob+sLen*i.size)++news++cur.toList.drop (ob+sLen*i.size+news.length)).toArray):=by
 have hst:=run_storeCells_at P g (ob+sLen*i.size) T news 0 cur w hg (by simpa using hfit) hs.one
 simp only [Nat.add_zero]at hst
 rcases hs.kind with⟨e',hk⟩|hk<;>simp [Builtin.append_,run_underlying ht,run_underlying hk,sizeOf,typeInfo,hi,hs.len,hroom,hs.cells,Addr.add_mid,hst]
end
section
variable {P:Program} {c:Ctx} {s:S} {y:Lay} {a:Act} {w:World}
theorem Tt {α:Type}{l n z:List α}{o m:Nat}(h:o+m≤l.length):(l.take (o+m)++n++z).drop o=(l.drop o).take m++n++z:=by
 rw [List.append_assoc,List.drop_append_of_le_length (by rw [List.length_take];omega),List.drop_take,Nat.add_sub_cancel_left,List.append_assoc]
theorem St.grow {W:World}{L:List Pc}{rows new:List (List D)}{olds news:List Value}{e:TypeId}{k cap:Nat}{zs:Array Value}(S:St W w (qw rows.flatten olds++(qw new.flatten news++L)))(ho:olds.length=rows.flatten.length)(hn:news.length=new.flatten.length)(h1:∀r∈rows,r.length=k)(h2:∀r∈new,r.length=k)
  (hk:0<k) (hz:zs.size=k) (hc:rows.length+new.length≤cap) (hm:cap≤maxLen) (hne:new≠ []):
  St W (w.drew.alloc (.cells ((olds++news).toArray++Builtin.zeroCells zs (cap-(rows.length+new.length))) e)) (qQ (.slice (some ⟨w.heap.size,0,none⟩) (rows.length+new.length) cap) (rows++new)::L):=by
 have hall:∀r∈rows++new,r.length=k:=fun r hr=>(List.mem_append.1 hr).elim (h1 r) (h2 r)
 have hfl:=jf _ hall
 have hlen:(olds++news).length=(rows.length+new.length)*k:=by
  rw [List.length_append,ho,hn,←List.length_append,←List.flatten_append,hfl,List.length_append]
 have S1:=S.drew.alloc ((olds++news).toArray++Builtin.zeroCells zs (cap-(rows.length+new.length))) e
 rw [←List.append_assoc,←sH ho,←List.flatten_append]at S1
 have:=S1.join (ob:=0) (cc:=cap) (k:=k) (by rw [hlen,hfl,List.length_append]) (by rw [List.length_append];exact hc) hm hk hall (by
  rw [Nat.zero_add,Array.size_append,List.size_toArray,hlen,size_zeroCells,hz,←Nat.add_mul]
  congr 1;omega) (fun e=>absurd (List.append_eq_nil_iff.1 e).2 hne) (by
  rw [List.drop_zero,Array.toList_append,List.length_append,←hlen]
  exact List.take_left)
 rw [List.length_append]at this
 exact this
theorem GL {E:List Pc}{news:List Value}{new:List (List D)}{e t tx ty:TypeId}{x:V}{ux uy:Value}{dst:Option Nat}{s':S}(A:At (c.with E) s y a w)(hE:E=qw new.flatten news)(hs:Src P (P.cellsOf e) tx uy new.length news w)(hnl:news.length=new.flatten.length)
  (hx:PV y x ux) (h:rR P s dst e new x=some s'∨∃p,x= .own p∧look p s.tree=some []∧lD P e new.length=true∧wid (P.cellsOf e) new=true∧s.newTree dst new=some s') (ht:P.underlying t=some (.slice e)) (hd':fM c.n dst=true):
  ∃u' w' y',(Builtin.append_ #[t,tx] ty #[ux,uy]).run P w= .ok u' w'∧At c s' y' (a.put dst u') w':=by
 have fit:∀n,lD P e n=true→∃i z,P.info? e=some i∧i.zero=some z∧z.cells.size=i.size∧0<i.size∧P.cellsOf e=i.size∧n*i.bytes≤140737488355328∧n≤4611686018427387904:=by
  intro n hn
  unfold lD at hn
  simp only [Bool.and_eq_true,decide_eq_true_eq]at hn
  obtain⟨i,z,z1,z2,z3,z4,z5⟩:=GK hn.1.1
  refine⟨i,z,z1,z2,z3,z4,z5,?_,hn.2⟩
  have:=hn.1.2
  unfold Program.bytesOf at this
  rw [z1]at this
  exact this
 have grow:∀(y:Lay) (s0:S) (A0:At (c.with E) s0 y a w) (rows:List (List D)) (olds:List Value) (base:Option Addr) (cap:Nat),ux= .slice base rows.length cap→cap<rows.length+new.length→new≠ []→lD P e (rows.length+new.length)=true→(∀r∈rows,r.length=P.cellsOf e)→wid (P.cellsOf e) new=true→
   olds.length=rows.flatten.length→(Builtin.firstCells (P.cellsOf e) rows.length (.slice base rows.length cap)).run P w.drew= .ok olds.toArray w.drew→St c.W w (qw rows.flatten olds++(E++(Ml s0 y++c.L)))→s0.newTree dst (rows++new)=some s'→
   ∃u' w' y',(Builtin.append_ #[t,tx] ty #[ux,uy]).run P w= .ok u' w'∧At c s' y' (a.put dst u') w':=by
  intro y s0 A0 rows olds base cap hu hcap hne hso hw1 hw2 hol hold S hnt
  obtain⟨i,z,z1,z2,z3,z4,z5,z6,z7⟩:=fit _ hso
  rw [z5]at hs hold
  have hr:=run_append_grow_src (P:=P) w t tx ty e i z ht z1 z2 base rows.length cap olds hold uy new.length news hs hcap (by omega) (growslice_fits hcap z6)
  rw [←hu]at hr
  rw [hE]at S
  have S2:=St.grow (e:=e) (cap:=grownCap w (rows.length+new.length) cap e) (zs:=z.cells) S hol hnl hw1 (rV hw2) (by rw [z5];exact z4) (by rw [z5];exact z3) (grownCap_ge _ _ _ _) (grownCap_le_maxLen _ _ _ _ (by unfold maxLen;omega)) hne
  obtain⟨y',A'⟩:=pI A0 hd' hnt S2
  exact⟨_,_,y',hr,A'⟩
 have nothing:∀(y:Lay) (s0:S) (A0:At (c.with E) s0 y a w) (rows:List (List D)) (base:Option Addr) (n cap:Nat),new= []→ux= .slice base n cap→n≤cap→lD P e (rows.length+new.length)=true→St c.W w (qQ ux rows::(Ml s0 y++c.L))→s0.newTree dst (rows++new)=some s'→
   ∃u' w' y',(Builtin.append_ #[t,tx] ty #[ux,uy]).run P w= .ok u' w'∧At c s' y' (a.put dst u') w':=by
  intro y s0 A0 rows base n cap hne hu hle hso S hnt
  obtain⟨i,z,z1,z2,z3,z4,z5,z6,z7⟩:=fit _ hso
  subst hne
  obtain rfl:news= []:=List.eq_nil_of_length_eq_zero hnl
  rw [List.append_nil]at hnt
  rw [z5]at hs
  have hr:=run_append_nothing (P:=P) w t tx ty e i ht z1 base n cap hle uy hs
  rw [←hu]at hr
  obtain⟨y',A'⟩:=pI A0 hd' hnt S
  exact⟨_,_,y',hr,A'⟩
 have room:∀(y:Lay) (s1:S) (A1:At (c.with E) s1 y a w) (rows:List (List D)) (us:List Value) (g ob cc:Nat) (T:TypeId) (cs:Array Value),rows≠ []→ux= .slice (some ⟨g,ob,none⟩) rows.length cc→rows.length≤cc→cc≤maxLen→0<P.cellsOf e→(∀r∈rows,r.length=P.cellsOf e)→cs.size=ob+cc*P.cellsOf e→us.length=rows.flatten.length→
   (cs.toList.drop ob).take (rows.length*P.cellsOf e)=us→St c.W w (rowP g T cs::(qw rows.flatten us++(E++(Ml s1 y++c.L))))→lD P e (rows.length+new.length)=true→wid (P.cellsOf e) rows=true→wid (P.cellsOf e) new=true→new≠ []→w.heap[g]?=some (.cells cs T (0,0))→s1.newTree dst (rows++new)=some s'→
   ∃u' w' y',(Builtin.append_ #[t,tx] ty #[ux,uy]).run P w= .ok u' w'∧At c s' y' (a.put dst u') w':=by
  intro y s1 A1 rows us g ob cc T cs k1 k2 k3 k4 k5 k6 k7 k8 k9 S h1 h2 h3 hne hg h
  have hfl:=jf rows k6
  by_cases hroom:rows.length+new.length≤cc
  ·obtain⟨i,z,z1,z2,z3,z4,z5,z6,z7⟩:=fit _ h1
   have hfit:ob+rows.length*i.size+news.length≤cs.size:=by
    rw [hs.newsLen,z5,k7,z5,Nat.add_assoc,←Nat.add_mul]
    exact Nat.add_le_add_left (Nat.mul_le_mul_right _ hroom) _
   rw [z5]at hs
   have hr:=MO (P:=P) t tx ty e i ht z1 g ob rows.length cc cs T hg uy new.length news hs hroom hfit
   rw [←k2]at hr
   have S2:=S.set (setRow_heap w g cs (cs.toList.take (ob+rows.length*i.size)++news++cs.toList.drop (ob+rows.length*i.size+news.length)).toArray T (0,0) hg) ⟨rfl,rfl,rfl,by simp,fun k _ hk=>setRow_other w g k _ (fun e=>hk (by rw [e]))⟩
   rw [hE,←List.append_assoc,←sH k8,←List.flatten_append]at S2
   have hall:∀r∈rows++new,r.length=P.cellsOf e:=fun r hr=>(List.mem_append.1 hr).elim (k6 r) (rV h3 r)
   have hlen:(us++news).length=(rows++new).length*P.cellsOf e:=by
    rw [List.length_append,k8,hnl,←List.length_append,←List.flatten_append,jf _ hall]
   have S4:=S2.join (ob:=ob) (cc:=cc) (k:=P.cellsOf e) (by rw [hlen,jf _ hall]) (by rw [List.length_append];exact hroom) k4 k5 hall (by
    rw [List.size_toArray,List.length_append,List.length_append,List.length_take,List.length_drop,←k7];have hcl:cs.toList.length=cs.size:=Array.length_toList;rw [hcl];revert hfit;generalize ob+rows.length*i.size=M;generalize cs.size=Z;generalize news.length=N;intro hfit;omega) (fun e=>absurd (List.append_eq_nil_iff.1 e).2 hne) (by
    have hol:ob+rows.length*i.size≤cs.toList.length:=by rw [Array.length_toList];exact Nat.le_trans (Nat.le_add_right _ _) hfit
    have akm:us=(cs.toList.drop ob).take (rows.length*i.size):=by rw [←z5];exact k9.symm
    rw [←hlen,Tt hol,←akm]
    exact List.take_left)
   obtain⟨y',A'⟩:=pI A1 hd' h S4
   rw [List.length_append]at A'
   exact⟨_,_,y',hr,A'⟩
  ·refine grow y _ A1 rows us (some ⟨g,ob,none⟩) cc k2 (by omega) hne h1 k6 h3 k8 (run_firstCells_some _ _ rows.length _ _ _ us (by rw [k8,hfl]) fun j v e1=>?_) S.drop h
   show w.cell? _=some v
   rw [Addr.add_mid,cell_of_row w g _ cs T (0,0) hg]
   rw [←k9,List.getElem?_take]at e1
   split at e1
   ·rw [List.getElem?_drop,Array.getElem?_toList]at e1;exact e1
   ·cases e1
 rcases h with h|⟨p,rfl,hl,h1,h3,h⟩
 rotate_left
 ·have hu:ux=(y.hd p).v:=hx
  have S0:=(A.out' hl).Bg
  have h1':lD P e (([]:List (List D)).length+new.length)=true:=by simpa using h1
  rcases S0.split with⟨_,g,cc,k1,_,k2,S⟩|⟨_,_,_,_,_,_,_,k1,_⟩
  ·subst k2
   by_cases hne:new= []
   ·have hE0:E= []:=by rw [hE,hne];cases news<;>rfl
    have S1:=A.qw
    rw [hE0]at S1
    refine nothing y s A [] g 0 0 hne (hu.trans k1) (Nat.le_refl _) h1' ?_ h
    rw [hu,k1]
    exact S1.more (Ext.refl w) (h:=qQ (.slice g 0 0) []) (F:= []) (.nil g []) List.nodup_nil (fun b hb=>by cases hb)
   ·have hpos:0<new.length:=List.length_pos_iff.2 hne
    refine grow y s A [] [] g 0 (hu.trans k1) (by simpa using hpos) hne h1' (fun r hr=>by cases hr) h3 rfl ?_ (by exact A.front) h
    cases g with
    | none=>exact run_firstCells_none _ _ _ _ _
    | some ad=>exact run_firstCells_some _ _ 0 ad _ _ [] (by simp) (fun j v hh=>by simp at hh)
  ·exact absurd rfl k1
 unfold rR at h
 split at h
 ·obtain⟨⟨h1,h2⟩,h⟩:=aB h
  have hu:ux= .slice none 0 0:=hx
  by_cases hne:new= []
  ·have h1':lD P e (([]:List (List D)).length+new.length)=true:=by simpa using h1
   exact nothing y s A [] none 0 0 hne hu (Nat.le_refl _) h1' (by rw [hu];exact A.pop.qw.more (Ext.refl w) (h:=qQ (.slice none 0 0) []) (F:= []) (.nil none []) List.nodup_nil (fun b hb=>by cases hb)) h
  ·have h1':lD P e (([]:List (List D)).length+new.length)=true:=by simpa using h1
   have hpos:0<new.length:=List.length_pos_iff.2 hne
   exact grow y s A [] [] none 0 hu (by simpa using hpos) hne h1' (fun r hr=>by cases hr) h2 rfl (run_firstCells_none _ _ _ _ _) (by exact A.front) h
 ·rename_i p
  obtain⟨rows,hl,h⟩:=aj h
  obtain⟨⟨h1,h2,h3⟩,h⟩:=aB h
  have hu:ux=(y.hd p).v:=hx
  have S0:=(A.out' hl).Bg
  have A1:At (c.with E) (s.kill p) y a w:=A.U8 (c:=c.with E) (c.with E).hK S0.drop hl
  by_cases hne:new= []
  ·obtain⟨F,o⟩:=A.Db hl
   obtain⟨B,cc,e1,e2,_⟩:=(o.own.rd (G:=jT w) fun _ _ _ e=>e).len
   have hE0:E= []:=by rw [hE,hne];cases news<;>rfl
   refine nothing y _ A1 rows B rows.length cc hne (hu.trans e1) e2 h1 ?_ h
   rw [hu];rw [hE0]at S0;exact S0
  ·have hpos:0<new.length:=List.length_pos_iff.2 hne
   rcases S0.split with⟨e0,g,cc,k1,_,k2,S⟩|⟨g,ob,cc,k',T,cs,us,k1,k2,k3,k4,k5,k6,k7,k8,k9,S⟩
   ·subst e0;subst k2
    refine grow y _ A1 [] [] g 0 (hu.trans k1) (by simpa using hpos) hne h1 (fun r hr=>by cases hr) h3 rfl ?_ (by exact A1.front) h
    cases g with
    | none=>exact run_firstCells_none _ _ _ _ _
    | some ad=>exact run_firstCells_some _ _ 0 ad _ _ [] (by simp) (fun j v hh=>by simp at hh)
   ·have hk:k'=P.cellsOf e:=by
     cases hr:rows with
     | nil=>exact absurd hr k1
     | cons r rs=>rw [hr]at k6 h2;rw [←k6 r (by simp),rV h2 r (by simp)]
    subst hk
    have hg:w.heap[g]?=some (.cells cs T (0,0)):=S.MI List.mem_cons_self
    have hfl:=jf rows k6
    have hperm:(Ml (s.kill p) y++(E++c.L)).Perm (E++(Ml (s.kill p) y++c.L)):=by
     rw [←List.append_assoc,←List.append_assoc]
     exact List.Perm.append_right _ List.perm_append_comm
    exact room y (s.kill p) A1 rows us g ob cc T cs k1 (hu.trans k2) k3 k4 k5 k6 k7 k8 k9 (S.perm (List.Perm.cons _ (List.Perm.append_left _ hperm))) h1 h2 h3 hne hg h
 ·rename_i p i0 j0 k0
  obtain⟨rows,hl,h⟩:=aj h
  obtain⟨⟨h1,h2,h3⟩,h⟩:=aB h
  obtain⟨s1,hs1,h⟩:=aj h
  have hin:RV (aX (c.with E) s y) (.inn p i0 j0 k0) ux:=by
   obtain⟨aeR,r0,m1,m2,m3,m4⟩:=K8 hl
   exact⟨by show p∈(s.tree++s.dG).map (·.1);rw [List.map_append,List.mem_append];exact .inl (List.mem_map.2 ⟨_,fD m1,rfl⟩),hx.1,hx.2⟩
  obtain⟨y1,A1⟩:=At.Ca (c:=c.with E) A hin hl hs1
  have S00:St c.W w (Ml s1 y1++([qQ ux rows]++(E++c.L))):=A1.qw
  have S0:St c.W w (qQ ux rows::(Ml s1 y1++(E++c.L))):=S00.perm List.perm_middle
  have A2:At (c.with E) s1 y1 a w:=A1.pop (c:=c.with E)
  by_cases hne:new= []
  ·have hE0:E= []:=by rw [hE,hne];cases news<;>rfl
   obtain⟨F,o⟩:=S0.aeE (u:=ux) (rows:=rows) List.mem_cons_self
   obtain⟨B,cc,e1,e2,_⟩:=(o.rd (G:=jT w) fun _ _ _ e=>e).len
   exact nothing y1 _ A2 rows B rows.length cc hne e1 e2 h1 (by rw [hE0]at S0;exact S0) h
  ·have hpos:0<new.length:=List.length_pos_iff.2 hne
   have hswap:∀(X Y:List Pc),(X++(Y++c.L)).Perm (Y++(X++c.L)):=by
    intro X Y
    rw [←List.append_assoc,←List.append_assoc]
    exact List.Perm.append_right _ List.perm_append_comm
   rcases S0.split with⟨e0,g,cc,k1,_,k2,S⟩|⟨g,ob,cc,k',T,cs,us,k1,k2,k3,k4,k5,k6,k7,k8,k9,S⟩
   ·subst e0;subst k2
    refine grow y1 _ A2 [] [] g 0 k1 (by simpa using hpos) hne h1 (fun r hr=>by cases hr) h3 rfl ?_ (by exact A2.front) h
    cases g with
    | none=>exact run_firstCells_none _ _ _ _ _
    | some ad=>exact run_firstCells_some _ _ 0 ad _ _ [] (by simp) (fun j v hh=>by simp at hh)
   ·have hk:k'=P.cellsOf e:=by
     cases hr:rows with
     | nil=>exact absurd hr k1
     | cons r rs=>rw [hr]at k6 h2;rw [←k6 r (by simp),rV h2 r (by simp)]
    subst hk
    have hg:w.heap[g]?=some (.cells cs T (0,0)):=S.MI List.mem_cons_self
    exact room y1 s1 A2 rows us g ob cc T cs k1 k2 k3 k4 k5 k6 k7 k8 k9 (S.perm (List.Perm.cons _ (List.Perm.append_left _ (hswap _ _)))) h1 h2 h3 hne hg h
 ·cases h
theorem NG (ats:Array TypeId){t tx:TypeId}(h0:ats[0]?=some t)(h1:ats[1]?=some tx)(ty:TypeId)(args:Array Value):Builtin.append_ ats ty args=Builtin.append_ #[t,tx] ty args:=by
 unfold Builtin.append_
 simp [h0,h1]
theorem PS (A:At c s y a w):∀{xs:List Operand} {vs:List V},bG s.ev xs=some vs→jk (aX c s y) vs (xs.map a.eval)
 | [],vs,h=>by simp only [bG]at h;injection h with h;subst h;rfl
 | x::xs,vs,h=>by
  simp only [bG]at h
  obtain⟨v,h1,h⟩:=aj h
  obtain⟨vs',h2,h⟩:=aj h
  injection h with h;subst h
  exact⟨_,_,rfl,A.ev h1,PS A h2⟩
theorem acY {t:TypeId}(h:ZC P t=true):P.underlying t=some .string:=by
 unfold ZC at h
 split at h
 ·rename_i d hd
  unfold Ms at h;split at h
  ·exact hd
  ·cases h
 ·cases h
theorem acZ {t:TypeId}(h:zN P t=true):∃e,P.underlying t=some (.slice e):=by
 unfold zN at h
 split at h
 ·rename_i d hd
  unfold aiK at h;split at h
  ·exact⟨_,hd⟩
  ·cases h
 ·cases h
theorem U9 {o:Oper}{cl:Call}(ho:o.op= .call cl)(hb:cl.callee= .builtin .append)(hd':fM c.n o.dst=true){p:Nat}{z:V}{s':S}{t tx e:TypeId}{new:List (List D)}(hargs:bG s.ev cl.args.toList=some [.own p,z])
  (h0:cl.argTypes[0]?=some t) (h1:cl.argTypes[1]?=some tx) (hk:Du P tx=true) (hd:P.underlying t=some (.slice e)) (hz:Jy s z=some (new,s)) (hl:look p s.tree=some []) (hso:lD P e new.length=true) (hw:wid (P.cellsOf e) new=true) (hnt:s.newTree o.dst new=some s'):Step P c o s s':=by
 intro a w G next Q kk
 obtain⟨y,A⟩:=G
 have ea:=PS A hargs
 obtain⟨u1,q,e1,e2,u2,q2,e3,e4,e5⟩:=ea
 rw [e3,show q2= []from e5]at e1
 obtain⟨E,news,A1,hE,hs,hnl⟩:=PO A e4 hz hw (Tq hk)
 obtain⟨u',w',y',hr,A'⟩:=GL (t:=t) (tx:=tx) (ty:=o.type) A1 hE hs hnl (PV.of e2) (.inr ⟨p,rfl,hl,hso,hw,hnt⟩) hd hd'
 refine qD (?_:(execOp a.eval o).run P w= .ok (.value u') w') (kk _ _ ⟨y',A'⟩)
 unfold execOp
 simp only [ho,resolve,hb,Sem.run_bind,Sem.run_pure,Result.andThen_ok,invoke]
 have hcl:(cl.args.map a.eval)=(cl.args.toList.map a.eval).toArray:=by apply Array.ext';simp
 simp only [hcl,e1,builtin,Sem.run_bind,NG cl.argTypes h0 h1,hr]
 rfl
theorem Va {o:Oper}{cl:Call}{b:Builtin}(ho:o.op= .call cl)(hb:cl.callee= .builtin b)(hd':fM c.n o.dst=true){args:List V}{s':S}(hargs:bG s.ev cl.args.toList=some args)(h:kI P s o.dst b cl.argTypes args=some s'):Step P c o s s':=by
 intro a w G next Q kk
 obtain⟨y,A⟩:=G
 have ea:=PS A hargs
 have exec:∀(u:Value) (w':World),(∀cs:Array Bool,(builtin b cl.argTypes o.type cs (cl.args.toList.map a.eval).toArray).run P w= .ok (.value u) w')→(execOp a.eval o).run P w= .ok (.value u) w':=by
  intro u w' hr
  unfold execOp
  simp only [ho,resolve,hb,Sem.run_bind,Sem.run_pure,Result.andThen_ok,invoke]
  rw [←hr _]
  congr 2
  apply Array.ext'
  simp
 have val:∀(v:V) (u:Value),RV (aX c s y) v u→some s'=some (s.put o.dst v)→(∀cs:Array Bool,(builtin b cl.argTypes o.type cs (cl.args.toList.map a.eval).toArray).run P w= .ok (.value u) w)→o.wp P a w next Q:=by
  intro v u hv hs' hr
  injection hs' with hs';subst hs'
  exact qD (exec u w hr) (kk _ _ ⟨y,A.value hv hd'⟩)
 unfold kI at h
 split at h
 ·obtain⟨t,h0,h⟩:=aj h
  obtain⟨ht,h⟩:=aB h
  obtain⟨u1,q,e1,e2,e3⟩:=ea
  rw [show q= []from e3]at e1
  rename_i x _ _
  refine val (.v (.int .i64 x.size)) (.int .i64 x.size) rfl h.symm fun cs=>?_
  rw [e1,show u1=_ from e2]
  have hu:=run_underlying (acY ht) w
  simp [builtin,Builtin.len_,h0,hu,goInt]
 ·rename_i x _
  obtain⟨t,h0,h⟩:=aj h
  obtain⟨ht,h⟩:=aB h
  obtain⟨rows,hr,h⟩:=aj h
  obtain⟨u1,q,e1,e2,e3⟩:=ea
  rw [show q= []from e3]at e1
  obtain⟨B,cc,e4,_⟩:=(A.rows e2 hr).len
  obtain⟨e,ht⟩:=acZ ht
  refine val (.v (.int .i64 rows.length)) (.int .i64 rows.length) rfl h.symm fun cs=>?_
  rw [e1,e4]
  have hu:=run_underlying ht w
  simp [builtin,Builtin.len_,h0,hu,goInt]
 ·rename_i x z
  obtain⟨t,h0,h⟩:=aj h
  obtain⟨tx,h1,h⟩:=aj h
  obtain⟨hk,h⟩:=aB h
  unfold IZ at h
  obtain⟨d,hd,hh⟩:=aj h
  obtain⟨e,he,hh2⟩:=aj hh
  obtain⟨zz,hz,hf⟩:=aj hh2
  have hdd:d= .slice e:=by unfold iN at he;split at he<;>first|(injection he with he;subst he;rfl)|cases he
  rw [hdd]at hd
  obtain⟨u1,q,e1,e2,u2,q2,e3,e4,e5⟩:=ea
  rw [e3,show q2= []from e5]at e1
  have hw:wid (P.cellsOf e) zz.1=true:=by
   unfold rR at hf
   split at hf
   ·obtain⟨⟨_,h2⟩,_⟩:=aB hf;exact h2
   ·obtain⟨_,_,hf⟩:=aj hf
    obtain⟨⟨_,_,h2⟩,_⟩:=aB hf;exact h2
   ·obtain⟨_,_,hf⟩:=aj hf
    obtain⟨⟨_,_,h2⟩,_⟩:=aB hf;exact h2
   ·cases hf
  obtain⟨E,news,A1,hE,hs,hnl⟩:=PO A e4 (rows:=zz.1) (s1:=zz.2) hz hw (Tq hk)
  obtain⟨u',w',y',hr,A'⟩:=GL (t:=t) (tx:=tx) (ty:=o.type) A1 hE hs hnl (PV.of e2) (.inl hf) hd hd'
  refine qD (exec u' w' fun cs=>?_) (kk _ _ ⟨y',A'⟩)
  rw [e1]
  simp only [builtin,Sem.run_bind,NG cl.argTypes h0 h1,hr]
  rfl
 ·obtain⟨u1,q,e1,e2,u2,q2,e3,e4,e5⟩:=ea
  rw [e3,show q2= []from e5,show u1=_ from e2,show u2=_ from e4]at e1
  rename_i x z
  refine val (.v (.int .i64 (max x z))) (.int .i64 (max x z)) rfl h.symm fun cs=>?_
  rw [e1]
  simp only [builtin,Sem.run_bind]
  have:=run_max_int2 (P:=P) (w:=w) cl.argTypes o.type .i64 .i64 x z
  rw [this,show(if z>x then z else x)=max x z by omega]
  rfl
 ·obtain⟨u1,q,e1,e2,u2,q2,e3,e4,e5⟩:=ea
  rw [e3,show q2= []from e5,show u1=_ from e2,show u2=_ from e4]at e1
  rename_i x z
  refine val (.v (.int .i64 (min x z))) (.int .i64 (min x z)) rfl h.symm fun cs=>?_
  rw [e1]
  simp only [builtin,Sem.run_bind]
  have:=run_min_int2 (P:=P) (w:=w) cl.argTypes o.type .i64 .i64 x z
  rw [this,show(if z<x then z else x)=min x z by omega]
  rfl
 ·cases h
end
theorem PU:∀{ds r:List D} {off:Nat},(Es r off ds).length=r.length
 | [],_,_=>rfl
 | d::ds,r,off=>by unfold Es;rw [PU,List.length_set]
theorem ab5:∀{ds r:List D} {off:Nat},off+ds.length≤r.length→Es r off ds=r.take off++(ds++r.drop (off+ds.length))
 | [],r,off,_=>by simp [Es]
 | d::ds,r,off,h=>by
  simp only [List.length_cons]at h
  unfold Es
  rw [ab5 (by rw [List.length_set];omega)]
  have hlt:off<r.length:=by omega
  rw [List.set_eq_take_append_cons_drop,if_pos hlt]
  have h1:(r.take off).length=off:=by rw [List.length_take];omega
  have h2:(r.take off++d::r.drop (off+1)).take (off+1)=r.take off++ [d]:=by
   rw [List.take_append,h1,List.take_take,Nat.min_eq_right (by omega),show off+1-off=1 by omega];rfl
  have h3:(r.take off++d::r.drop (off+1)).drop (off+1+ds.length)=r.drop (off+(ds.length+1)):=by
   rw [List.drop_append,h1,List.drop_eq_nil_of_le (by rw [h1];omega),show off+1+ds.length-off=ds.length+1 by omega,List.drop_succ_cons,List.drop_drop,List.nil_append]
   congr 1;omega
  rw [h2,h3,List.append_assoc,List.length_cons]
  rfl
theorem Tv {k:Nat}{i:Nat}:∀{ds r:List D} {rows:List (List D)} {off:Nat},(∀r∈rows,r.length=k)→rows[i]?=some r→off+ds.length≤k→(rows.set i (Es r off ds)).flatten=Es rows.flatten (i*k+off) ds
 | [],r,rows,off,hu,hi,h=>by
  have e:=(Ab hi).1
  simp only [Es]
  rw [(Ab hi).2 r,←e]
 | d::ds,r,rows,off,hu,hi,h=>by
  simp only [List.length_cons]at h
  have hlt:=(List.getElem?_eq_some_iff.1 hi).1
  unfold Es
  have h1:=y8 rows i off r d hu hi (by omega)
  have hu2:∀r'∈rows.set i (r.set off d),r'.length=k:=fun r' hr'=>by
   rcases List.mem_or_eq_of_mem_set hr' with hr'|hr'
   ·exact hu r' hr'
   ·rw [hr',List.length_set];exact hu r (List.mem_of_getElem? hi)
  have h2:=Tv (i:=i) (ds:=ds) (r:=r.set off d) (rows:=rows.set i (r.set off d)) (off:=off+1) hu2 (by rw [List.getElem?_set_self hlt]) (by omega)
  rw [List.set_set]at h2
  rw [h2,h1];rfl
theorem aeS {α:Type}{l x:List α}{n N:Nat}(h:n+x.length≤N)(h2:N≤l.length):(l.take n++x++l.drop (n+x.length)).take N=(l.take N).take n++(x++(l.take N).drop (n+x.length)):=by
 have h1:(l.take n).length=n:=by rw [List.length_take];omega
 rw [List.append_assoc,List.take_append,h1,List.take_append,List.take_take,List.take_take,Nat.min_eq_right (show n≤N by omega),Nat.min_eq_left (show n≤N by omega),List.take_of_length_le (show x.length≤N-n by omega),List.drop_take]
 congr 3
 omega
section
variable {P:Program} {c:Ctx} {s:S} {y:Lay} {a:Act} {w:World}
theorem R6 {o:Oper}{t:TypeId}{x z:Operand}(ho:o.op= .store t x z){q i off k:Nat}{v:V}{ds:List D}{s1:S}{rows:List (List D)}{r:List D}(hx:s.ev x=some (.pe (.own q) k i off))(hv:s.ev z=some v)(hz:v.cells.length=P.cellsOf t)(hsz:eF P t=true)
  (hp:iK s v.cells=some (ds,s1)) (hl:look q s1.tree=some rows) (hr:rows[i]?=some r) (hk:r.length=k) (hle:off+ds.length≤r.length) (h1:v.cells.all V.one=true) (hn:¬(1000000000≤q∧q<2000000000)):
  Step P c o s ((s1.turned q (rows.set i (Es r off ds))).skip o.dst):=by
 intro a w G next Q kk
 obtain⟨y,A⟩:=G
 obtain⟨ub,⟨_,rfl⟩,g,o',n,cc,e1,e2,e3⟩:=A.ev hx
 have e1:(y.hd q).v= .slice (some ⟨g,o',none⟩) n cc:=e1
 obtain⟨ev,eo⟩:=A.cells (A.ev hv) h1
 have A0:At (c.with []) s y a w:=A
 obtain⟨E,a1,a2,a3⟩:=Df (vs:=v.cells) (us:=(a.eval z).cells.toList) A0 ev.len (fun j v' u' f1 f2=>by
  obtain⟨u2,f3,f4⟩:=ev.get f1
  rw [f2]at f3;injection f3 with f3;subst f3
  exact PV.of f4) hp
 rw [List.append_nil]at a1
 have lu:(a.eval z).cells.toList.length=ds.length:=by rw [ev.len,a3]
 have lsz:(a.eval z).cells.size=ds.length:=by rw [←Array.length_toList];exact lu
 have S0:St c.W w (qQ (y.hd q).v rows::(Ml (s1.kill q) y++(E++c.L))):=(At.out' (c:=c.with E) a1 hl).Bg
 rcases S0.split with⟨e,_⟩|⟨g2,ob,c2,k2,T,cs,us,k1,q2,k3,k4,k5,k6,k7,k8,k9,S⟩
 ·rw [e]at hr;simp at hr
 rw [e1]at q2
 injection q2 with q2 q3 q4
 injection q2 with q2;injection q2 with q2 q5 _
 subst q2;subst q5
 have hkk:k2=k:=by rw [←k6 r (List.mem_of_getElem? hr),hk]
 subst hkk
 have hfl:=jf rows k6
 have hil:i<rows.length:=(List.getElem?_eq_some_iff.1 hr).1
 have hg:w.heap[g]?=some (.cells cs T (0,0)):=S.MI List.mem_cons_self
 have hN:i*k2+off+ds.length≤rows.length*k2:=by
  have:=Nat.mul_le_mul_right k2 (show i+1≤rows.length by omega)
  rw [Nat.succ_mul]at this
  omega
 have hNc:o'+rows.length*k2≤cs.size:=by rw [k7];exact Nat.add_le_add_left (Nat.mul_le_mul_right _ k3) _
 have hrun:=uU (P:=P) (t:=t) (v:=a.eval z) (off:=o'+(i*k2+off)) (by rw [lsz,a3];exact hz) hsz hg (by rw [lsz];omega) eo
 have S2:=S.set (setRow_heap w g cs (cs.toList.take (o'+(i*k2+off))++(a.eval z).cells.toList++cs.toList.drop (o'+(i*k2+off)+(a.eval z).cells.size)).toArray T (0,0) hg) ⟨rfl,rfl,rfl,by simp,fun k _ hk=>setRow_other w g k _ (fun e=>hk (by rw [e]))⟩
 generalize hN0:i*k2+off=N at*
 have d1:rows.flatten=rows.flatten.take N++((rows.flatten.drop N).take ds.length++rows.flatten.drop (N+ds.length)):=by
  rw [←List.drop_drop,List.take_append_drop,List.take_append_drop]
 have d2:us=us.take N++((us.drop N).take ds.length++us.drop (N+ds.length)):=by
  rw [←List.drop_drop,List.take_append_drop,List.take_append_drop]
 have l1:(us.take N).length=(rows.flatten.take N).length:=by rw [List.length_take,List.length_take,k8]
 have l2:((us.drop N).take ds.length).length=((rows.flatten.drop N).take ds.length).length:=by rw [List.length_take,List.length_take,List.length_drop,List.length_drop,k8]
 rw [d1,d2,sH l1,sH l2]at S2
 have akn:∀(R:Pc) (X M B Y Z:List Pc),(R::((X++(M++B))++(Y++(E++Z)))).Perm (M++(R::((X++(E++B))++(Y++Z)))):=by
  intro R X M B Y Z
  have p1:((X++(M++B))++(Y++(E++Z))).Perm (M++((X++(E++B))++(Y++Z))):=by
   have q1:(X++(M++B)).Perm (M++(X++B)):=by
    rw [←List.append_assoc,←List.append_assoc];exact List.Perm.append_right _ List.perm_append_comm
   have q2:(Y++(E++Z)).Perm (E++(Y++Z)):=by
    rw [←List.append_assoc,←List.append_assoc];exact List.Perm.append_right _ List.perm_append_comm
   refine(List.Perm.append q1 q2).trans ?_
   rw [List.append_assoc M]
   refine List.Perm.append_left M ?_
   have e1:(X++B)++(E++(Y++Z))=X++((B++E)++(Y++Z)):=by simp only [List.append_assoc]
   have e2:(X++(E++B))++(Y++Z)=X++((E++B)++(Y++Z)):=by simp only [List.append_assoc]
   rw [e1,e2]
   exact List.Perm.append_left X (List.Perm.append_right _ List.perm_append_comm)
  refine(List.Perm.cons R p1).trans ?_
  exact List.perm_middle.symm
 have S3:=St.rU (S2.perm (akn _ _ _ _ _ _))
 have S4:=S3.perm (List.Perm.cons _ (List.Perm.append_right _ (List.Perm.append_left _ (List.Perm.append_right _ a2))))
 rw [←sH lu,←sH l1]at S4
 have xR:=Tv (i:=i) (ds:=ds) (off:=off) k6 hr (by rw [←hk];exact hle)
 rw [hN0]at xR
 have ahN:(rows.set i (Es r off ds)).flatten=rows.flatten.take N++(ds++rows.flatten.drop (N+ds.length)):=by
  rw [xR,ab5 (by rw [hfl];omega)]
 rw [←ahN]at S4
 have hall:∀r'∈rows.set i (Es r off ds),r'.length=k2:=fun r' hr'=>by
  rcases List.mem_or_eq_of_mem_set hr' with hr'|hr'
  ·exact k6 r' hr'
  ·rw [hr',PU];exact hk
 have S5:=S4.join (ob:=o') (cc:=c2) (k:=k2) (by
   rw [xR,PU,hfl,List.length_append,List.length_append,lu,List.length_take,List.length_drop,k8,hfl]
   omega) (by rw [List.length_set];exact k3) k4 k5 hall (by
   rw [List.size_toArray,List.length_append,List.length_append,List.length_take,List.length_drop,Array.length_toList,Array.length_toList,lsz,←k7];omega)
  (fun e=>absurd e fun e=>k1 (List.eq_nil_of_length_eq_zero (by have:=congrArg List.length e;simpa using this))) (by
   rw [List.length_set,←k9]
   have:=aeS (l:=cs.toList.drop o') (x:=(a.eval z).cells.toList) (n:=N) (N:=rows.length*k2) (by rw [lu];exact hN) (by rw [List.length_drop,Array.length_toList];exact Nat.le_sub_of_add_le (by rw [Nat.add_comm];exact hNc))
   rw [lu]at this
   rw [lsz,Tt (by rw [Array.length_toList];omega),←this,List.drop_drop,Nat.add_assoc])
 rw [List.length_set,←q3,←q4,←e1]at S5
 obtain⟨h',_,A'⟩:=At.turned' (c:=c.with E) a1 hl (by unfold aU;exact hn) (L':=c.L) c.hK S5
 have A'':At c (s1.turned q (rows.set i (Es r off ds))) {y with hd:=dR y.hd q h'} a _:=A'
 refine I9 ?_ (kk _ _ ⟨_,A''.skip undef⟩)
 unfold execOp;simp only [ho,e3]
 rw [Sem.run_bind,hrun];rfl
theorem ab6 {fs:Nat→List Nat}:∀{l:List Nat},(l.flatMap fs).Nodup→∀a∈l,(fs a).Nodup
 | [],_,a,h=>by cases h
 | c::l,n,a,h=>by
  rw [List.flatMap_cons,List.nodup_append]at n
  rcases List.mem_cons.1 h with h|h
  ·rw [h];exact n.1
  ·exact ab6 n.2.1 a h
theorem Tw {fs:Nat→List Nat}:∀{l:List Nat},(l.flatMap fs).Nodup→∀a∈l,∀b∈l,a≠b→∀x∈fs a,x∉fs b
 | [],_,a,h=>by cases h
 | c::l,n,a,h=>by
  rw [List.flatMap_cons,List.nodup_append]at n
  intro b hb hne x hx hx2
  rcases List.mem_cons.1 h with h3|h3
  ·rcases List.mem_cons.1 hb with h4|h4
   ·exact hne (h3.trans h4.symm)
   ·rw [h3]at hx;exact n.2.2 x hx x (List.mem_flatMap.2 ⟨b,h4,hx2⟩) rfl
  ·rcases List.mem_cons.1 hb with h4|h4
   ·rw [h4]at hx2;exact n.2.2 x hx2 x (List.mem_flatMap.2 ⟨a,h3,hx⟩) rfl
   ·exact Tw n.2.1 a h3 b h4 hne x hx hx2
theorem kL.aeT {w w':World}{rows:List (List D)}{h:Hd}{F:List Nat}(t:kL w rows h F)(hF:F.Nodup){i j:Nat}{r:List D}{rs rs':List (List D)}(hi:rows[i]?=some r)(hj:r[j]?=some (.l rs)){g o1:Nat}{n c:Nat}(hu:h.cv (i*r.length+j)= .slice (some ⟨g,o1,none⟩) n c)
  (hin:∀F',F'.Nodup→pG w (.l rs) (.slice (some ⟨g,o1,none⟩) n c) F'→pG w' (.l rs') (.slice (some ⟨g,o1,none⟩) n c) F') (hne:rs≠ []) (ho:∀b∈F,b≠g→w'.heap[b]?=w.heap[b]?):kL w' (rows.set i (r.set j (.l rs'))) h F:=by
 have o:=t.own
 have hd:=t.hd
 cases hv:h.v with
 | slice A n2 c2=>
  rw [hv]at o hd
  cases o with
  | nil=>simp at hi
  | l _ _ _ gp ob k T cs us fs h1 h2 h3 h4 h5 h6 h0 h7 h8 h9=>
   have hk:r.length=k:=h5 r (List.mem_of_getElem? hi)
   have hjk:j<k:=by rw [←hk];exact(List.getElem?_eq_some_iff.1 hj).1
   have f:=flat_get rows i j r _ h5 hi hj
   have hm:=(List.getElem?_eq_some_iff.1 f).1
   have e:=hd gp ob n2 c2 cs T (0,0) _ rs rfl h7 f
   have e0:=h8 _ _ f
   rw [e0]at e
   injection e with e
   rw [hk]at hu
   rw [hu]at e
   have oi:=h9 _ _ f
   rw [e]at oi
   have nd:=List.nodup_cons.1 hF
   have hmr:i*k+j∈List.range rows.flatten.length:=List.mem_range.2 hm
   have oi2:=hin _ (ab6 nd.2 _ hmr) oi
   have hgF:g∈fs (i*k+j):=by
    generalize fs (i*k+j)=F0 at oi
    cases oi with
    | nil=>exact absurd rfl hne
    | l=>exact List.mem_cons_self
   have hgp:gp≠g:=fun e2=>nd.1 (by rw [e2];exact List.mem_flatMap.2 ⟨_,hmr,hgF⟩)
   have aeU:w'.heap[gp]?=some (.cells cs T (0,0)):=(ho gp List.mem_cons_self hgp).trans h7
   have xR:=y8 rows i j r (.l rs') h5 hi hjk
   have hlen:(rows.set i (r.set j (.l rs'))).flatten.length=rows.flatten.length:=by rw [xR,List.length_set]
   have hall:∀r'∈rows.set i (r.set j (.l rs')),r'.length=k:=fun r' hr'=>by
    rcases List.mem_or_eq_of_mem_set hr' with hr'|hr'
    ·exact h5 r' hr'
    ·rw [hr',List.length_set];exact hk
   have get:∀(m:Nat) (d:D),(rows.set i (r.set j (.l rs'))).flatten[m]?=some d→(m=i*k+j∧d= .l rs')∨(m≠i*k+j∧rows.flatten[m]?=some d):=by
    intro m d e3
    rw [xR,List.getElem?_set]at e3
    by_cases hmm:i*k+j=m
    ·rw [if_pos hmm,if_pos hm]at e3
     injection e3 with e3;exact .inl ⟨hmm.symm,e3.symm⟩
    ·rw [if_neg hmm]at e3;exact .inr ⟨fun h=>hmm h.symm,e3⟩
   refine⟨?_,fun g' ob' n' c' cs' T' fr m r' q1 q2 q3=>?_⟩
   ·rw [hv,←hlen]
    refine .l _ n2 c2 gp ob k T cs us fs (by rw [List.length_set];exact h1) h2 h3 h4 hall h6 (fun e=>h0 (List.eq_nil_of_length_eq_zero (by have:=congrArg List.length e;simpa using this))) aeU (fun m d e3=>?_) (fun m d e3=>?_)
    ·rcases get m d e3 with⟨rfl,rfl⟩|⟨_,e4⟩
     ·exact e0
     ·exact h8 m d e4
    ·rcases get m d e3 with⟨rfl,rfl⟩|⟨hne,e4⟩
     ·rw [e];exact oi2
     ·have agw:m∈List.range rows.flatten.length:=List.mem_range.2 (List.getElem?_eq_some_iff.1 e4).1
      exact(h9 m d e4).st fun b hb=>ho b (List.mem_cons_of_mem _ (List.mem_flatMap.2 ⟨m,agw,hb⟩)) fun e5=>by
       subst e5
       exact Tw nd.2 m agw (i*k+j) hmr hne b hb hgF
   ·rw [hv]at q1
    injection q1 with q1 _ _;injection q1 with q1;injection q1 with q1 qo _
    subst q1;subst qo
    rw [aeU]at q2;injection q2 with q2;injection q2 with q2 _ _
    subst q2
    rcases get m _ q3 with⟨rfl,_⟩|⟨_,e4⟩
    ·exact hd gp ob n2 c2 cs T (0,0) _ rs rfl h7 f
    ·exact hd gp ob n2 c2 cs T (0,0) m r' rfl h7 e4
 | _=>rw [hv]at o;cases o
theorem R7 {o:Oper}{t:TypeId}{x z:Operand}(ho:o.op= .store t x z){p i j k k' i' off:Nat}{v:V}{d d0:D}{rows rs:List (List D)}{r r':List D}(hx:s.ev x=some (.pe (.inn p i j k) k' i' off))(hv:s.ev z=some v)(hz:v.cells.length=P.cellsOf t)(hsz:eF P t=true)
  (hl:look p s.tree=some rows) (hat:v.atom=some d) (hr:rows[i]?=some r) (hrj:r[j]?=some (.l rs)) (hr':rs[i']?=some r') (hd0:r'[off]?=some d0) (hk:r.length=k) (hk':r'.length=k') (hf:sF d0=true) (h1:A9 d=true):
  Step P c o s ({s with tree:=upd p (rows.set i (r.set j (.l (rs.set i' (r'.set off d))))) s.tree}.skip o.dst):=by
 intro a w G next Q kk
 obtain⟨y,A⟩:=G
 obtain⟨X,rfl,rfl⟩:=Tn hat
 obtain⟨ub,⟨azq,hub,azr⟩,g,o',n,cc,e1,e2,e3⟩:=A.ev hx
 have ez:a.eval z=X:=A.ev hv
 have hX:X.oneCell'=true:=h1
 cases d0 with
 | l _=>cases hf
 | gone=>cases hf
 | a x0=>
 obtain⟨F,Ld,hnd,hbd,rest⟩:=(A.out hl).open_
 have Ld:kL w rows (y.hd p) F:=Ld
 have hub:ub=(y.hd p).cv (i*k+j):=hub
 obtain⟨F',oin,hF'⟩:=Ld.inner hr hrj
 rw [hk,←hub,e1]at oin
 obtain⟨T,cs,hh,hlt,hput⟩:=pG.put oin hr' hd0 (u:=X) rfl
 rw [hk']at hlt hput
 have hXc:=PE hX
 have hrun:=uU (P:=P) (t:=t) (v:=X) (off:=o'+(i'*k'+off)) (by rw [hXc];exact hz) hsz hh (by rw [hXc];exact hlt) (by rw [hXc];simpa using hX)
 have ahM:(cs.toList.take (o'+(i'*k'+off))++X.cells.toList++cs.toList.drop (o'+(i'*k'+off)+X.cells.size)).toArray=cs.setIfInBounds (o'+(i'*k'+off)) X:=by
  rw [hXc]
  apply Array.ext'
  rw [Array.toList_setIfInBounds,List.set_eq_take_append_cons_drop,if_pos (by simpa using hlt)]
  simp
 rw [ahM]at hrun
 have hset:=setRow_heap w g cs (cs.setIfInBounds (o'+(i'*k'+off)) X) T (0,0) hh
 have hoth:∀b,b≠g→(w.setRow g (cs.setIfInBounds (o'+(i'*k'+off)) X)).heap[b]?=w.heap[b]?:=fun b hb=>setRow_other w g b _ hb
 have hgF:g∈F:=hF' g (by
  cases oin with
  | nil=>simp at hr'
  | l=>exact List.mem_cons_self)
 have A2:=A.ahL hl (rest (w.setRow g (cs.setIfInBounds (o'+(i'*k'+off)) X)) (gD (y.hd p) (rows.set i (r.set j (.l (rs.set i' (r'.set off (.a X))))))) F rfl rfl rfl (by simp) (fun b hb hne=>hoth b fun e=>hne (by rw [e];exact hgF))
  (kL.aeT Ld hnd hr hrj (by rw [hk,←hub,e1]) (fun F2 n2 o2=>by
   obtain⟨T2,cs2,hh2,_,ahq⟩:=pG.put o2 hr' hd0 (u:=X) rfl
   rw [hh]at hh2;injection hh2 with hh2;injection hh2 with q1 q2 _
   subst q1;subst q2
   rw [hk']at ahq
   exact ahq _ hset (fun b _ hb=>hoth b hb) n2) (by intro e;rw [e]at hr';simp at hr') fun b _ hb=>hoth b hb) hnd (fun b hb=>⟨.inl hb,by have:=(hbd b hb).2;simpa using this⟩))
 refine I9 ?_ (kk _ _ ⟨_,A2.skip undef⟩)
 unfold execOp;simp only [ho,e3,ez]
 rw [Sem.run_bind,hrun];rfl
end
section
variable {P:Program} {c:Ctx} {s:S} {y:Lay} {a:Act} {w:World}
theorem ac0 {v:V}{d:D}{u:Value}(h:zT v=some d)(hv:∀ρ:Rel,RV ρ v u)(w:World):pG w d u []:=by
 have hv:=hv ⟨fun _ _=>False,fun _ _=>False,fun _=>undef,fun _=>0,fun _=>qR,fun _=>False,fun _=>False⟩
 cases v<;>simp only [zT]at h<;>try (cases h;done)
 ·injection h with h;subst h;rw [show u=_ from hv];exact .a _
 ·injection h with h;subst h;rw [show u=_ from hv];exact .nil none _
theorem jk.get' {cs:List V}{us:List Value}(h:∀ρ:Rel,jk ρ cs us){i:Nat}{v:V}(e:cs[i]?=some v):∃u,us[i]?=some u∧∀ρ:Rel,RV ρ v u:=by
 have h0:=h ⟨fun _ _=>False,fun _ _=>False,fun _=>undef,fun _=>0,fun _=>qR,fun _=>False,fun _=>False⟩
 obtain⟨u,e1,_⟩:=h0.get e
 refine⟨u,e1,fun ρ=>?_⟩
 obtain⟨u2,e2,h2⟩:=(h ρ).get e
 rw [e1]at e2;injection e2 with e2;rw [e2];exact h2
theorem GN {α:Type}(r:List α):∀(n m:Nat) (d:α),(List.replicate n r).flatten[m]?=some d→r[m%r.length]?=some d
 | 0,m,d,h=>by simp at h
 | n+1,m,d,h=>by
  rw [List.replicate_succ,List.flatten_cons]at h
  by_cases hm:m<r.length
  ·rw [List.getElem?_append_left hm]at h;rw [Nat.mod_eq_of_lt hm];exact h
  ·rw [List.getElem?_append_right (by omega)]at h
   have:=GN r n (m-r.length) d h
   rw [Nat.mod_eq_sub_mod (by omega)];exact this
theorem ac1 {o:Oper}{t:TypeId}{xn xc:Operand}(ho:o.op= .makeSlice t xn xc)(hd':fM c.n o.dst=true){vn vc:V}{s':S}(hn:s.ev xn=some vn)(hc:s.ev xc=some vc)(h:Pj P s o.dst t vn vc=some s'):Step P c o s s':=by
 intro a w G next Q k
 obtain⟨y,A⟩:=G
 unfold Pj at h
 obtain⟨d,hu,h⟩:=aj h
 obtain⟨e,he,h⟩:=aj h
 obtain⟨l,h1,h⟩:=aj h
 obtain⟨cc,h2,h⟩:=aj h
 obtain⟨⟨h3,h4,h5,h6,h7⟩,h⟩:=aB h
 obtain⟨z,h8,h⟩:=aj h
 obtain⟨r,h9,hfin⟩:=aj h
 clear h
 subst h5
 have hdd:d= .slice e:=by unfold iN at he;split at he<;>first|(injection he with he;subst he;rfl)|cases he
 rw [hdd]at hu
 obtain⟨k1,rfl⟩:=yc h1
 obtain⟨k2,rfl⟩:=yc h2
 have en:a.eval xn= .int k1 l:=A.ev hn
 have ec:a.eval xc= .int k2 l:=A.ev hc
 obtain⟨i,z0,z1,z2,z3,z4,z5⟩:=GK h3
 obtain⟨i',z',y1,y2,y3⟩:=GA h8
 rw [z1]at y1;injection y1 with y1;subst y1
 rw [z2]at y2;injection y2 with y2;subst y2
 have hb:(i.bytes:Int)*l≤281474976710656:=by
  unfold Program.bytesOf at h6
  rw [z1]at h6
  have h6:l.toNat*i.bytes≤140737488355328:=h6
  have:((l.toNat*i.bytes:Nat):Int)≤((140737488355328:Nat):Int):=Int.ofNat_le.2 h6
  rw [Int.natCast_mul,Int.toNat_of_nonneg h4,Int.mul_comm]at this
  omega
 have hrun:=run_make (P:=P) w t e i z0 hu z1 z2 k1 k2 l l h4 (Int.le_refl _) hb (by omega)
 obtain⟨m1,m2⟩:=NC h9
 have hzl:=(y3 (aX c s y)).len
 rw [Array.length_toList]at hzl
 have hrl:r.length=i.size:=by rw [m1,←hzl,z3]
 have own:pG (w.alloc (.cells (madeCells z0.cells (l.toNat*i.size)) e)) (.l (List.replicate l.toNat r)) (.slice (some ⟨w.heap.size,0,none⟩) l.toNat l.toNat) [w.heap.size]:=by
  have:=pG.l (w:=w.alloc (.cells (madeCells z0.cells (l.toNat*i.size)) e)) (List.replicate l.toNat r) l.toNat l.toNat w.heap.size 0 i.size e (madeCells z0.cells (l.toNat*i.size)) (fun m=>(madeCells z0.cells (l.toNat*i.size))[m]?.getD undef) (fun _=> []) List.length_replicate (Nat.le_refl _) (by unfold maxLen;omega) z4 (fun r' hr'=>by rw [List.eq_of_mem_replicate hr',hrl]) (by rw [Nat.zero_add];exact size_madeCells _ _) (fun e0=>by
    have:=congrArg List.length e0;simpa using this) (OY w _) (fun m d e1=>?_) (fun m d e1=>?_)
  ·have e9:∀n:Nat,(List.range n).flatMap (fun _=>([]:List Nat))= []:=fun n=>by induction n<;>simp_all [List.range_succ]
   rw [e9]at this;exact this
  ·have hm:m<l.toNat*i.size:=by
    have:=(List.getElem?_eq_some_iff.1 e1).1
    rw [jf (k:=i.size) _ (fun r' hr'=>by rw [List.eq_of_mem_replicate hr',hrl]),List.length_replicate]at this;exact this
   rw [Nat.zero_add,Array.getElem?_eq_getElem (by rw [size_madeCells];exact hm)];rfl
  ·have hm:m<l.toNat*i.size:=by
    have:=(List.getElem?_eq_some_iff.1 e1).1
    rw [jf (k:=i.size) _ (fun r' hr'=>by rw [List.eq_of_mem_replicate hr',hrl]),List.length_replicate]at this;exact this
   have f:=GN r _ _ _ e1
   rw [hrl]at f
   have hmod:m%i.size<i.size:=Nat.mod_lt _ z4
   have hzi:m%i.size<z.length:=by rw [←hzl,z3];exact hmod
   obtain⟨d2,f2,f3⟩:=m2 (m%i.size) _ (List.getElem?_eq_getElem hzi)
   rw [f]at f2;injection f2 with f2;subst f2
   obtain⟨u,g1,g2⟩:=jk.get' y3 (List.getElem?_eq_getElem hzi)
   have:(madeCells z0.cells (l.toNat*i.size))[m]?.getD undef=u:=by
    have hs:m%z0.cells.size<z0.cells.size:=by rw [z3];exact hmod
    have g1':z0.cells[m%z0.cells.size]=u:=by
     have:z0.cells.toList[m%i.size]?=some u:=g1
     rw [Array.getElem?_toList]at this
     have:=(Array.getElem?_eq_some_iff.1 this).2
     simpa [z3] using this
    unfold madeCells
    simp only [Array.getElem?_map,Array.getElem?_range,hm,if_true,Option.map_some,Option.getD_some]
    rw [getElem!_pos z0.cells _ hs]
    exact g1'
   rw [this]
   exact ac0 f3 g2 _
 have S:=A.qw.more (Ext.alloc (Ext.refl w) (.cells (madeCells z0.cells (l.toNat*i.size)) e)) (h:=qQ (.slice (some ⟨w.heap.size,0,none⟩) l.toNat l.toNat) (List.replicate l.toNat r)) (F:= [w.heap.size]) own (by simp) (fun b hb=>by simp at hb;subst hb;simp)
 have A0:At (c.with []) s y a w:=A
 obtain⟨y',A'⟩:=pI A0 hd' hfin S
 refine qD (u:= .slice (some ⟨w.heap.size,0,none⟩) l.toNat l.toNat) (w':=w.alloc (.cells (madeCells z0.cells (l.toNat*i.size)) e)) ?_ (k _ _ ⟨y',A'⟩)
 unfold execOp;simp only [ho,en,ec,Sem.run_bind,hrun];rfl
end
theorem St.Xn {W w:World}{rows:List (List D)}{u:Value}{h:Nat}{L:List Pc}(S:St W w (qQ u rows::L))(h0:0<h)(hh:h≤rows.length):
  ∃g ob c,u= .slice (some ⟨g,ob,none⟩) rows.length c∧rows.length≤c∧c≤maxLen∧St W w (qQ (.slice (some ⟨g,ob,none⟩) h c) (rows.take h)::L):=by
 rcases S.split with⟨e,_⟩|⟨g,ob,c,k,T,cs,us,k1,k2,k3,k4,k5,k6,k7,k8,k9,S1⟩
 ·rw [e]at hh;simp at hh;omega
 ·refine⟨g,ob,c,k2,k3,k4,?_⟩
  have hfl:=jf rows k6
  have ht:∀r∈rows.take h,r.length=k:=fun r hr=>k6 r (List.mem_of_mem_take hr)
  have hft:=jf (rows.take h) ht
  have hlt:(rows.take h).length=h:=by rw [List.length_take];omega
  have hle:h*k≤us.length:=by rw [k8,hfl];exact Nat.mul_le_mul_right _ hh
  have e1:rows.flatten=(rows.take h).flatten++(rows.drop h).flatten:=by rw [←List.flatten_append,List.take_append_drop]
  have hu1:(us.take (h*k)).length=(rows.take h).flatten.length:=by rw [List.length_take,hft,hlt];omega
  have e2:qw rows.flatten us=qw (rows.take h).flatten (us.take (h*k))++qw (rows.drop h).flatten (us.drop (h*k)):=by
   rw [←sH hu1,←e1,List.take_append_drop]
  rw [e2]at S1
  have S2:St W w (rowP g T cs::(qw (rows.take h).flatten (us.take (h*k))++L)):=by
   refine St.rU (L1:=qw (rows.drop h).flatten (us.drop (h*k))) (S1.perm ?_)
   rw [List.append_assoc]
   have p1:(rowP g T cs::(qw (rows.take h).flatten (us.take (h*k))++(qw (rows.drop h).flatten (us.drop (h*k))++L))).Perm (rowP g T cs::(qw (rows.drop h).flatten (us.drop (h*k))++(qw (rows.take h).flatten (us.take (h*k))++L))):=by
    refine List.Perm.cons _ ?_
    rw [←List.append_assoc,←List.append_assoc]
    exact List.Perm.append_right _ List.perm_append_comm
   exact p1.trans List.perm_middle.symm
  have S3:=S2.join (cc:=c) (k:=k) hu1 (by rw [hlt];omega) k4 k5 ht k7 (fun e=>by rw [e]at hlt;simp at hlt;omega) (by
   rw [hlt,←k9,List.take_take]
   congr 1
   have:=Nat.mul_le_mul_right k hh
   omega)
  rw [hlt]at S3
  exact S3
theorem St.agx {W w:World}{rows:List (List D)}{u:Value}{lo kk:Nat}{L:List Pc}(S:St W w (qQ u rows::L))(hl:lo<rows.length)(hw:wid kk rows=true):
  ∃g ob c,u= .slice (some ⟨g,ob,none⟩) rows.length c∧rows.length≤c∧c≤maxLen∧St W w (qQ (.slice (some ⟨g,ob+lo*kk,none⟩) (rows.length-lo) (c-lo)) (rows.drop lo)::L):=by
 rcases S.split with⟨e,_⟩|⟨g,ob,c,k,T,cs,us,k1,k2,k3,k4,k5,k6,k7,k8,k9,S1⟩
 ·rw [e]at hl;simp at hl
 ·obtain rfl:k=kk:=by
   obtain⟨r,l,e⟩:=List.exists_cons_of_ne_nil k1
   have hr:r∈rows:=by rw [e];simp
   rw [←k6 r hr,rV hw r hr]
  refine⟨g,ob,c,k2,k3,k4,?_⟩
  have hfl:=jf rows k6
  have ht:∀r∈rows.drop lo,r.length=k:=fun r hr=>k6 r (List.mem_of_mem_drop hr)
  have hft:=jf (rows.drop lo) ht
  have hlt:(rows.drop lo).length=rows.length-lo:=List.length_drop
  have hta:=jf (rows.take lo) (fun r hr=>k6 r (List.mem_of_mem_take hr))
  have hlq:(rows.take lo).length=lo:=by rw [List.length_take];omega
  have hle:lo*k≤us.length:=by rw [k8,hfl];exact Nat.mul_le_mul_right _ (Nat.le_of_lt hl)
  have e1:rows.flatten=(rows.take lo).flatten++(rows.drop lo).flatten:=by rw [←List.flatten_append,List.take_append_drop]
  have hu1:(us.take (lo*k)).length=(rows.take lo).flatten.length:=by rw [List.length_take,hta,hlq];omega
  have e2:qw rows.flatten us=qw (rows.take lo).flatten (us.take (lo*k))++qw (rows.drop lo).flatten (us.drop (lo*k)):=by
   rw [←sH hu1,←e1,List.take_append_drop]
  rw [e2]at S1
  have S2:St W w (rowP g T cs::(qw (rows.drop lo).flatten (us.drop (lo*k))++L)):=by
   refine St.rU (L1:=qw (rows.take lo).flatten (us.take (lo*k))) (S1.perm ?_)
   rw [List.append_assoc]
   exact List.perm_middle.symm
  have hm:lo*k+(rows.length-lo)*k=rows.length*k:=by rw [←Nat.add_mul];congr 1;omega
  have hm2:lo*k+(c-lo)*k=c*k:=by rw [←Nat.add_mul];congr 1;omega
  have S3:=S2.join (ob:=ob+lo*k) (cc:=c-lo) (k:=k) (by rw [hft,hlt,List.length_drop,k8,hfl];omega) (by rw [hlt];omega) (by omega) k5 ht (by rw [k7];omega) (fun e=>by rw [e]at hlt;simp at hlt;omega) (by
   rw [hlt,←k9,List.drop_take,List.drop_drop]
   congr 1
   omega)
  rw [hlt]at S3
  exact S3
theorem St.ahO {W w:World}{rows:List (List D)}{u:Value}{lo h kk:Nat}{L:List Pc}(S:St W w (qQ u rows::L))(hl:lo<h)(hh:h≤rows.length)(hw:wid kk rows=true):
  ∃g ob c,u= .slice (some ⟨g,ob,none⟩) rows.length c∧rows.length≤c∧c≤maxLen∧St W w (qQ (.slice (some ⟨g,ob+lo*kk,none⟩) (h-lo) (c-lo)) ((rows.drop lo).take (h-lo))::L):=by
 obtain⟨g,ob,c,k1,k2,k3,S1⟩:=S.agx (lo:=lo) (by omega) hw
 obtain⟨g',ob',c',m1,m2,m3,S2⟩:=S1.Xn (h:=h-lo) (by omega) (by rw [List.length_drop];omega)
 injection m1 with m1 m4 m5
 injection m1 with m1;injection m1 with m1 m6 _
 subst m1;subst m6;subst m5
 exact⟨g,ob,c,k1,k2,k3,S2⟩
section
variable {P:Program} {c:Ctx} {s:S}
theorem aeV {o:Oper}{t:TypeId}{x:Operand}{lo hi:Option Operand}{s':S}{p:Nat}{rows:List (List D)}(ho:o.op= .slice t x lo hi none)(hd':fM c.n o.dst=true){vl vh:Option V}{d:TypeDesc}(hx:s.ev x=some (.own p))(hlo:kC s lo=some vl)(hhi:kC s hi=some vh)(hu:P.underlying t=some d)
  (hl:look p s.tree=some rows) (h:aek P s o.dst p rows vl vh d=some s'):Step P c o s s':=by
 intro a w G next Q kk
 obtain⟨y,A⟩:=G
 unfold aek at h
 split at h
 ·rename_i e
  obtain⟨hz,h2⟩:=aB h
  unfold UN at h2
  obtain⟨q,hq,h3⟩:=aj h2
  have ex:RV (aX c s y) (.own p) (a.eval x):=A.ev hx
  have exv:a.eval x=(y.hd p).v:=ex.2
  by_cases q1:q.1<q.2
  ·rw [if_pos q1]at h3
   obtain⟨hw,h4⟩:=aB h3
   have hq2:q.2≤rows.length:=by
    unfold bounds at hq
    obtain⟨l0,_,hq⟩:=aj hq
    obtain⟨h0,_,hq⟩:=aj hq
    obtain⟨⟨b1,b2,b3⟩,hq⟩:=aB hq
    injection hq with hq;subst hq
    show h0.toNat≤rows.length
    omega
   obtain⟨g,ob,cc,k1,k2,k3,S1⟩:=(A.out' hl).Bg.ahO q1 hq2 hw
   obtain⟨y',A'⟩:=pI (A.take hl) hd' h4 S1
   refine qD (u:= .slice (some ⟨g,ob+q.1*P.cellsOf e,none⟩) (q.2-q.1) (cc-q.1)) ?_ (kk _ _ ⟨y',A'⟩)
   obtain⟨b1,b2,hb⟩:=wR (P:=P) A hlo hhi hq k2 true
   have hne:¬cc=q.1:=by omega
   unfold execOp
   simp only [ho,exv,k1]
   simp [Instr.sliceAt,Instr.slice,run_underlying hu,hb,kW hz,hne,Addr.add]
  ·rw [if_neg q1]at h3
   injection h3 with h3;subst h3
   obtain⟨F,o⟩:=A.Db hl
   obtain⟨A',c',e1,e2,e3,e4⟩:=(o.own.rd (G:=jT w) fun _ _ _ e=>e).len
   obtain⟨b1,b2,hb⟩:=wR (P:=P) A hlo hhi hq e2 true
   refine qD (u:= .slice (if c'=q.1 then A' else A'.map (·.add (q.1*P.cellsOf e))) (q.2-q.1) (c'-q.1)) ?_ (kk _ _ ⟨y,A.value (v:= .aP none []) ?_ hd'⟩)
   ·unfold execOp
    simp only [ho,exv,e1]
    simp [Instr.sliceAt,Instr.slice,run_underlying hu,hb,kW hz]
   ·refine⟨?_,fun j h=>by cases h⟩
    rw [show q.2-q.1=0 by omega]
    refine .nil _ _ (by omega) fun hn=>?_
    by_cases hc:c'=q.1
    ·omega
    ·rw [if_neg hc]at hn
     cases A' with
     | none=>have:=e4 rfl;omega
     | some a=>cases hn
 ·cases h
theorem Xo {o:Oper}{t:TypeId}{x:Operand}{lo hi:Option Operand}{s':S}(ho:o.op= .slice t x lo hi none)(hd':fM c.n o.dst=true){vx:V}{vl vh:Option V}{d:TypeDesc}(hx:s.ev x=some vx)(hlo:kC s lo=some vl)(hhi:kC s hi=some vh)(hu:P.underlying t=some d)
  (h:C8 P s o.dst vx vl vh d=some s'):Step P c o s s':=by
 have plain:∀v,(bnd (qX P s v vl vh d) fun v=>some (s.put o.dst v))=some s'→v=vx→Step P c o s s':=fun v h7 e=>by
  obtain⟨r,h1,h8⟩:=aj h7
  injection h8 with h8;subst h8
  rw [e]at h1
  exact ZK ho hd' hx hlo hhi hu h1
 unfold C8 at h
 split at h
 ·rename_i p
  cases hf:look p s.dG with
  | some r=>rw [hf]at h;exact plain _ h rfl
  | none=>
   rw [hf]at h
   simp only [ZE]at h
   cases ht:look p s.tree with
   | none=>rw [ht]at h;exact plain _ h rfl
   | some rows=>rw [ht]at h;exact aeV ho hd' hx hlo hhi hu ht h
 ·exact plain _ h rfl
end
end Go.Proofs.YtlpdjhiggpblcaaGreat
