/- Part 5 of a proof in several texts (an abstract evaluator, what the functions compute). -/
import Derived.Test.YtlpdjhiggpblcaaGreatPkFnEdOk4
import Derived.Carry
import Derived.MapKept
import Derived.LoopN
import Derived.Orders
namespace Go.Proofs.YtlpdjhiggpblcaaGreat
set_option linter.unusedSectionVars false
set_option linter.unusedSimpArgs false
set_option linter.unusedVariables false
open Go.RowKit
theorem ac2 {d:TypeDesc}(h:intD d=true):d= .int .i64:=by
 unfold intD at h;split at h
 ·rfl
 ·cases h
theorem ac3 {d:TypeDesc}{x:TypeId×TypeId}(h:mapD d=some x):d= .map x.1 x.2:=by
 unfold mapD at h;split at h
 ·injection h with h;subst h;rfl
 ·cases h
theorem ZQ {v:Value}{n:Int}(h:ael v=some n):v= .int .i64 n:=by
 unfold ael at h;split at h
 ·injection h with h;subst h;rfl
 ·cases h
theorem Tx {P:Program}{t:TypeId}{z:Int}(h:OB P t=some z):∃k e,P.underlying t=some (.map k e)∧P.underlying k=some (.int .i64)∧∀w,(zeroValue e).run P w= .ok (.int .i64 z) w:=by
 unfold OB at h
 obtain⟨d,h1,h⟩:=aj h
 obtain⟨x,h2,h⟩:=aj h
 obtain⟨k,h3,h⟩:=aj h
 obtain⟨h4,h⟩:=aB h
 obtain⟨i,h5,h⟩:=aj h
 obtain⟨v,h6,h⟩:=aj h
 rw [ac3 h2]at h1
 rw [ac2 h4]at h3
 rw [ZQ h]at h6
 exact⟨x.1,x.2,h1,h3,fun w=>by simp [zeroValue,typeInfo,h5,h6]⟩
theorem ac4 {v:V}{es:List (Int×Int)}(h:acF v=some es):v= .mp es:=by
 unfold acF at h;split at h
 ·injection h with h;subst h;rfl
 ·cases h
theorem ZR {v:V}{n:Int}(h:Tc v=some n):v= .v (.int .i64 n):=by
 unfold Tc at h;split at h
 ·injection h with h;subst h;rfl
 ·cases h
theorem MP {k:Int}:∀{es:List (Int×Int)} {l:List MapEntry} (i:Nat),l.map (fun e=>(e.key,e.val))=(es.map fun p=>(Value.int .i64 p.1,Value.int .i64 p.2))→rT k es=none→Instr.findNow (.int .i64) (.int .i64 k) l i=some none
 | [],[],i,_,_=>rfl
 | [],_::_,i,h,_=>by simp at h
 | _::_,[],i,h,_=>by simp at h
 | (j,x)::es,e::l,i,h,hl=>by
  simp only [List.map_cons,List.cons.injEq,Prod.mk.injEq]at h
  unfold rT at hl
  split at hl
  ·cases hl
  ·rename_i hne
   unfold Instr.findNow
   rw [h.1.1]
   have:Instr.sameNow (.int .i64) (.int .i64 k) (.int .i64 j)=some false:=by simp [Instr.sameNow,hne]
   rw [this]
   exact MP (i+1) h.2 hl
theorem Tz {k v:Int}:∀{es:List (Int×Int)} {l:List MapEntry} (i:Nat),l.map (fun e=>(e.key,e.val))=(es.map fun p=>(Value.int .i64 p.1,Value.int .i64 p.2))→rT k es=some v→∃j,Instr.findNow (.int .i64) (.int .i64 k) l i=some (some (j, .int .i64 v))
 | [],l,i,_,h=>by cases h
 | _::_,[],i,h,_=>by simp at h
 | (j,x)::es,e::l,i,h,hl=>by
  simp only [List.map_cons,List.cons.injEq,Prod.mk.injEq]at h
  unfold rT at hl
  unfold Instr.findNow
  rw [h.1.1]
  split at hl
  ·rename_i he
   injection hl with hl;subst hl;subst he
   have:Instr.sameNow (.int .i64) (.int .i64 k) (.int .i64 k)=some true:=by simp [Instr.sameNow]
   rw [this,h.1.2]
   exact⟨i,rfl⟩
  ·rename_i hne
   have:Instr.sameNow (.int .i64) (.int .i64 k) (.int .i64 j)=some false:=by simp [Instr.sameNow,hne]
   rw [this]
   exact Tz (i+1) h.2 hl
theorem aeW {P:Program}{t:TypeId}{z:Int}(ht:OB P t=some z){w:World}{b:Nat}{ents:Array MapEntry}{clock:Nat}{es:List (Int×Int)}(hb:w.heap[b]?=some (.map ents clock))(hm:UZ es ents)(n:Int):
  ∃x ok,(Instr.lookup t (.map (some b)) (.int .i64 n) true).run P w= .ok (.tuple #[.int .i64 x, .bool ok]) w∧Mw z (rT n es)= .fK [.v (.int .i64 x), .v (.bool ok)]:=by
 obtain⟨k,e,h1,h2,h3⟩:=Tx ht
 have hc:∀em,(Instr.checkKey em 10000 k (.int .i64 n)).run P w= .ok () w:=fun em=>MapKept.run_checkKey h2 (by simp [MapKept.IsKey]) em 9999
 cases hl:rT n es with
 | none=>
  have hf:=MapKept.run_findKey (w:=w) h2 (MP 0 hm hl)
  exact⟨z,false,by simp [Instr.lookup,run_underlying h1,MapKept.run_getObj_map hb,hc,hf,h3,Result.andThen],rfl⟩
 | some x=>
  obtain⟨j,hj⟩:=Tz 0 hm hl
  have hf:=MapKept.run_findKey (w:=w) h2 hj
  exact⟨x,true,by simp [Instr.lookup,run_underlying h1,MapKept.run_getObj_map hb,hc,hf,Result.andThen],rfl⟩
theorem agy {P:Program}{t:TypeId}{z:Int}(ht:OB P t=some z){w:World}{ents:Array MapEntry}{clock:Nat}{es:List (Int×Int)}(hm:UZ es ents){k v:Int}(hk:rT k es=none):
  ∃Xp clock',(Instr.mapUpdate t (.map (some w.heap.size)) (.int .i64 k) (.int .i64 v)).run P (w.alloc (.map ents clock))= .ok () (w.alloc (.map Xp clock'))∧UZ (es++ [(k,v)]) Xp:=by
 obtain⟨kt,e,h1,h2,_⟩:=Tx ht
 have hb:(w.alloc (.map ents clock)).heap[w.heap.size]?=some (.map ents clock):=OY w _
 have hc:∀em,(Instr.checkKey em 10000 kt (.int .i64 k)).run P (w.alloc (.map ents clock))= .ok () (w.alloc (.map ents clock)):=fun em=>MapKept.run_checkKey h2 (by simp [MapKept.IsKey]) em 9999
 have hf:=MapKept.run_findKey (w:=w.alloc (.map ents clock)) h2 (MP 0 hm hk)
 refine⟨ents.push ⟨.int .i64 k, .int .i64 v,clock⟩,clock+1,?_,?_⟩
 ·have hs:∀o,(w.alloc (.map ents clock)).heap.setIfInBounds w.heap.size o=(w.alloc o).heap:=fun o=>by
   unfold World.alloc;simp [Array.setIfInBounds,Array.push,Array.set]
  simp [Instr.mapUpdate,run_underlying h1,MapKept.run_getObj_map hb,hc,hf,MapKept.run_setObj_map _ hb,Result.andThen,hs]
  rfl
 ·unfold UZ at hm⊢
  simp only [Array.toList_push,List.map_append,List.map_cons,List.map_nil,hm]
theorem NH {t:TypeId}{d:Nat}:∀(l:List Oper) (acc:List (Int×Int)),∃m,(pF t d l acc).1=acc++m
 | [],acc=>⟨[],by simp [pF]⟩
 | o::r,acc=>by
  unfold pF
  cases Nu t d o with
  | none=>exact⟨[],by simp [UO]⟩
  | some e=>
   obtain⟨m,h⟩:=NH (t:=t) (d:=d) r (acc++ [e])
   exact⟨e::m,by simp [UO,h]⟩
theorem NI {t:TypeId}{d:Nat}:∀(l:List Oper) (acc:List (Int×Int)),∀o∈(pF t d l acc).2,o∈l
 | [],acc=>by simp [pF]
 | o::r,acc=>by
  unfold pF
  cases Nu t d o with
  | none=>intro x hx;exact hx
  | some e=>intro x hx;exact List.mem_cons_of_mem _ (NI r _ x hx)
theorem TA {k:Int}:∀{a b:List (Int×Int)},rT k (a++b)=none→rT k a=none∧rT k b=none
 | [],b,h=>⟨rfl,h⟩
 | (j,x)::a,b,h=>by
  rw [List.cons_append]at h
  have e1:∀l,rT k ((j,x)::l)=if k=j then some x else rT k l:=fun _=>rfl
  rw [e1]at h⊢
  split at h
  ·cases h
  ·rename_i hne
   rw [if_neg hne]
   exact TA h
theorem TB {e:Int×Int}{m:List (Int×Int)}:∀{acc:List (Int×Int)},C9 (acc++e::m)=true→rT e.1 acc=none
 | [],_=>rfl
 | (j,x)::a,h=>by
  rw [List.cons_append]at h
  unfold C9 at h
  rw [Bool.and_eq_true,Option.isNone_iff_eq_none]at h
  unfold rT
  split
  ·rename_i he
   have:=(TA h.1).2
   unfold rT at this
   have h2:(j,x).1=e.1:=he.symm
   rw [if_pos h2]at this
   cases this
  ·exact TB h.2
section
variable {P:Program} {c:Ctx} {s:S} {y:Lay} {a:Act} {w:World}
theorem ZT {t:TypeId}{d:Nat}{o:Oper}{e:Int×Int}(h:Nu t d o=some e):o.dst=none∧o.op= .insert t (.tmp d) (.const (.int .i64 e.1)) (.const (.int .i64 e.2))∧o.guard=none:=by
 unfold Nu at h
 split at h
 ·split at h
  ·rename_i hh
   injection h with h;subst h
   obtain⟨rfl,rfl⟩:=hh
   exact⟨rfl,rfl,rfl⟩
  ·cases h
 ·cases h
theorem ab7 {ops:Array Oper}{Q:Exit→Act→World→Prop}{t:TypeId}{d:Nat}{z:Int}(ht:OB P t=some z)(he:a.eval (.tmp d)= .map (some w.heap.size)):
  ∀(l:List Oper) (acc:List (Int×Int)) (ents:Array MapEntry) (clock:Nat),C9 (pF t d l acc).1=true→UZ acc ents→(∀ents clock,UZ (pF t d l acc).1 ents→wpList P ops Q (pF t d l acc).2 a (w.alloc (.map ents clock)))→wpList P ops Q l a (w.alloc (.map ents clock))
 | [],acc,ents,clock,_,hm,k=>k ents clock hm
 | o::r,acc,ents,clock,hp,hm,k=>by
  unfold pF at hp k
  cases hi:Nu t d o with
  | none=>
   rw [hi]at k
   exact k ents clock hm
  | some e=>
   rw [hi]at k hp
   simp only [UO]at k hp
   obtain⟨h1,h2,h3⟩:=ZT hi
   obtain⟨m,hmm⟩:=NH (t:=t) (d:=d) r (acc++ [e])
   have hk:rT e.1 acc=none:=TB (m:=m) (by rw [hmm]at hp;simpa using hp)
   obtain⟨Xp,clock',hr,hm'⟩:=agy ht (w:=w) (clock:=clock) hm (v:=e.2) hk
   unfold wpList
   have hw:Region.wanted o (yielded ops a.tmps)=true:=by unfold Region.wanted;rw [h3]
   rw [hw]
   refine .inl ?_
   refine I9 (w':=w.alloc (.map Xp clock')) ?_ ?_
   ·unfold execOp
    simp only [h2]
    rw [he]
    have e1:a.eval (.const (.int .i64 e.1))= .int .i64 e.1:=rfl
    have e2:a.eval (.const (.int .i64 e.2))= .int .i64 e.2:=rfl
    rw [e1,e2,Sem.run_bind,hr]
    rfl
   ·rw [h1]
    exact ab7 ht he r (acc++ [e]) Xp clock' hp hm' k
theorem aeX {l r:List Oper}{t:TypeId}{d:Nat}{es:List (Int×Int)}(h:Pk l=some (t,d,es,r)):(∃o∈l,o.dst=some d)∧∀o∈r,o∈l:=by
 unfold Pk at h
 split at h
 ·injection h with h
  injection h with e1 h
  injection h with e2 h
  injection h with e3 e4
  subst e1;subst e2;subst e4
  exact⟨⟨_,List.mem_cons_self,rfl⟩,fun o ho=>List.mem_cons_of_mem _ (NI _ _ o ho)⟩
 ·cases h
theorem aeY {ops:Array Oper}{Q:Exit→Act→World→Prop}{l r:List Oper}{t:TypeId}{d:Nat}{es:List (Int×Int)}{z:Int}(hsz:d<a.tmps.size)(h:Pk l=some (t,d,es,r))(ht:OB P t=some z)(hp:C9 es=true)
  (k:∀ents clock,UZ es ents→wpList P ops Q r (a.put (some d) (.map (some w.heap.size))) (w.alloc (.map ents clock))):wpList P ops Q l a w:=by
 unfold Pk at h
 split at h
 ·rename_i d' t' ty ps af r'
  injection h with h
  injection h with e1 h
  injection h with e2 h
  injection h with e3 e4
  subst e1;subst e2;subst e3;subst e4
  unfold wpList
  have hw:Region.wanted (⟨some d', .makeMap t' none,ty,ps,af,none⟩:Oper) (yielded ops a.tmps)=true:=rfl
  rw [hw]
  refine .inl (qD (u:= .map (some w.heap.size)) (w':=w.alloc (.map #[] 0)) ?_ ?_)
  ·unfold execOp
   simp only [Option.map_none]
   rw [Sem.run_bind,run_makeMap]
   rfl
  ·refine ab7 ht ?_ r' [] #[] 0 hp rfl k
   exact(abX a _ _ _ hsz).trans (if_pos rfl)
 ·cases h
theorem At.mapped (A:At c s y a w){t:Nat}{es:List (Int×Int)}{ents:Array MapEntry}{clock:Nat}(hm:UZ es ents)(hf:fresh s t=true)(hd':fM c.n (some t)=true):
  Good c (s.OW t es) (a.put (some t) (.map (some w.heap.size))) (w.alloc (.map ents clock)):=by
 unfold fresh at hf
 rw [Bool.and_eq_true]at hf
 have hn1:=jY (oH hf.1)
 have hn2:=jY (oH hf.2)
 have hn:t∉(s.tree++s.dG).map (·.1):=by rw [List.map_append,List.mem_append];exact fun h=>h.elim hn1 hn2
 have hx:Ext w (w.alloc (.map ents clock)):=(Ext.refl w).alloc _
 have kk:∀n,n∈(s.tree++s.dG).map (·.1)→n∈(s.tree++(t,([]:List (List D)))::s.dG).map (·.1):=by
  intro n h
  rw [List.map_append,List.mem_append]at h⊢
  exact h.elim .inl fun h=> .inr (List.mem_cons_of_mem _ h)
 have le:(aX c s y).le (aX c {s with dG:=(t,[])::s.dG} {y with hd:=dR y.hd t qR,w0:=dR y.w0 t (w.alloc (.map ents clock)),F:=dR y.F t [w.heap.size]}):=by
  refine⟨fun _ _ h=>h,fun b' o ⟨q,h1,h2,h3⟩=>?_,rfl,fun b h=>⟨h,rfl⟩,fun q h=>⟨kk q h,fO _ _ fun e=>hn (by rw [←e];exact h)⟩⟩
  have hq:q≠t:=fun e=>hn2 (by rw [←e];exact h1)
  exact⟨q,List.mem_cons_of_mem _ h1,by show b'∈dR y.F t _ q;rw [fO _ _ hq];exact h2,by show(dR y.w0 t _ q).heap[b']?=some o;rw [fO _ _ hq];exact h3⟩
 have A1:At c {s with dG:=(t,[])::s.dG} {y with hd:=dR y.hd t qR,w0:=dR y.w0 t (w.alloc (.map ents clock)),F:=dR y.F t [w.heap.size]} a (w.alloc (.map ents clock)):=by
  refine⟨A.defers,A.size,?_,fun t' v e=>(A.env t' v e).le le,fun b cs h=>(A.box b cs h).le le,fun q r h=>?_,A.nb,?_,A.fix.1,fun i h1 h2=>⟨(A.fix.2 i h1 h2).1,(fO _ _ (by have:=fM.lt hd';have:=A.fix.1;omega)).trans (A.fix.2 i h1 h2).2⟩⟩
  ·have S1:St c.W (w.alloc (.map ents clock)) (lI (w.alloc (.map ents clock)) [w.heap.size]::(dJ y.bl y.T y.us s.box++(bW y.hd s.tree++(gI y.w0 y.F s.dG++c.L)))):=
    A.st.more hx (h:=lI (w.alloc (.map ents clock)) [w.heap.size]) (F:= [w.heap.size]) ⟨rfl,fun _ _=>rfl⟩ (by simp) (fun k hk=>by simp only [List.mem_singleton]at hk;subst hk;exact⟨Nat.le_refl _,by unfold World.alloc;simp⟩)
   show St c.W _ (dJ y.bl y.T y.us s.box++(bW (dR y.hd t qR) s.tree++((lI (dR y.w0 t (w.alloc (.map ents clock)) t) (dR y.F t [w.heap.size] t)::gI (dR y.w0 t (w.alloc (.map ents clock))) (dR y.F t [w.heap.size]) s.dG)++c.L)))
   rw [dS,dS,EC hn2,uE hn1]
   have q:=(List.perm_middle (a:=lI (w.alloc (.map ents clock)) [w.heap.size]) (l₁:=dJ y.bl y.T y.us s.box++bW y.hd s.tree) (l₂:=gI y.w0 y.F s.dG++c.L)).symm
   simp only [List.append_assoc,List.cons_append]at q⊢S1
   exact S1.perm q
  ·show kL (dR y.w0 t _ q) _ (dR y.hd t qR q) (dR y.F t _ q)
   rcases List.mem_cons.1 h with h|h
   ·injection h with h1 h2;subst h1;subst h2
    rw [dS,dS,dS]
    exact⟨.nil none _,fun g ob n c cs T fr m r' e1=>by cases e1⟩
   ·have hq:q≠t:=fun e=>hn2 (by rw [←e];exact List.mem_map.2 ⟨_,h,rfl⟩)
    rw [fO _ _ hq,fO _ _ hq,fO _ _ hq];exact A.dG q r h
  ·show((s.tree++(t,[])::s.dG).map (·.1)).Nodup
   have An:=A.nt
   rw [List.map_append,List.nodup_append]at An⊢
   refine⟨An.1,List.nodup_cons.2 ⟨hn2,An.2.1⟩,fun x hx z hz e=>?_⟩
   subst e
   rcases List.mem_cons.1 hz with h|h
   ·have h:x=t:=h
    subst h
    exact hn1 hx
   ·exact An.2.2 x hx x h rfl
 refine⟨_,A1.value (v:= .mp es) ?_ hd'⟩
 refine⟨w.heap.size,ents,clock,rfl,⟨t,List.mem_cons_self,?_,?_⟩,hm⟩
 ·show w.heap.size∈dR y.F t _ t
  rw [dS];exact List.mem_singleton_self _
 ·show(dR y.w0 t _ t).heap[w.heap.size]?=some _
  rw [dS];exact OY w _
theorem Xq {o:Oper}{t:TypeId}{m x:Operand}(ho:o.op= .lookup t m x true)(hd':fM c.n o.dst=true){vm vk:V}{es:List (Int×Int)}{n z:Int}(hm:s.ev m=some vm)(hx:s.ev x=some vk)(h1:acF vm=some es)(h2:Tc vk=some n)(h3:OB P t=some z):Step P c o s (s.put o.dst (Mw z (rT n es))):=by
 rw [ac4 h1]at hm
 rw [ZR h2]at hx
 refine jr hd' fun yy a w A=>?_
 obtain⟨b,ents,clock,e1,⟨p,q1,q2,q3⟩,hi⟩:=A.ev hm
 have e2:a.eval x= .int .i64 n:=A.ev hx
 have hb:w.heap[b]?=some (.map ents clock):=by
  have:=A.st.UW (w0:=yy.w0 p) (F:=yy.F p) (by
   refine List.mem_append_right _ (List.mem_append_right _ (List.mem_append_left _ ?_))
   obtain⟨pp,hpp,rfl⟩:=List.mem_map.1 q1
   exact List.mem_map.2 ⟨pp,hpp,rfl⟩) b q2
  rw [this];exact q3
 obtain⟨r,ok,hr,hv⟩:=aeW h3 hb hi n
 refine⟨.tuple #[.int .i64 r, .bool ok],?_,?_⟩
 ·unfold execOp
  simp only [ho]
  rw [e1,e2,Sem.run_bind,hr]
  rfl
 ·rw [hv]
  exact⟨[_,_],rfl,_,_,rfl,rfl,_,_,rfl,rfl,rfl⟩
end
def ED (P:Program)(G:List (FuncId×Bool×aN)):Prop:= ∀(c:Ctx) (s s':S) (o:Oper) (cl:Call) (g:Operand) (args:List V) (f:FuncId×List V) (M:Bool×aN),o.op= .call cl→cl.callee= .value g→bG s.ev cl.args.toList=some args→s.ev g=some (.fn f.1 f.2)→look f.1 G=some M→wO M.1 M.2 s o.dst (args++f.2)=some s'→fM c.n o.dst=true→Step P c o s s'
section
variable {P:Program} {c:Ctx} {s s':S} {y:Lay} {a:Act} {w:World} {G:List (FuncId×Bool×aN)}
theorem R8 {o:Oper}{fn:Fn}{first cap:Array Operand}(ho:o.op= .makeFunc fn first cap)(hd':fM c.n o.dst=true){vs:List V}{v:V}(hvs:bG s.ev cap.toList=some vs)(h:fnV vs first fn=some v):Step P c o s (s.put o.dst v):=jr hd' fun yy a w A=>by
 have ea:=PS A hvs
 unfold fnV at h
 split at h
 ·rename_i f
  obtain⟨h1,h⟩:=aB h
  injection h with h;subst h
  have hf:first= #[]:=Array.isEmpty_iff.1 h1
  subst hf
  refine⟨.func (.func f) #[] (cap.toList.map a.eval).toArray,?_,_,rfl,ea⟩
  unfold execOp;simp only [ho]
  have hcl:(cap.map a.eval)=(cap.toList.map a.eval).toArray:=by apply Array.ext';simp
  rw [hcl]
  simp [Instr.makeFunc]
 ·cases h
theorem Le (hC:ED P G){o:Oper}(hd':fM c.n o.dst=true)(h:iJ P G s o.dst o.op=some s'):Step P c o s s':=by
 generalize ho:o.op=q at h
 cases q<;>simp only [iJ]at h<;>try (cases h;done)
 case alloc t=>
  obtain⟨cs,h1,h⟩:=aj h
  exact ZM ho hd' h1 h
 case box t x=>
  obtain⟨v,h1,h⟩:=aj h
  obtain⟨h2,h⟩:=aB h
  exact aeN ho hd' h1 h2.2 h
 case build t ps=>
  obtain⟨d,h1,h⟩:=aj h
  obtain⟨fs,h2,h⟩:=aj h
  obtain⟨h3,h⟩:=aB h
  obtain⟨z,h4,h⟩:=aj h
  obtain⟨vs,h5,h⟩:=aj h
  obtain⟨cs,h6,h⟩:=aj h
  injection h with h;subst h
  exact ZO ho hd' h1 h2 h3 h4 h5 h6
 case buildSlice t n ps=>
  obtain⟨d,h1,h⟩:=aj h
  obtain⟨e,h2,h⟩:=aj h
  obtain⟨vs,h3,h⟩:=aj h
  obtain⟨h4,h⟩:=aB h
  obtain⟨x,h5,h⟩:=aj h
  have:d= .slice e:=by unfold iN at h2;split at h2<;>first|(injection h2 with h2;subst h2;rfl)|cases h2
  rw [this]at h1
  simp only [Bool.and_eq_true,decide_eq_true_eq]at h4
  obtain⟨⟨⟨k1,k2⟩,k3⟩,k4⟩:=h4
  refine OD ho hd' h1 h3 k1 k2 k3 (fun v hv=>?_) (rows:=x.1) (s1:=x.2) h5 h
  have:=List.all_eq_true.1 k4 v hv
  simp only [Bool.and_eq_true,decide_eq_true_eq]at this
  exact this
 case load t x=>
  obtain⟨v,h1,h⟩:=aj h
  obtain⟨u,h2,h⟩:=aj h
  injection h with h;subst h
  exact acU ho hd' h1 h2
 case store t x z=>
  obtain⟨p,h1,h⟩:=aj h
  obtain⟨v,h2,h⟩:=aj h
  obtain⟨s1,h3,h⟩:=aj h
  injection h with h;subst h
  unfold S.store at h3
  obtain⟨⟨k1,k2⟩,h3⟩:=aB h3
  split at h3
  ·obtain⟨cs,h4,h3⟩:=aj h3
   obtain⟨⟨k3,k4⟩,h3⟩:=aB h3
   injection h3 with h3;subst h3
   exact R4 ho h1 h2 k2 k1 k4 h4 k3
  ·cases hat:v.atom with
   | some d=>
    rw [hat]at h3
    simp only [Ba]at h3
    obtain⟨rows,h4,h3⟩:=aj h3
    obtain⟨r,h6,h3⟩:=aj h3
    obtain⟨d0,h7,h3⟩:=aj h3
    obtain⟨⟨k3,k4,k5⟩,h3⟩:=aB h3
    injection h3 with h3;subst h3
    exact R5 ho h1 h2 k2 k1 h4 hat h6 h7 k3 k4 k5
   | none=>
    rw [hat]at h3
    simp only [Ba]at h3
    obtain⟨x2,h4,h3⟩:=aj h3
    obtain⟨rows,h5,h3⟩:=aj h3
    obtain⟨r,h6,h3⟩:=aj h3
    obtain⟨⟨k3,k4,k5,k6⟩,h3⟩:=aB h3
    injection h3 with h3;subst h3
    exact R6 ho h1 h2 k2 k1 (ds:=x2.1) (s1:=x2.2) h4 h5 h6 k3 k4 k5 k6
  ·cases hat:v.atom with
   | some d=>
    rw [hat]at h3
    simp only [Gj]at h3
    obtain⟨rows,h4,h3⟩:=aj h3
    obtain⟨r,h5,h3⟩:=aj h3
    obtain⟨cc,h6,h3⟩:=aj h3
    obtain⟨rs,h7,h3⟩:=aj h3
    obtain⟨r',h8,h3⟩:=aj h3
    obtain⟨d0,h9,h3⟩:=aj h3
    obtain⟨⟨k3,k4,k5,k6⟩,h3⟩:=aB h3
    injection h3 with h3;subst h3
    rw [Ka h7]at h6
    exact R7 ho h1 h2 k2 k1 h4 hat h5 h6 h8 h9 k3 k4 k5 k6
   | none=>rw [hat]at h3;simp only [Gj]at h3;cases h3
  ·cases h3
 case nilCheck x=>
  obtain⟨v,h1,h⟩:=aj h
  obtain⟨u,h2,h⟩:=aj h
  injection h with h;subst h
  exact R3 ho hd' h1 h2
 case binOp op t x z t'=>
  obtain⟨v,h1,h⟩:=aj h
  obtain⟨u,h2,h⟩:=aj h
  obtain⟨r,h3,h⟩:=aj h
  injection h with h;subst h
  exact aeK ho hd' h1 h2 h3
 case unOp op t x=>
  obtain⟨v,h1,h⟩:=aj h
  obtain⟨r,h3,h⟩:=aj h
  injection h with h;subst h
  exact agt ho hd' h1 h3
 case convert t0 t x=>
  obtain⟨v,h1,h⟩:=aj h
  obtain⟨d0,h2,h⟩:=aj h
  obtain⟨d,h3,h⟩:=aj h
  exact ZN ho hd' h1 h2 h3 h
 case slice t x lo hi mx=>
  cases mx with
  | some m=>cases h
  | none=>
  simp only [iJ]at h
  obtain⟨v,h1,h⟩:=aj h
  obtain⟨l,h2,h⟩:=aj h
  obtain⟨hh,h3,h⟩:=aj h
  obtain⟨d,h4,h⟩:=aj h
  exact Xo ho hd' h1 h2 h3 h4 h
 case fieldAddr t x f=>
  obtain⟨v,h1,h⟩:=aj h
  obtain⟨q,h2,h⟩:=aj h
  obtain⟨r,h3,h⟩:=aj h
  injection h with h;subst h
  exact Py ho hd' h1 h2 h3
 case field t x f=>
  obtain⟨v,h1,h⟩:=aj h
  obtain⟨cs,h2,h⟩:=aj h
  obtain⟨q,h3,h⟩:=aj h
  obtain⟨g,h4,h⟩:=aj h
  obtain⟨r,h5,h⟩:=aj h
  injection h with h;subst h
  have:v= .agg cs:=by unfold Ta at h2;split at h2<;>first|(injection h2 with h2;subst h2;rfl)|cases h2
  subst this
  exact ZI ho hd' h1 h3 h4 h5
 case indexAddr t x i=>
  obtain⟨v,h1,h⟩:=aj h
  obtain⟨vi,h2,h⟩:=aj h
  obtain⟨n,h3,h⟩:=aj h
  obtain⟨e,h4,h⟩:=aj h
  obtain⟨r,h5,h⟩:=aj h
  injection h with h;subst h
  exact Pz ho hd' h1 h2 h3 h4 h5
 case index t x i=>
  obtain⟨v,h1,h⟩:=aj h
  obtain⟨vi,h2,h⟩:=aj h
  obtain⟨n,h3,h⟩:=aj h
  obtain⟨r,h5,h⟩:=aj h
  injection h with h;subst h
  exact ZJ ho hd' h1 h2 h3 h5
 case makeFunc fn first cap=>
  obtain⟨vs,h1,h⟩:=aj h
  obtain⟨v,h2,h⟩:=aj h
  injection h with h;subst h
  exact R8 ho hd' h1 h2
 case extract x i=>
  obtain⟨v,h1,h⟩:=aj h
  obtain⟨r,h5,h⟩:=aj h
  injection h with h;subst h
  exact U4 ho hd' h1 h5
 case move x=>
  obtain⟨v,h1,h⟩:=aj h
  injection h with h;subst h
  exact acR ho hd' h1
 case assign x=>
  obtain⟨v,h1,h⟩:=aj h
  injection h with h;subst h
  exact Xg ho hd' h1
 case pick x y z=>
  obtain⟨v,h1,h⟩:=aj h
  obtain⟨b,h2,h⟩:=aj h
  obtain⟨r,h5,h⟩:=aj h
  injection h with h;subst h
  rw [Ny h2]at h1
  exact acS ho hd' h1 h5
 case makeSlice t n cc=>
  obtain⟨vn,h1,h⟩:=aj h
  obtain⟨vc,h2,h⟩:=aj h
  exact ac1 ho hd' h1 h2 h
 case lookup t m x ok=>
  cases ok with
  | false=>cases h
  | true=>
  simp only at h
  obtain⟨vm,h1,h⟩:=aj h
  obtain⟨vk,h2,h⟩:=aj h
  obtain⟨es,h3,h⟩:=aj h
  obtain⟨n,h4,h⟩:=aj h
  obtain⟨z,h5,h⟩:=aj h
  injection h with h;subst h
  exact Xq ho hd' h1 h2 h3 h4 h5
 case call cl=>
  obtain⟨args,h1,h⟩:=aj h
  unfold J3 at h
  split at h
  ·rename_i b hb
   exact Va ho hb hd' h1 h
  ·rename_i g hg
   obtain⟨v,h2,h⟩:=aj h
   obtain⟨f,h3,h⟩:=aj h
   obtain⟨M,h4,h⟩:=aj h
   have:v= .fn f.1 f.2:=by unfold UM at h3;split at h3<;>first|(injection h3 with h3;subst h3;rfl)|cases h3
   rw [this]at h2
   exact hC c s s' o cl g args f M ho hg h1 h2 h4 h hd'
  ·cases h
theorem za (A:At c s y a w){ops:Array Oper}{o:Oper}{g:Bool}(h:s.wants ops o.guard=some g):Region.wanted o (yielded ops a.tmps)=g:=by
 unfold Region.wanted
 cases e:o.guard with
 | none=>rw [e]at h;simp only [S.wants]at h;injection h
 | some jw=>
  obtain⟨j,want⟩:=jw
  rw [e]at h
  simp only [S.wants]at h
  simp only
  cases hd:(ops[j]?).bind (·.dst)with
  | none=>
   rw [hd]at h;simp only [I6]at h;injection h with h;subst h
   unfold yielded
   rw [hd];cases want<;>rfl
  | some d=>
   rw [hd]at h;simp only [I6]at h
   have hy:∀v u,look d s.env=some v→RV (aX c s y) v u→(a.tmps.getD d undef)=u→True:=fun _ _ _ _ _=>trivial
   unfold yielded
   rw [hd]
   simp only [Option.bind_some]
   cases hl:look d s.env with
   | none=>rw [hl]at h;simp only [J4]at h;cases h
   | some v=>
    have hv:=A.env d v hl
    rw [hl]at h
    unfold J4 at h
    split at h
    ·rename_i b e2
     injection e2 with e2;subst e2
     injection h with h;subst h
     have e3:a.tmps.getD d undef= .bool b:=hv
     cases e4:a.tmps[d]? with
     | none=>rw [Array.getD_eq_getD_getElem?,e4]at e3;cases e3
     | some u=>rw [Array.getD_eq_getD_getElem?,e4]at e3;have e3:u= .bool b:=e3;subst e3;simp
    ·rename_i e2
     injection e2 with e2;subst e2
     injection h with h;subst h
     obtain⟨us,e5,e6⟩:=hv
     have e6:us= []:=e6
     subst e6
     cases e4:a.tmps[d]? with
     | none=>cases want<;>rfl
     | some u=>rw [Array.getD_eq_getD_getElem?,e4]at e5;have e5:u= .tuple #[]:=e5;subst e5;cases want<;>rfl
    ·cases h
theorem Ja (hC:ED P G){ops:Array Oper}{Q:Exit→Act→World→Prop}:∀{l:List Oper} {s:S} {q:S} {a:Act} {w:World},(∀o∈l,fM c.n o.dst=true)→Cc P G ops l (.on s)=some (.on q)→Good c s a w→(∀a w,Good c q a w→Q .normal a w)→wpList P ops Q l a w
 | [],s,q,a,w,_,h,g,k=>by
  simp only [Cc]at h;injection h with h;injection h with h;subst h
  exact k a w g
 | o::l,s,q,a,w,hd,h,g,k=>by
  rw [Po]at h
  obtain⟨gd,h1,h⟩:=aj h
  obtain⟨y,A⟩:=g
  have hw:=za A h1
  unfold wpList
  rw [hw]
  cases gd with
  | true=>
   rw [if_pos rfl]at h⊢
   obtain⟨q1,h2,h⟩:=aj h
   cases e:iJ P G s o.dst o.op with
   | none=>rw [e]at h2;cases h2
   | some s1=>
    rw [e,og]at h2;injection h2 with h2;subst h2
    exact .inl (Le hC (hd o (by simp)) e a w ⟨y,A⟩ _ _ fun a' w' g'=>Ja hC (fun o ho=>hd o (by simp [ho])) h g' k)
  | false=>
   rw [if_neg (by simp)]at h⊢
   obtain⟨q1,h2,h⟩:=aj h
   rw [og]at h2;injection h2 with h2;subst h2
   exact Ja hC (fun o ho=>hd o (by simp [ho])) h ⟨y,A.value (v:= .fK []) ⟨[],rfl,rfl⟩ (hd o (by simp))⟩ k
theorem ac5 (hC:ED P G){ops:Array Oper}{Q:Exit→Act→World→Prop}{l:List Oper}{q:S}{a:Act}{w:World}(hd:∀o∈l,fM c.n o.dst=true)(h:Te P G ops l s=some (.on q))(g:Good c s a w)(k:∀a w,Good c q a w→Q .normal a w):wpList P ops Q l a w:=by
 unfold Te at h
 obtain⟨x,h1,h⟩:=aj h
 obtain⟨z,h2,h⟩:=aj h
 obtain⟨⟨h3,h4⟩,h⟩:=aB h
 obtain⟨t,d,es,r⟩:=x
 obtain⟨y,A⟩:=g
 have hr:=aeX h1
 have hdd:fM c.n (some d)=true:=by obtain⟨o,ho,e⟩:=hr.1;rw [←e];exact hd o ho
 refine aeY (by rw [A.size];exact fM.lt hdd) h1 h2 h4 (fun ents clock hm=>?_)
 refine Ja hC (fun o ho=>hd o (hr.2 o ho)) h ?_ k
 exact A.mapped hm h3 hdd
end
end Go.Proofs.YtlpdjhiggpblcaaGreat
namespace Go.Proofs.YtlpdjhiggpblcaaGreat
open Go.RowKit
set_option linter.unusedSimpArgs false
set_option linter.unusedVariables false
def oO (s:S):List Nat:=s.box.map (·.1)
def iH (s:S):List Nat:=(s.tree++s.dG).map (·.1)
structure Lf (oB oT:Nat→Prop) (s s':S):Prop where
 box:∀b cs,look b s.box=some cs→oB b→look b s'.box=some cs
 own:∀p rows,s.rows (.own p)=some rows→oT p→s'.rows (.own p)=some rows
 tree:∀p rows,look p s.tree=some rows→oT p→look p s'.tree=some rows
 dG:s'.dG=s.dG
mutual
def NJ (oB oT:Nat→Prop):V→Prop
 | .own p=>oT p
 | .inn p _ _ _=>oT p
 | .ref b _=>oB b
 | .pe base _ _ _=>NJ oB oT base
 | .agg cs=>Dh oB oT cs
 | .fK cs=>Dh oB oT cs
 | .fn _ cs=>Dh oB oT cs
 | _=>True
def Dh (oB oT:Nat→Prop):List V→Prop
 | []=>True
 | v::r=>NJ oB oT v∧Dh oB oT r
end
theorem Xr {oB oT:Nat→Prop}:∀{l m:List V},Dh oB oT l→Dh oB oT m→Dh oB oT (l++m)
 | [],_,_,h=>h
 | _::_,_,h,k=>⟨h.1,Xr h.2 k⟩
mutual
theorem Bh:∀(v:V),NJ (fun _=>True) (fun _=>True) v
 | .v _=>trivial
 | .nil=>trivial
 | .aP _ _=>trivial
 | .own _=>trivial
 | .inn _ _ _ _=>trivial
 | .fz _=>trivial
 | .mp _=>trivial
 | .ref _ _=>trivial
 | .pe b _ _ _=>Bh b
 | .agg cs=>DC cs
 | .fK cs=>DC cs
 | .fn _ cs=>DC cs
 | .dead=>trivial
theorem DC:∀(l:List V),Dh (fun _=>True) (fun _=>True) l
 | []=>trivial
 | v::l=>⟨Bh v,DC l⟩
end
theorem ZU {oB oT:Nat→Prop}(x:Value):NJ oB oT (xS x):=by
 unfold xS;split<;>trivial
theorem PW {oB oT:Nat→Prop}{x:Value}{v:V}(h:uN x=some v):NJ oB oT v:=by
 unfold uN at h
 split at h<;>first|(injection h with h;subst h;trivial)|(cases h;done)|skip
 injection h with h;subst h
 rename_i cs
 have:∀l:List Value,Dh oB oT (l.map xS):=by
  intro l;induction l with
  | nil=>trivial
  | cons x l ih=>exact⟨ZU x,ih⟩
 exact this cs.toList
section
variable {c:Ctx} {s:S} {y:Lay}
mutual
theorem RV.NJ:∀{v:V} {u:Value},RV (aX c s y) v u→NJ (· ∈oO s) (· ∈iH s) v
 | .v _,_,_=>trivial
 | .nil,_,_=>trivial
 | .aP _ _,_,_=>trivial
 | .own p,_,h=>h.1
 | .inn p _ _ _,_,h=>h.1
 | .fz _,_,_=>trivial
 | .mp _,_,_=>trivial
 | .ref b _,_,h=>h.1
 | .pe b _ _ _,_,h=>by obtain⟨ub,h1,_⟩:=h;exact RV.NJ (v:=b) h1
 | .agg _,_,h=>by obtain⟨us,_,h2⟩:=h;exact jk.Dh h2
 | .fK _,_,h=>by obtain⟨us,_,h2⟩:=h;exact jk.Dh h2
 | .fn _ _,_,h=>by obtain⟨us,_,h2⟩:=h;exact jk.Dh h2
 | .dead,_,_=>trivial
theorem jk.Dh:∀{vs:List V} {us:List Value},jk (aX c s y) vs us→Dh (· ∈oO s) (· ∈iH s) vs
 | [],_,_=>trivial
 | _::_,_,h=>by obtain⟨u,q,_,h2,h3⟩:=h;exact⟨RV.NJ h2,jk.Dh h3⟩
end
end
theorem bC {α β:Type}{x x':Option α}{f f':α→Option β}{b:β}(hx:∀a,x=some a→x'=some a)(hf:∀a,x=some a→f a=some b→f' a=some b)(h:bnd x f=some b):bnd x' f'=some b:=by
 obtain⟨a,h1,h2⟩:=aj h
 rw [hx a h1];exact hf a h1 h2
theorem wS {α:Type}{c:Prop} [Decidable c]{x x':Option α}{b:α}(hx:x=some b→x'=some b)(h:grd c x=some b):grd c x'=some b:=by
 obtain⟨h1,h2⟩:=aB h
 rw [eH _ h1];exact hx h2
section
variable {P:Program} {oB oT:Nat→Prop} {s s':S}
theorem Lf.rows (A:Lf oB oT s s'){x:V}{r:List (List D)}(i:NJ oB oT x)(h:s.rows x=some r):s'.rows x=some r:=by
 cases x<;>first|exact h|exact A.own _ _ h i|exact bC (fun _ h=>A.tree _ _ h i) (fun _ _ h=>h) h
theorem Lf.under (A:Lf oB oT s s'){base:V}{k i j:Nat}{d:D}:s'.under base k i j d=s.under base k i j d:=by
 cases d with
 | a x=>rfl
 | gone=>rfl
 | l rows=>cases base<;>first|rfl|simp only [S.under,A.dG]
theorem Lf.uZ (A:Lf oB oT s s'){base:V}{k i:Nat}:∀{l:List D} {j:Nat},YtlpdjhiggpblcaaGreat.uZ s' base k i j l=YtlpdjhiggpblcaaGreat.uZ s base k i j l
 | [],_=>rfl
 | d::l,j=>by simp only [YtlpdjhiggpblcaaGreat.uZ,A.under,Lf.uZ A]
theorem Lf.load (A:Lf oB oT s s'){t:TypeId}{p v:V}(i:NJ oB oT p)(h:s.load P t p=some v):s'.load P t p=some v:=by
 cases p<;>simp only [S.load]at h⊢<;>try (cases h;done)
 case ref b off=>exact bC (fun _ h=>h) (fun g _ h=>bC (fun cs h=>A.box b cs h i) (fun _ _ h=>h) h) h
 case pe base k i0 off=>
  refine bC (fun _ h=>h) (fun g _ h=>bC (fun r h=>A.rows (x:=base) i h) (fun r _ h=>bC (fun _ h=>h) (fun r _ h=>wS (fun h=>?_) h) h) h) h
  have e:∀j,s'.under base k i0 j=s.under base k i0 j:=fun j=>funext fun d=>A.under
  unfold S.IY at h⊢
  rw [e,A.uZ];exact h
theorem Lf.slice (A:Lf oB oT s s'){x:V}{lo hi:Option V}{d:TypeDesc}:qX P s' x lo hi d=qX P s x lo hi d:=by
 unfold qX
 split
 ·rfl
 ·congr 1
  unfold Er
  cases x<;>first|rfl|simp only [A.dG]
 ·rfl
theorem Lf.conv (A:Lf oB oT s s'){x v:V}{d0 d:TypeDesc}(i:NJ oB oT x)(h:wN P s x d0 d=some v):wN P s' x d0 d=some v:=by
 have bytes:∀x,NJ oB oT x→xV P s x d0=some v→xV P s' x d0=some v:=fun x i h=>by
  unfold xV at h⊢
  exact bC (fun _ h=>h) (fun _ _ h=>bC (fun _ h=>h) (fun _ _ h=>wS (fun h=>bC (fun r h=>A.rows i h) (fun _ _ h=>h) h) h) h) h
 unfold wN at h⊢
 split at h
 ·exact h
 ·cases x with
  | v y=>cases y<;>first|exact h|cases h
  | _=>exact bytes _ i h
 ·cases h
theorem Lf.indexAddr (A:Lf oB oT s s'){x:V}{i:Int}{e:TypeId}{n:Option Nat}{v:V}(hi:NJ oB oT x)(h:lK P s x i e n=some v):lK P s' x i e n=some v:=by
 cases n with
 | some n=>exact h
 | none=>exact bC (fun _ h=>A.rows hi h) (fun _ _ h=>h) h
def EF (oB oT:Nat→Prop)(s s':S)(x:Operand):Prop:= ∀v,s.ev x=some v→s'.ev x=some v∧NJ oB oT v
theorem DF:∀{l:List Operand} {vs:List V},(∀x∈l,EF oB oT s s' x)→bG s.ev l=some vs→bG s'.ev l=some vs∧Dh oB oT vs
 | [],vs,_,h=>by simp only [bG]at h⊢;injection h with h;subst h;exact⟨rfl,trivial⟩
 | x::l,vs,E,h=>by
  simp only [bG]at h⊢
  obtain⟨v,h1,h⟩:=aj h
  obtain⟨r,h2,h⟩:=aj h
  injection h with h;subst h
  obtain⟨k1,k2⟩:=E x List.mem_cons_self v h1
  obtain⟨k3,k4⟩:=DF (fun z hz=>E z (List.mem_cons_of_mem _ hz)) h2
  rw [k1,k3];exact⟨rfl,k2,k4⟩
theorem EG:∀{l:List (Nat×Operand)} {vs:List (Nat×V)},(∀x∈l,EF oB oT s s' x.2)→bG (pE s) l=some vs→bG (pE s') l=some vs
 | [],vs,_,h=>h
 | x::l,vs,E,h=>by
  simp only [bG]at h⊢
  refine bC (fun a h=>bC (fun v h=>(E x List.mem_cons_self v h).1) (fun _ _ h=>h) h) (fun a _ h=>bC (fun b h=>EG (fun z hz=>E z (List.mem_cons_of_mem _ hz)) h) (fun _ _ h=>h) h) h
theorem Xt {x:Option Operand}{v:Option V}(E:∀y,x=some y→EF oB oT s s' y)(h:kC s x=some v):kC s' x=some v:=by
 cases x with
 | none=>exact h
 | some x=>exact bC (fun v h=>(E x rfl v h).1) (fun _ _ h=>h) h
theorem aeZ {G:List (FuncId×Bool×aN)}{d:Option Nat}{op:Op}{v:V}(h:je P s op=some v):iJ P G s d op=some (s.put d v):=by
 have key:∀(x:Option V),x=some v→bnd x (fun v=>some (s.put d v))=some (s.put d v):=fun x e=>by rw [e];rfl
 cases op<;>simp only [je]at h<;>try (cases h;done)
 case slice t x lo hi mx=>
  cases mx with
  | some m=>cases h
  | none=>
   simp only [je]at h
   obtain⟨vx,h1,h5⟩:=aj h
   obtain⟨vl,h2,h6⟩:=aj h5
   obtain⟨vh,h3,h7⟩:=aj h6
   obtain⟨dd,h4,h8⟩:=aj h7
   simp only [iJ,h1,h2,h3,h4,aY]
   cases vx
   case own p=>
    show ZE P s d p vl vh dd (look p s.dG)=_
    cases hf:look p s.dG with
    | some r=>simp only [ZE];rw [h8];rfl
    | none=>
     exfalso
     unfold qX at h8
     split at h8
     ·cases h8
     ·obtain⟨_,h9⟩:=aB h8
      simp only [Er]at h9
      rw [hf]at h9;cases h9
     ·cases h8
   all_goals (simp only [C8];rw [h8];rfl)
 case build t ps=>
  simp only [iJ];rw [←key _ h];simp only [iP]
  congr 1;funext d';congr 1;funext fs
  unfold grd
  split
  ·simp only [iP];rfl
  ·rfl
 case convert t0 t x=>
  obtain⟨vx,h1,h⟩:=aj h
  obtain⟨d0,h2,h⟩:=aj h
  obtain⟨dd,h3,h⟩:=aj h
  simp only [iJ,h1,h2,h3,aY]
  cases dd<;>first|(simp only [wN]at h;cases h;done)|(simp only [KR];rw [h];rfl)
 case call c=>
  obtain⟨args,h1,h⟩:=aj h
  simp only [iJ,h1,aY]
  unfold KU at h
  split at h
  ·rename_i b hb
   rw [hb]
   unfold KT at h
   split at h
   ·injection h with h;subst h;rfl
   ·injection h with h;subst h;rfl
   ·cases h
  ·cases h
 all_goals (simp only [iJ];rw [←key _ h];try simp only [iP])
theorem TD (A:Lf oB oT s s'){op:Op}{v:V}(E:∀x∈op.operands.toList,EF oB oT s s' x)(h:je P s op=some v):je P s' op=some v:=by
 cases op<;>try (simp only [je]at h;done)
 case move x=>exact(E x (by simp [Op.operands]) v h).1
 case assign x=>exact(E x (by simp [Op.operands]) v h).1
 case pick c x y=>
  refine bC (fun v h=>(E c (by simp [Op.operands]) v h).1) (fun _ _ h=>bC (fun _ h=>h) (fun b _ h=>?_) h) h
  cases b
  ·exact(E y (by simp [Op.operands]) v h).1
  ·exact(E x (by simp [Op.operands]) v h).1
 case build t ps=>exact bC (fun _ h=>h) (fun _ _ h=>bC (fun _ h=>h) (fun _ _ h=>wS (fun h=>bC (fun _ h=>h) (fun _ _ h=>bC (fun _ h=>EG (fun x hx=>E x.2 (by simp only [Op.operands];exact List.mem_map.2 ⟨x,hx,rfl⟩)) h) (fun _ _ h=>h) h) h) h) h) h
 case load t p=>exact bC (fun v h=>(E p (by simp [Op.operands]) v h).1) (fun v h1 h=>A.load (E p (by simp [Op.operands]) v h1).2 h) h
 case nilCheck x=>exact bC (fun v h=>(E x (by simp [Op.operands]) v h).1) (fun _ _ h=>h) h
 case binOp op t x y t'=>exact bC (fun v h=>(E x (by simp [Op.operands]) v h).1) (fun _ _ h=>bC (fun v h=>(E y (by simp [Op.operands]) v h).1) (fun _ _ h=>h) h) h
 case unOp op t x=>exact bC (fun v h=>(E x (by simp [Op.operands]) v h).1) (fun _ _ h=>h) h
 case convert t0 t x=>exact bC (fun v h=>(E x (by simp [Op.operands]) v h).1) (fun v h1 h=>bC (fun _ h=>h) (fun _ _ h=>bC (fun _ h=>h) (fun _ _ h=>A.conv (E x (by simp [Op.operands]) v h1).2 h) h) h) h
 case slice t x lo hi mx=>
  cases mx with
  | some m=>cases h
  | none=>exact bC (fun v h=>(E x (by simp [Op.operands]) v h).1) (fun _ _ h=>bC (fun _ h=>Xt (fun y hy=>E y (by subst hy;simp [Op.operands])) h) (fun _ _ h=>bC (fun _ h=>Xt (fun y hy=>E y (by subst hy;simp [Op.operands])) h) (fun _ _ h=>bC (fun _ h=>h) (fun _ _ h=>by rw [A.slice];exact h) h) h) h) h
 case fieldAddr t x f=>exact bC (fun v h=>(E x (by simp [Op.operands]) v h).1) (fun _ _ h=>h) h
 case field t x f=>exact bC (fun v h=>(E x (by simp [Op.operands]) v h).1) (fun _ _ h=>h) h
 case indexAddr t x i=>exact bC (fun v h=>(E x (by simp [Op.operands]) v h).1) (fun v h1 h=>bC (fun v h=>(E i (by simp [Op.operands]) v h).1) (fun _ _ h=>bC (fun _ h=>h) (fun _ _ h=>bC (fun _ h=>h) (fun _ _ h=>A.indexAddr (E x (by simp [Op.operands]) v h1).2 h) h) h) h) h
 case index t x i=>exact bC (fun v h=>(E x (by simp [Op.operands]) v h).1) (fun _ _ h=>bC (fun v h=>(E i (by simp [Op.operands]) v h).1) (fun _ _ h=>h) h) h
 case extract x i=>exact bC (fun v h=>(E x (by simp [Op.operands]) v h).1) (fun _ _ h=>h) h
 case makeFunc fn first cap=>exact bC (fun _ h=>(DF (fun x hx=>E x (by simp only [Op.operands,Array.toList_append];exact List.mem_append_right _ hx)) h).1) (fun _ _ h=>h) h
 case call c=>exact bC (fun _ h=>(DF (fun x hx=>E x (by simp only [Op.operands,Call.operands,Array.toList_append];exact List.mem_append_right _ hx)) h).1) (fun _ _ h=>h) h
 all_goals (first|(simp only [je]at h;cases h;done)|skip)
end
section
variable {P:Program} {oB oT:Nat→Prop} {s s':S}
mutual
theorem TF (A:Lf oB oT s s'):∀{c:iF} {v:V} {r:V×iF},NJ oB oT v→jW s c v=some r→jW s' c v=some r
 | c, .v _,r,_,h=>h
 | c, .ref _ _,r,_,h=>h
 | c, .agg cs,r,i,h=>by simp only [jW]at h⊢;exact bC (fun _ h=>DI A i h) (fun _ _ h=>h) h
 | c, .fn f cs,r,i,h=>by simp only [jW]at h⊢;exact bC (fun _ h=>DI A i h) (fun _ _ h=>h) h
 | c, .nil,r,_,h=>h
 | c, .aP _ _,r,_,h=>h
 | c, .fz _,r,_,h=>h
 | c, .mp _,r,_,h=>h
 | c, .own p,r,i,h=>by simp only [jW]at h⊢;exact bC (fun _ h=>A.rows (x:= .own p) i h) (fun _ _ h=>h) h
 | c, .inn p i1 j1 k1,r,i,h=>by simp only [jW]at h⊢;exact bC (fun _ h=>A.rows (x:= .inn p i1 j1 k1) i h) (fun _ _ h=>h) h
 | c, .pe _ _ _ _,r,_,h=>h
 | c, .fK _,r,_,h=>h
 | c, .dead,r,_,h=>h
theorem DI (A:Lf oB oT s s'):∀{c:iF} {vs:List V} {r:List V×iF},Dh oB oT vs→vT s c vs=some r→vT s' c vs=some r
 | c,[],r,_,h=>h
 | c,v::vs,r,i,h=>by
  simp only [vT]at h⊢
  exact bC (fun _ h=>TF A i.1 h) (fun _ _ h=>bC (fun _ h=>DI A i.2 h) (fun _ _ h=>h) h) h
end
theorem Xu (A:Lf oB oT s s'){M:aN}{d:Nat}{args:List V}{e:Eff}(i:Dh oB oT args)(h:Ev M s d args=some e):Ev M s' d args=some e:=
 bC (fun _ h=>DI A i h) (fun _ _ h=>h) h
theorem Lg {src:List V}{box:List Nat}{t:Nat}:∀{rt:List (Nat×List (List D))} {s:S},jo s (uQ t rt)=true→jP ⟨src,box,[]⟩ t rt s=some {s with tree:=(uQ t rt).reverse++s.tree}
 | [],s,_=>rfl
 | (q,rows)::r,s,h=>by
  simp only [uQ,jo,Bool.and_eq_true,decide_eq_true_eq]at h
  simp only [jP]
  have hn:gV ⟨src,box,[]⟩ t q=1000*(t+1)+q:=rfl
  rw [if_neg (by simp),hn,eH _ h.1,Lg h.2]
  simp only [uQ,List.reverse_cons,List.append_assoc]
  rfl
theorem NK (M:aN)(s:S)(dst:Option Nat)(args:List V):wO false M s dst args=vU false M s dst args:=by
 unfold wO;split
 ·rw [if_neg (by simp)]
 ·rfl
theorem ZV {M:aN}{s:S}{d:Nat}{args:List V}{e:Eff}(h:Ev M s d args=some e)(hf:jo s e.tree=true):vU false M s (some d) args=some (s.app (some d) e):=by
 unfold Ev at h
 obtain⟨x,h1,h⟩:=aj h
 obtain⟨h2,h⟩:=aB h
 obtain⟨r,h3,h⟩:=aj h
 obtain⟨h4,h⟩:=aB h
 obtain⟨v,h5,h⟩:=aj h
 injection h with h;subst h
 obtain⟨vs,src,box,tree⟩:=x
 obtain⟨rv,rb,rt⟩:=r
 simp only [Bool.and_eq_true,List.isEmpty_iff]at h2 h4
 obtain⟨rfl,rfl⟩:=h2
 subst h4
 unfold vU Ns
 rw [if_neg (by simp),h1,aY]
 simp only [mU,aY,qB]
 rw [eH _ (by rfl),h3,aY]
 refine WX ?_
 unfold S.back
 simp only [gT,iO,aY,Option.getD_some]
 rw [Lg hf,aY,h5,aY]
 rfl
end
end Go.Proofs.YtlpdjhiggpblcaaGreat
namespace Go.Proofs.YtlpdjhiggpblcaaGreat
set_option linter.unusedSectionVars false
set_option linter.unusedSimpArgs false
set_option linter.unusedVariables false
open Go.RowKit
section
variable {P:Program} {G:List (FuncId×Bool×aN)} {oB oT:Nat→Prop} {s s':S}
theorem ac6 {dst:Option Nat}{ats:Array TypeId}(x:V)(hx:∀b,x≠ .v (.string b)):kI P s dst .len ats [x]=bnd ats[0]? fun t=>grd (zN P t=true) (bnd (s.rows x) fun rows=>some (s.put dst (.v (.int .i64 rows.length)))):=by
 cases x<;>first|rfl|(rename_i y;cases y<;>first|rfl|exact absurd rfl (hx _))
theorem ZX {ats:Array TypeId}(x:V)(hx:∀b,x≠ .v (.string b)):BZ P s .len ats [x]=bnd ats[0]? fun t=>grd (zN P t=true) (bnd (s.rows x) fun rows=>some (.v (.int .i64 rows.length))):=by
 cases x<;>first|rfl|(rename_i y;cases y<;>first|rfl|exact absurd rfl (hx _))
theorem agz {b:Builtin}{ats:Array TypeId}{args:List V}{d:Nat}{v:V}(h:BZ P s b ats args=some v):kI P s (some d) b ats args=some (s.put (some d) v):=by
 have h0:=h
 unfold BZ at h
 split at h
 ·obtain⟨t,h1,h⟩:=aj h
  obtain⟨h2,h⟩:=aB h
  injection h with h;subst h
  simp only [kI,h1,aY,eH _ h2]
 ·rename_i x hx
  obtain⟨t,h1,h⟩:=aj h
  obtain⟨h2,h⟩:=aB h
  obtain⟨rows,h3,h⟩:=aj h
  injection h with h;subst h
  rw [ac6 x fun b e=>hx b e]
  simp only [h1,aY,eH _ h2,h3]
 ·injection h with h;subst h;rfl
 ·injection h with h;subst h;rfl
 ·cases h
theorem ae0 (A:Lf oB oT s s'){b:Builtin}{ats:Array TypeId}{args:List V}{v:V}(i:Dh oB oT args)(h:BZ P s b ats args=some v):BZ P s' b ats args=some v:=by
 have h0:=h
 unfold BZ at h
 split at h
 ·exact h
 ·rename_i x hx
  rw [ZX x fun b e=>hx b e]at h0⊢
  exact bC (fun _ h=>h) (fun _ _ h=>wS (fun h=>bC (fun _ h=>A.rows i.1 h) (fun _ _ h=>h) h) h) h0
 ·exact h
 ·exact h
 ·cases h
theorem GQ {x:V}(hx:∀v,x≠ .v v):nI s x=bnd (s.rows x) fun rows=>grd (dN rows=true) (some rows):=by
 cases x<;>first|rfl|exact absurd rfl (hx _)
theorem EH {x:V}{rows:List (List D)}(h:nI s x=some rows):Jy s x=some (rows,s):=by
 cases x with
 | v y=>cases y<;>first|(simp only [nI]at h;cases h;done)|(simp only [nI]at h;injection h with h;subst h;rfl)
 | own q=>
  rw [GQ (by intro v e;cases e)]at h
  obtain⟨r,h1,h⟩:=aj h
  obtain⟨h2,h⟩:=aB h
  injection h with h;subst h
  simp only [S.rows]at h1
  simp only [Jy]
  cases e:look q s.tree with
  | some r'=>rw [e]at h1;simp only [mD]at h1;injection h1 with h1;subst h1;simp only [JZ,if_pos h2]
  | none=>rw [e]at h1;simp only [mD]at h1;simp only [JZ,h1,aY,eH _ h2]
 | _=>
  rw [GQ (by intro v e;cases e)]at h
  obtain⟨r,h1,h⟩:=aj h
  obtain⟨h2,h⟩:=aB h
  injection h with h;subst h
  simp only [S.rows]at h1
  first|(cases h1;done)|(injection h1 with h1;subst h1;first|rfl|simp only [Jy,eH _ h2])|(simp only [Jy,S.rows,h1,aY,eH _ h2])
theorem Lh (A:Lf oB oT s s'){x:V}{rows:List (List D)}(i:NJ oB oT x)(h:nI s x=some rows):nI s' x=some rows:=by
 cases x with
 | v y=>cases y<;>exact h
 | _=>
  rw [GQ (by intro v e;cases e)]at h⊢
  exact bC (fun _ h=>A.rows i h) (fun _ _ h=>h) h
theorem Li:∀{l:List V} {r:List D},bG zT l=some r→iK s l=some (r,s)
 | [],r,h=>by simp only [bG]at h;injection h with h;subst h;rfl
 | v::l,r,h=>by
  simp only [bG]at h
  obtain⟨x,h1,h⟩:=aj h
  obtain⟨q,h2,h⟩:=aj h
  injection h with h;subst h
  cases v<;>first|(simp only [zT]at h1;cases h1;done)|simp only [iK,h1,aY,Li h2]
theorem JG:∀{l:List (Nat×V)} {r:List (List D)},bG (fun v:Nat×V=>bG zT v.2.cells) l=some r→kG s (l.map (·.2))=some (r,s)
 | [],r,h=>by simp only [bG]at h;injection h with h;subst h;rfl
 | v::l,r,h=>by
  simp only [bG]at h
  obtain⟨x,h1,h⟩:=aj h
  obtain⟨q,h2,h⟩:=aj h
  injection h with h;subst h
  simp only [List.map_cons,kG,Li h1,aY,JG h2]
theorem ae1 {d:Nat}{op:Op}{e:Eff}(h:qm P G s d op=some e)(hf:jo s e.tree=true)(hb:kJ s e.box=true):iJ P G s (some d) op=some (s.app (some d) e)∨
  ∃(cl:Call) (p:Nat) (z:V) (t tx el:TypeId) (new:List (List D)),op= .call cl∧cl.callee= .builtin .append∧bG s.ev cl.args.toList=some [.own p,z]∧cl.argTypes[0]?=some t∧cl.argTypes[1]?=some tx∧Du P tx=true∧P.underlying t=some (.slice el)∧Jy s z=some (new,s)∧look p s.tree=some []∧lD P el new.length=true∧wid (P.cellsOf el) new=true∧s.newTree (some d) new=some (s.app (some d) e):=by
 have val:bnd (je P s op) (fun v=>some (⟨v,[],[]⟩:Eff))=some e→iJ P G s (some d) op=some (s.app (some d) e):=fun h=>by
  obtain⟨v,h1,h⟩:=aj h
  injection h with h;subst h
  rw [aeZ h1];rfl
 cases op<;>try exact .inl (val h)
 case alloc t=>
  left
  obtain⟨cs,h1,h⟩:=aj h
  injection h with h;subst h
  simp only [kJ,Bool.and_true]at hb
  simp only [iJ,h1,aY,S.uO]
  rw [eH _ hb];rfl
 case box t x=>
  left
  obtain⟨v,h1,h⟩:=aj h
  obtain⟨h2,h⟩:=aB h
  injection h with h;subst h
  simp only [kJ,Bool.and_true]at hb
  simp only [iJ,h1,aY,S.uO]
  rw [eH _ h2,eH _ hb];rfl
 case buildSlice t n ps=>
  left
  obtain⟨ds,h1,h⟩:=aj h
  obtain⟨el,h2,h⟩:=aj h
  obtain⟨vs,h3,h⟩:=aj h
  obtain⟨h4,h⟩:=aB h
  obtain⟨rows,h5,h⟩:=aj h
  injection h with h;subst h
  simp only [jo,Bool.and_true,Bool.and_eq_true]at hf
  simp only [iJ,h1,h2,h3,aY,eH _ h4,JG h5,S.newTree]
  rw [eH _ hf.1];rfl
 case call c=>
  simp only [qm]at h
  obtain⟨args,h1,h⟩:=aj h
  simp only [iJ,h1,aY]
  unfold J3
  unfold xW at h
  split at h
  ·rename_i b hcl
   unfold W9 at h
   split at h
   ·rename_i x y
    obtain⟨t,h2,h⟩:=aj h
    obtain⟨t1,h3,h⟩:=aj h
    obtain⟨h4,h⟩:=aB h
    obtain⟨ds,h5,h⟩:=aj h
    obtain⟨el,h6,h⟩:=aj h
    obtain⟨new,h7,h⟩:=aj h
    cases x<;>simp only [Gn]at h<;>try (cases h;done)
    case nil=>
     left
     obtain⟨h8,h⟩:=aB h
     injection h with h;subst h
     simp only [jo,Bool.and_true,Bool.and_eq_true]at hf
     simp only [hcl,kI,h2,h3,aY,eH _ h4,IZ,h5,h6,EH h7,rR,eH _ h8,S.newTree,eH _ hf.1]
     rfl
    case own=>
     right
     obtain⟨rows,h8,h⟩:=aj h
     obtain⟨⟨h9,h10,h11⟩,h⟩:=aB h
     injection h with h;subst h
     have hr:rows= []:=by simpa using h9
     subst hr
     have hds:ds= .slice el:=by unfold iN at h6;split at h6<;>first|(injection h6 with h6;subst h6;rfl)|cases h6
     subst hds
     simp only [jo,Bool.and_true,Bool.and_eq_true]at hf
     refine⟨c,_,y,t,t1,el,new,rfl,hcl,h1,h2,h3,h4,h5,EH h7,h8,h10,h11,?_⟩
     simp only [S.newTree,aY,eH _ hf.1]
     rfl
   ·left
    obtain⟨v,h2,h⟩:=aj h
    injection h with h;subst h
    rw [agz h2];rfl
  ·left
   rename_i g hcl
   obtain⟨fv,h2,h⟩:=aj h
   obtain⟨f,h3,h⟩:=aj h
   obtain⟨M,h4,h⟩:=aj h
   obtain⟨h5,h⟩:=aB h
   simp only [hcl,h2,h3,h4,aY,h5,NK]
   exact ZV h hf
  ·cases h
theorem ZY (A:Lf oB oT s s'){d:Nat}{el:TypeId}{new:List (List D)}{x:V}{e:Eff}(i:NJ oB oT x)(h:Gn P s d el new x=some e):Gn P s' d el new x=some e:=by
 cases x<;>simp only [Gn]at h⊢<;>try (cases h;done)
 ·exact h
 ·exact bC (fun _ h=>A.tree _ _ h i) (fun _ _ h=>h) h
theorem ac7 (A:Lf oB oT s s'){d:Nat}{op:Op}{e:Eff}(E:∀x∈op.operands.toList,EF oB oT s s' x)(h:qm P G s d op=some e):qm P G s' d op=some e:=by
 have val:bnd (je P s op) (fun v=>some (⟨v,[],[]⟩:Eff))=some e→bnd (je P s' op) (fun v=>some (⟨v,[],[]⟩:Eff))=some e:=fun h=>bC (fun _ h=>TD A E h) (fun _ _ h=>h) h
 cases op<;>try exact val h
 case alloc t=>exact h
 case box t x=>exact bC (fun v h=>(E x (by simp [Op.operands]) v h).1) (fun _ _ h=>h) h
 case buildSlice t n ps=>exact bC (fun _ h=>h) (fun _ _ h=>bC (fun _ h=>h) (fun _ _ h=>bC (fun _ h=>EG (fun x hx=>E x.2 (by simp only [Op.operands];exact List.mem_map.2 ⟨x,hx,rfl⟩)) h) (fun _ _ h=>h) h) h) h
 case call c=>
  simp only [qm]at h⊢
  obtain⟨args,h1,h⟩:=aj h
  have hmem:∀x∈c.args.toList,EF oB oT s s' x:=fun x hx=>E x (by simp only [Op.operands,Call.operands,Array.toList_append];exact List.mem_append_right _ hx)
  obtain⟨k1,k2⟩:=DF hmem h1
  rw [k1,aY]
  unfold xW at h⊢
  split at h
  ·rename_i b hcl
   unfold W9 at h⊢
   split at h
   ·rename_i x y
    exact bC (fun _ h=>h) (fun _ _ h=>bC (fun _ h=>h) (fun _ _ h=>wS (fun h=>bC (fun _ h=>h) (fun _ _ h=>bC (fun _ h=>h) (fun _ _ h=>bC (fun _ h=>Lh A k2.2.1 h) (fun _ _ h=>ZY A k2.1 h) h) h) h) h) h) h
   ·exact bC (fun _ h=>ae0 A k2 h) (fun _ _ h=>h) h
  ·rename_i g hcl
   obtain⟨fv,h2,h⟩:=aj h
   obtain⟨f,h3,h⟩:=aj h
   obtain⟨M,h4,h⟩:=aj h
   obtain⟨h5,h⟩:=aB h
   obtain⟨k3,k4⟩:=E g (by simp only [Op.operands,Call.operands,hcl];simp) fv h2
   simp only [k3,h3,h4,aY,eH _ h5]
   refine Xu A (Xr k2 ?_) h
   cases fv<;>simp only [UM]at h3<;>try (cases h3;done)
   injection h3 with h3;subst h3
   exact k4
  ·cases h
end
theorem PX {α:Type}{k:Nat}{l:List (Nat×α)}:k∈l.map (·.1)↔∃x,look k l=some x:=by
 constructor
 ·intro h
  cases e:look k l with
  | some x=>exact⟨x,rfl⟩
  | none=>exact absurd h (jY e)
 ·rintro ⟨x,e⟩
  exact List.mem_map.2 ⟨_,fD e,rfl⟩
theorem EI {s:S}{b:Nat}:b∈oO s↔∃cs,look b s.box=some cs:=PX
theorem u7 {s:S}{p:Nat}:p∈iH s↔(∃r,look p s.tree=some r)∨∃r,look p s.dG=some r:=by
 unfold iH
 rw [List.map_append,List.mem_append,PX,PX]
theorem PY {α:Type}{k:Nat}:∀{l m:List (Nat×α)},k∉l.map (·.1)→look k (l++m)=look k m
 | [],_,_=>rfl
 | (j,x)::l,m,h=>by
  simp only [List.map_cons,List.mem_cons,not_or]at h
  simp only [List.cons_append,look,if_neg h.1]
  exact PY h.2
theorem TG {α:Type}{k:Nat}{l l':List (Nat×α)}(p:l'.Perm l)(n:(l.map (·.1)).Nodup):look k l'=look k l:=by
 have n':(l'.map (·.1)).Nodup:=(p.map _).nodup_iff.2 n
 cases h:look k l with
 | some x=>exact jZ n' (p.mem_iff.2 (fD h))
 | none=>
  cases h':look k l' with
  | none=>rfl
  | some x=>
   have:look k l=some x:=jZ n (p.mem_iff.1 (fD h'))
   rw [h]at this;cases this
structure Bj (s s1:S):Prop where
 box:∀b∈oO s,look b s1.box=look b s.box
 tree:∀p∈iH s,look p s1.tree=look p s.tree
 dG:s1.dG=s.dG
theorem Bj.refl (s:S):Bj s s:=⟨fun _ _=>rfl,fun _ _=>rfl,rfl⟩
theorem Bj.oO {s s1:S}(W:Bj s s1){b:Nat}(h:b∈oO s):b∈oO s1:=by
 obtain⟨cs,e⟩:=EI.1 h
 exact EI.2 ⟨cs,by rw [W.box b h];exact e⟩
theorem Bj.iH {s s1:S}(W:Bj s s1){p:Nat}(h:p∈iH s):p∈iH s1:=by
 rcases u7.1 h with⟨r,e⟩|⟨r,e⟩
 ·exact u7.2 (.inl ⟨r,by rw [W.tree p h];exact e⟩)
 ·exact u7.2 (.inr ⟨r,by rw [W.dG];exact e⟩)
theorem Bj.trans {s s1 s2:S}(W:Bj s s1)(X:Bj s1 s2):Bj s s2:=
 ⟨fun b h=>(X.box b (W.oO h)).trans (W.box b h),fun p h=>(X.tree p (W.iH h)).trans (W.tree p h),X.dG.trans W.dG⟩
theorem Bj.rows {s s1:S}(W:Bj s s1){p:Nat}(h:p∈Proofs.YtlpdjhiggpblcaaGreat.iH s):s1.rows (.own p)=s.rows (.own p):=by
 simp only [S.rows,W.tree p h,W.dG]
theorem Bj.up {s s1:S}(W:Bj s s1):Lf (fun _=>True) (fun _=>True) s s1:=
 ⟨fun b cs h _=>by rw [W.box b (EI.2 ⟨cs,h⟩)];exact h,fun p r h _=>by
  have:p∈Proofs.YtlpdjhiggpblcaaGreat.iH s:=by
   simp only [S.rows]at h
   cases e:look p s.tree with
   | some r'=>exact u7.2 (.inl ⟨r',e⟩)
   | none=>rw [e]at h;exact u7.2 (.inr ⟨r,h⟩)
  rw [W.rows this];exact h,fun p r h _=>by rw [W.tree p (u7.2 (.inl ⟨r,h⟩))];exact h,W.dG⟩
theorem Bj.down {s s1:S}(W:Bj s s1):Lf (· ∈Proofs.YtlpdjhiggpblcaaGreat.oO s) (· ∈Proofs.YtlpdjhiggpblcaaGreat.iH s) s1 s:=
 ⟨fun b cs h hb=>by rw [←W.box b hb];exact h,fun p r h hp=>by rw [←W.rows hp];exact h,fun p r h hp=>by rw [←W.tree p hp];exact h,W.dG.symm⟩
structure Bl (e:Eff) (s:S):Prop where
 nt:(e.tree.map (·.1)).Nodup
 t:∀p∈e.tree.map (·.1),p∉iH s∧p<1000000000
 nb:(e.box.map (·.1)).Nodup
 b:∀b∈e.box.map (·.1),b∉oO s
theorem ahP {l:List (Nat×List (List D))}:∀{s:S},jo s l=true↔(l.map (·.1)).Nodup∧∀p∈l.map (·.1),p∉iH s∧p<1000000000:=by
 induction l with
 | nil=>intro s;simp [jo]
 | cons x r ih=>
  intro s
  have hk:∀p,p∈iH {s with tree:=x::s.tree}↔p=x.1∨p∈iH s:=fun p=>by simp [iH]
  have hf:fresh s x.1=true↔x.1∉iH s:=by
   unfold fresh
   rw [Bool.and_eq_true,Option.isNone_iff_eq_none,Option.isNone_iff_eq_none,u7]
   constructor
   ·rintro ⟨h1,h2⟩ (⟨r,e⟩|⟨r,e⟩)
    ·rw [h1]at e;cases e
    ·rw [h2]at e;cases e
   ·intro h
    constructor
    ·cases e:look x.1 s.tree with
     | none=>rfl
     | some r=>exact absurd (.inl ⟨r,e⟩) h
    ·cases e:look x.1 s.dG with
     | none=>rfl
     | some r=>exact absurd (.inr ⟨r,e⟩) h
  simp only [jo,Bool.and_eq_true,decide_eq_true_eq,List.map_cons,List.nodup_cons,List.mem_cons,forall_eq_or_imp]
  rw [ih,hf]
  constructor
  ·rintro ⟨⟨h1,h2⟩,h3,h4⟩
   exact⟨⟨fun h=>(h4 _ h).1 ((hk _).2 (.inl rfl)),h3⟩,⟨h1,h2⟩,fun p hp=>⟨fun h=>(h4 p hp).1 ((hk p).2 (.inr h)),(h4 p hp).2⟩⟩
  ·rintro ⟨⟨h1,h2⟩,h3,h4⟩
   exact⟨h3,h2,fun p hp=>⟨fun h=>((hk p).1 h).elim (fun e=>h1 (e▸hp)) (h4 p hp).1,(h4 p hp).2⟩⟩
theorem ahQ {l:List (Nat×List V)}:∀{s:S},kJ s l=true↔(l.map (·.1)).Nodup∧∀p∈l.map (·.1),p∉oO s:=by
 induction l with
 | nil=>intro s;simp [kJ]
 | cons x r ih=>
  intro s
  have hk:∀p,p∈oO {s with box:=x::s.box}↔p=x.1∨p∈oO s:=fun p=>by simp [oO]
  have hf:(look x.1 s.box).isNone=true↔x.1∉oO s:=by
   rw [Option.isNone_iff_eq_none,EI]
   constructor
   ·rintro h1 ⟨r,e⟩;rw [h1]at e;cases e
   ·intro h
    cases e:look x.1 s.box with
    | none=>rfl
    | some r=>exact absurd ⟨r,e⟩ h
  simp only [kJ,Bool.and_eq_true,List.map_cons,List.nodup_cons,List.mem_cons,forall_eq_or_imp]
  rw [ih,hf]
  constructor
  ·rintro ⟨h1,h3,h4⟩
   exact⟨⟨fun h=>(h4 _ h) ((hk _).2 (.inl rfl)),h3⟩,h1,fun p hp h=>(h4 p hp) ((hk p).2 (.inr h))⟩
  ·rintro ⟨⟨h1,h2⟩,h3,h4⟩
   exact⟨h3,h2,fun p hp h=>((hk p).1 h).elim (fun e=>h1 (e▸hp)) (h4 p hp)⟩
theorem TH {e:Eff}{s:S}:(jo s e.tree&&kJ s e.box)=true↔Bl e s:=by
 rw [Bool.and_eq_true,ahP,ahQ]
 exact⟨fun⟨⟨a,b⟩,c,d⟩=>⟨a,b,c,d⟩,fun h=>⟨⟨h.nt,h.t⟩,h.nb,h.b⟩⟩
theorem Bl.less {e:Eff}{s s1:S}(h:Bl e s1)(W:Bj s s1):Bl e s:=
 ⟨h.nt,fun p hp=>⟨fun k=>(h.t p hp).1 (W.iH k),(h.t p hp).2⟩,h.nb,fun b hb k=>h.b b hb (W.oO k)⟩
theorem TI {s:S}{d:Option Nat}{e:Eff}{b:Nat}:b∈oO (s.app d e)↔b∈e.box.map (·.1)∨b∈oO s:=by simp [oO,S.app]
theorem DJ {s:S}{d:Option Nat}{e:Eff}{p:Nat}:p∈iH (s.app d e)↔p∈e.tree.map (·.1)∨p∈iH s:=by
 unfold iH S.app
 simp only [List.map_append,List.mem_append,List.map_reverse,List.mem_reverse]
 exact or_assoc
theorem Bl.wide {e:Eff}{s:S}(h:Bl e s)(d:Option Nat):Bj s (s.app d e):=
 ⟨fun b hb=>PY fun k=>h.b b k hb,fun p hp=>PY fun k=>(h.t p (by simpa using k)).1 hp,rfl⟩
def Nd (s:S):Prop:=(oO s).Nodup∧(iH s).Nodup
theorem Bl.nd {e:Eff}{s:S}(h:Bl e s)(n:Nd s)(d:Option Nat):Nd (s.app d e):=by
 constructor
 ·show((e.box++s.box).map (·.1)).Nodup
  rw [List.map_append]
  exact List.nodup_append.2 ⟨h.nb,n.1,fun a ha b hb e=>h.b a ha (e▸hb)⟩
 ·show((e.tree.reverse++s.tree++s.dG).map (·.1)).Nodup
  rw [List.append_assoc,List.map_append]
  refine List.nodup_append.2 ⟨?_,n.2,fun a ha b hb e=>(h.t a (by simpa using ha)).1 (e▸hb)⟩
  rw [List.map_reverse];exact(List.reverse_perm _).nodup_iff.2 h.nt
structure Gf (s s2:S):Prop where
 env:∀t,look t s2.env=look t s.env
 box:s2.box.Perm s.box
 tree:s2.tree.Perm s.tree
 dG:s2.dG=s.dG
theorem Gf.refl (s:S):Gf s s:=⟨fun _=>rfl, .refl _, .refl _,rfl⟩
theorem Gf.trans {a b c:S}(h:Gf a b)(k:Gf b c):Gf a c:=⟨fun t=>(k.env t).trans (h.env t),k.box.trans h.box,k.tree.trans h.tree,k.dG.trans h.dG⟩
theorem Gf.symm {a b:S}(h:Gf a b):Gf b a:=⟨fun t=>(h.env t).symm,h.box.symm,h.tree.symm,h.dG.symm⟩
theorem Nd.parts {s:S}(n:Nd s):(s.box.map (·.1)).Nodup∧(s.tree.map (·.1)).Nodup:=⟨n.1,by
 have:=n.2;unfold iH at this;rw [List.map_append]at this;exact(List.nodup_append.1 this).1⟩
theorem Gf.wide {s s2:S}(h:Gf s s2)(n:Nd s):Bj s s2:=
 ⟨fun b _=>TG h.box n.parts.1,fun p _=>TG h.tree n.parts.2,h.dG⟩
theorem Gf.nd {s s2:S}(h:Gf s s2)(n:Nd s):Nd s2:=by
 refine⟨(h.box.map _).nodup_iff.2 n.1,?_⟩
 unfold iH
 rw [h.dG]
 exact((h.tree.append_right s.dG).map _).nodup_iff.2 n.2
theorem Gf.oO {s s2:S}(h:Gf s s2){b:Nat}:b∈Proofs.YtlpdjhiggpblcaaGreat.oO s2↔b∈Proofs.YtlpdjhiggpblcaaGreat.oO s:=(h.box.map _).mem_iff
theorem Gf.iH {s s2:S}(h:Gf s s2){p:Nat}:p∈Proofs.YtlpdjhiggpblcaaGreat.iH s2↔p∈Proofs.YtlpdjhiggpblcaaGreat.iH s:=by
 unfold Proofs.YtlpdjhiggpblcaaGreat.iH;rw [h.dG];exact((h.tree.append_right s.dG).map _).mem_iff
theorem TJ {s:S}{d:Option Nat}{v:V}(t:Nat):look t (s.put d v).env=if some t=d then some v else look t s.env:=by
 cases d with
 | none=>rw [if_neg (by intro h;cases h)];rfl
 | some d=>
  show look t (YtlpdjhiggpblcaaGreat.put d v s.env)=_
  rw [K5]
  by_cases h:t=d
  ·subst h;rw [if_pos rfl,if_pos rfl]
  ·rw [if_neg h,if_neg (by intro e;injection e with e;exact h e)]
theorem mW {s:S}{d:Option Nat}{e:Eff}(t:Nat):look t (s.app d e).env=if some t=d then some e.val else look t s.env:=TJ t
theorem Gf.app {s s2:S}(h:Gf s s2)(d:Option Nat)(e:Eff):Gf (s.app d e) (s2.app d e):=
 ⟨fun t=>by rw [mW,mW,h.env],h.box.append_left _,h.tree.append_left _,h.dG⟩
theorem ae2 (s:S){d d':Option Nat}(e e':Eff)(h:∀t,d=some t→d'≠some t):Gf ((s.app d e).app d' e') ((s.app d' e').app d e):=
 ⟨fun t=>by
  rw [mW,mW,mW,mW]
  by_cases h1:some t=d
  ·rw [if_pos h1,if_neg fun h2=>h t h1.symm h2.symm,if_pos h1]
  ·by_cases h2:some t=d'
   ·rw [if_neg h1,if_pos h2]
    split<;>first|rfl|(rename_i h3;exact absurd h2 h3)
   ·rw [if_neg h1,if_neg h2,if_neg h2,if_neg h1],
  by show(e.box++(e'.box++s.box)).Perm (e'.box++(e.box++s.box))
     rw [←List.append_assoc,←List.append_assoc];exact List.Perm.append_right _ List.perm_append_comm,
  by show(e.tree.reverse++(e'.tree.reverse++s.tree)).Perm (e'.tree.reverse++(e.tree.reverse++s.tree))
     rw [←List.append_assoc,←List.append_assoc];exact List.Perm.append_right _ List.perm_append_comm,rfl⟩
structure Pd where
 i:Nat
 o:Oper
 g:Bool
 e:Eff
section
variable {P:Program} {G:List (FuncId×Bool×aN)} {ops:Array Oper}
structure PZ (P:Program) (G:List (FuncId×Bool×aN)) (ops:Array Oper) (s:S) (x:Pd):Prop where
 wants:s.wants ops x.o.guard=some x.g
 yes:x.g=true→∃d,x.o.dst=some d∧qm P G s d x.o.op=some x.e
 no:x.g=false→x.e=⟨.fK [],[],[]⟩
 new:Bl x.e s
theorem PZ.move {oB oT:Nat→Prop}{s s':S}{x:Pd}(h:PZ P G ops s x)(A:Lf oB oT s s')(hL:∀t∈x.o.looksAt ops,look t s'.env=look t s.env)
  (hI:∀t∈x.o.looksAt ops,∀v,look t s'.env=some v→NJ oB oT v) (hF:Bl x.e s'):PZ P G ops s' x:=by
 refine⟨?_,fun hg=>?_,h.no,hF⟩
 ·have:=h.wants
  cases e:x.o.guard with
  | none=>rw [e]at this;exact this
  | some jw=>
   obtain⟨j,want⟩:=jw
   rw [e]at this
   simp only [S.wants]at this⊢
   cases hd:(ops[j]?).bind (·.dst)with
   | none=>rw [hd]at this;exact this
   | some d=>
    rw [hd]at this
    simp only [I6]at this⊢
    rw [hL d (by unfold Oper.looksAt;rw [e];simp [hd])];exact this
 ·obtain⟨d,h1,h2⟩:=h.yes hg
  refine⟨d,h1,ac7 A (fun z hz v hv=>?_) h2⟩
  cases z with
  | tmp t=>
   have ht:t∈x.o.looksAt ops:=by
    unfold Oper.looksAt
    exact List.mem_append_left _ (List.mem_filterMap.2 ⟨.tmp t,hz,rfl⟩)
   have hv:look t s.env=some v:=hv
   have h3:look t s'.env=some v:=by rw [hL t ht];exact hv
   exact⟨h3,hI t ht v h3⟩
  | const c=>exact⟨hv,PW hv⟩
  | func f=>exact⟨hv,by have hv:some (V.fn f [])=some v:=hv;injection hv with hv;subst hv;trivial⟩
  | global g=>cases hv
inductive Seg (P:Program) (G:List (FuncId×Bool×aN)) (ops:Array Oper):S→List Pd→S→Prop
 | nil (s:S):Seg P G ops s [] s
 | cons {s t:S} {x:Pd} {l:List Pd}:PZ P G ops s x→Seg P G ops (s.app x.o.dst x.e) l t→Seg P G ops s (x::l) t
theorem Seg.eqv {l:List Pd}:∀{s s2 t:S},Seg P G ops s l t→Gf s s2→Nd s→∃t2,Seg P G ops s2 l t2∧Gf t t2:=by
 induction l with
 | nil=>intro s s2 t h k n;cases h;exact⟨s2, .nil _,k⟩
 | cons x l ih=>
  intro s s2 t h k n
  cases h with
  | cons h1 h2=>
   have hF:Bl x.e s2:=⟨h1.new.nt,fun p hp=>⟨fun q=>(h1.new.t p hp).1 (k.iH.1 q),(h1.new.t p hp).2⟩,h1.new.nb,fun b hb q=>h1.new.b b hb (k.oO.1 q)⟩
   obtain⟨t2,a,b⟩:=ih h2 (k.app x.o.dst x.e) (h1.new.nd n _)
   exact⟨t2, .cons (h1.move (k.wide n).up (fun t _=>k.env t) (fun _ _ v _=>Bh v) hF) a,b⟩
theorem Seg.fresh {x:Pd}{l2:List Pd}:∀{l:List Pd} {s t:S},Seg P G ops s (l++x::l2) t→Bl x.e s
 | [],s,t,h=>by cases h with|cons h1 _=>exact h1.new
 | y::l,s,t,h=>by
  cases h with
  | cons h1 h2=>exact(Seg.fresh (l:=l) h2).less (h1.new.wide _)
theorem Seg.skip {x:Pd}{l2:List Pd}:∀{l:List Pd} {s s2 t:S},Seg P G ops s (l++x::l2) t→(∀y∈l,x.o.apart ops y.o=true)→Gf (s.app x.o.dst x.e) s2→Nd s→∃t2,Seg P G ops s2 (l++l2) t2∧Gf t t2
 | [],s,s2,t,h,_,k,n=>by
  cases h with|cons h1 h2=>exact Seg.eqv h2 k (h1.new.nd n _)
 | y::l,s,s2,t,h,ha,k,n=>by
  have hx:=Seg.fresh (l:=y::l) h
  cases h with
  | cons h1 h2=>
   have hx1:=Seg.fresh (l:=l) h2
   obtain⟨a1,a2,a3⟩:=Oper.apart_spec (ha y (by simp))
   have n1:Nd (s.app x.o.dst x.e):=hx.nd n _
   have W:Bj s s2:=(hx.wide _).trans (k.wide n1)
   have hF:Bl y.e s2:=by
    refine⟨h1.new.nt,fun p hp=>⟨fun q=>?_,(h1.new.t p hp).2⟩,h1.new.nb,fun b hb q=>?_⟩
    ·rcases DJ.1 (k.iH.1 q)with q|q
     ·exact(hx1.t p q).1 (DJ.2 (.inl hp))
     ·exact(h1.new.t p hp).1 q
    ·rcases TI.1 (k.oO.1 q)with q|q
     ·exact hx1.b b q (TI.2 (.inl hb))
     ·exact h1.new.b b hb q
   have hy:PZ P G ops s2 y:=h1.move W.up (fun t ht=>by
    rw [k.env,mW,if_neg]
    intro e;exact a1 t e.symm ht) (fun _ _ v _=>Bh v) hF
   obtain⟨t2,b1,b2⟩:=Seg.skip (l:=l) h2 (fun z hz=>ha z (by simp [hz])) ((ae2 s y.e x.e fun t e=>fun e2=>a2 t e2 e).trans (k.app y.o.dst y.e)) (h1.new.nd n _)
   exact⟨t2, .cons hy b1,b2⟩
theorem Seg.upto {x:Pd}{l2:List Pd}:∀{l:List Pd} {s t:S},Seg P G ops s (l++x::l2) t→∃s1,PZ P G ops s1 x∧Bj s s1∧∀r,(∀y∈l,y.o.dst≠some r)→look r s1.env=look r s.env
 | [],s,t,h=>by cases h with|cons h1 h2=>exact⟨s,h1, .refl s,fun _ _=>rfl⟩
 | y::l,s,t,h=>by
  cases h with
  | cons h1 h2=>
   obtain⟨s1,a,b,c⟩:=Seg.upto (l:=l) h2
   refine⟨s1,a,(h1.new.wide _).trans b,fun r hr=>?_⟩
   rw [c r fun z hz=>hr z (by simp [hz]),mW,if_neg fun e=>hr y (by simp) e.symm]
theorem Seg.front {x:Pd}{l l2:List Pd}{s t:S}(h:Seg P G ops s (l++x::l2) t)(ha:∀y∈l,x.o.apart ops y.o=true)(n:Nd s)(hI:∀r v,look r s.env=some v→NJ (· ∈oO s) (· ∈iH s) v):
  PZ P G ops s x∧∃t2,Seg P G ops (s.app x.o.dst x.e) (l++l2) t2∧Gf t t2:=by
 obtain⟨s1,h1,W,he⟩:=h.upto
 refine⟨h1.move W.down (fun r hr=>(he r fun y hy e=>(Oper.apart_spec (ha y hy)).2.2 r e hr).symm) (fun r _ v hv=>hI r v hv) (h1.new.less W),Seg.skip h ha (.refl _) n⟩
end
def qz (o:Oper):List Nat:=(o.after.toList.filter (Region.binds .any)).map (·.on)
inductive Reach (l:List Oper):Nat→Nat→Prop
 | one {i e:Nat} {o:Oper}:l[i]?=some o→e∈qz o→Reach l i e
 | tail {i e j:Nat} {o:Oper}:l[i]?=some o→e∈qz o→Reach l e j→Reach l i j
def P5 (C:List (Nat×Nat))(e:Nat):Nat:=(look e C).getD 0
def Kc (C:List (Nat×Nat)):List Nat→Nat
 | []=>0
 | e::r=>((1 <<< e) ||| P5 C e) ||| Kc C r
theorem NM {C:List (Nat×Nat)}{j:Nat}:∀{l:List Nat},(Kc C l).testBit j=true→∃e∈l,j=e∨(P5 C e).testBit j=true
 | [],h=>by simp [Kc]at h
 | e::r,h=>by
  unfold Kc at h
  rw [Nat.testBit_or,Nat.testBit_or,Bool.or_eq_true,Bool.or_eq_true]at h
  rcases h with(h|h)|h
  ·refine⟨e,by simp, .inl ?_⟩
   rw [Nat.one_shiftLeft,Nat.testBit_two_pow]at h
   simpa using (of_decide_eq_true h).symm
  ·exact⟨e,by simp, .inr h⟩
  ·obtain⟨e',h1,h2⟩:=NM h
   exact⟨e',by simp [h1],h2⟩
def ab8 (bars:List (Nat×List Nat))(x y:Nat×Oper):Bool:=match look x.1 bars with
 | none=>true
 | some fl=>fl.contains y.1
def ae3 (ops:Array Oper)(bars:List (Nat×List Nat))(M:Nat)(x y:Nat×Oper):Bool:=
 M.testBit y.1||(x.2.apart ops y.2&&((look y.1 bars).isNone&&ab8 bars x y))
def P6 (bars:List (Nat×List Nat))(x:Nat×Oper):Bool:=match look x.1 bars with
 | some (_::_)=>x.2.guard.isNone
 | _=>true
def agA (ops:Array Oper)(bars:List (Nat×List Nat)):List (Nat×Oper)→List (Nat×Nat)→List (Nat×Oper)→Bool
 | _,_,[]=>true
 | done,C,x::r=>(qz x.2).all (fun e=>done.any fun y=>y.1==e)&&(P6 bars x&&(done.all (fun y=> !(y.1==x.1)&&ae3 ops bars (Kc C (qz x.2)) x y)&&agA ops bars (x::done) ((x.1,Kc C (qz x.2))::C) r))
def away (ops:Array Oper)(x y:Oper):Bool:=match y.dst with
 | some d=> !(x.looksAt ops).contains d
 | none=>true
def EJ (ops:Array Oper)(ap:Bool):List (Nat×Oper)→Bool
 | []=>true
 | x::r=>((ap||isVal x.2.op)&&x.2.guard.isNone&&x.2.dst.isSome&&away ops x.2 x.2&&r.all fun y=>away ops x.2 y.2&& !(x.2.dst==y.2.dst))&&EJ ops ap r
def Xv (ops:Array Oper)(i:Nat):Bool:=match ops[i]? with
 | some o=>isApp o.op
 | none=>false
def Vb (ops:Array Oper)(b:List Nat×List (Nat×List Nat)):Bool:=
 agA ops b.2 [] [] (z8 ops b.1)&&(decide ((z8 ops b.1).length=ops.size)&&((List.range ops.size).all (fun i=>(z8 ops b.1).any fun x=>x.1==i)&&b.2.all fun z=>EJ ops (Xv ops z.1) ((z8 ops b.1).filter fun y=>z.2.contains y.1)))
def Pair (ops:Array Oper)(bars:List (Nat×List Nat))(x y:Nat×Oper):Prop:=
 Reach ops.toList x.1 y.1∨(x.2.apart ops y.2=true∧look y.1 bars=none∧(look x.1 bars=none∨∃fl,look x.1 bars=some fl∧y.1∈fl))
structure Z0 (ops:Array Oper) (bars:List (Nat×List Nat)) (L:List (Nat×Oper)):Prop where
 mem:∀x∈L,ops[x.1]?=some x.2
 all:∀i,i<ops.size→i∈L.map (·.1)
 len:L.length=ops.size
 at_:∀A x B,L=A++x::B→(∀e∈qz x.2,e∈A.map (·.1))∧(∀fl f,look x.1 bars=some (f::fl)→x.2.guard=none)∧∀y∈A,y.1≠x.1∧Pair ops bars x y
 fl:∀z∈bars,EJ ops (Xv ops z.1) (L.filter fun y=>z.2.contains y.1)=true
theorem TK {ops:Array Oper}{bars:List (Nat×List Nat)}:∀{r:List (Nat×Oper)} {done:List (Nat×Oper)} {C:List (Nat×Nat)},agA ops bars done C r=true→(∀x∈r,ops[x.1]?=some x.2)→(∀i j,(P5 C i).testBit j=true→Reach ops.toList i j)→
  ∀A x B,r=A++x::B→(∀e∈qz x.2,e∈A.map (·.1)∨e∈done.map (·.1))∧(∀fl f,look x.1 bars=some (f::fl)→x.2.guard=none)∧∀y,y∈A∨y∈done→y.1≠x.1∧Pair ops bars x y
 | [],done,C,_,_,_,A,x,B,e=>by simp at e
 | z::r,done,C,h,hm,hC,A,x,B,e=>by
  unfold agA at h
  simp only [Bool.and_eq_true]at h
  obtain⟨h1,h2,h3,h4⟩:=h
  have hz:ops.toList[z.1]?=some z.2:=by rw [Array.getElem?_toList];exact hm z (by simp)
  have hR:∀j,(Kc C (qz z.2)).testBit j=true→Reach ops.toList z.1 j:=fun j hj=>by
   obtain⟨e',k1,k2|k2⟩:=NM hj
   ·subst k2;exact .one hz k1
   ·exact .tail hz k1 (hC _ _ k2)
  cases A with
  | nil=>
   simp only [List.nil_append,List.cons.injEq]at e
   obtain⟨rfl,rfl⟩:=e
   refine⟨fun e he=> .inr ?_,fun fl f hf=>?_,fun y hy=>?_⟩
   ·have:=List.all_eq_true.1 h1 e he
    obtain⟨y,k1,k2⟩:=List.any_eq_true.1 this
    exact List.mem_map.2 ⟨y,k1,by simpa using k2⟩
   ·unfold P6 at h2
    rw [hf]at h2
    simpa using h2
   ·rcases hy with hy|hy
    ·cases hy
    ·have:=List.all_eq_true.1 h3 y hy
     rw [Bool.and_eq_true]at this
     refine⟨by simpa using this.1,?_⟩
     have h5:=this.2
     unfold ae3 at h5
     rw [Bool.or_eq_true,Bool.and_eq_true,Bool.and_eq_true]at h5
     rcases h5 with h5|⟨h5,h6,h7⟩
     ·exact .inl (hR _ h5)
     ·refine .inr ⟨h5,by simpa using h6,?_⟩
      unfold ab8 at h7
      cases e:look z.1 bars with
      | none=>exact .inl rfl
      | some fl=>rw [e]at h7;exact .inr ⟨fl,rfl,by simpa using h7⟩
  | cons a A=>
   simp only [List.cons_append,List.cons.injEq]at e
   obtain⟨rfl,e⟩:=e
   obtain⟨k1,k2,k3⟩:=TK h4 (fun x hx=>hm x (by simp [hx])) (fun i j hj=>by
    unfold P5 at hj
    simp only [look]at hj
    split at hj
    ·rename_i e;subst e;exact hR j hj
    ·exact hC i j hj) A x B e
   refine⟨fun e he=>?_,k2,fun y hy=>k3 y ?_⟩
   ·rcases k1 e he with h|h
    ·exact .inl (by simp [h])
    ·rw [List.map_cons,List.mem_cons]at h
     rcases h with h|h
     ·exact .inl (by simp [h])
     ·exact .inr h
   ·rcases hy with hy|hy
    ·rcases List.mem_cons.1 hy with hy|hy
     ·subst hy;exact .inr (by simp)
     ·exact .inl hy
    ·exact .inr (by simp [hy])
theorem P7 {x:Nat×Oper}:∀{l:List Oper} {k:Nat},x∈Gp k l→∃j,l[j]?=some x.2∧x.1=k+j
 | [],k,h=>by cases h
 | o::l,k,h=>by
  rcases List.mem_cons.1 h with h|h
  ·subst h;exact⟨0,rfl,rfl⟩
  ·obtain⟨j,h1,h2⟩:=P7 h
   exact⟨j+1,by simpa using h1,by omega⟩
theorem Ke {ops:Array Oper}{x:Nat×Oper}:∀{l:List Nat},x∈picked ops l→ops[x.1]?=some x.2
 | [],h=>by cases h
 | i::l,h=>by
  unfold picked at h
  cases e:ops[i]? with
  | none=>rw [e]at h;exact Ke h
  | some o=>
   rw [e]at h
   rcases List.mem_cons.1 h with h|h
   ·subst h;exact e
   ·exact Ke h
theorem Xw {ops:Array Oper}{b:List Nat×List (Nat×List Nat)}(h:Vb ops b=true):Z0 ops b.2 (z8 ops b.1):=by
 unfold Vb at h
 simp only [Bool.and_eq_true,decide_eq_true_eq]at h
 obtain⟨h1,h2,h3,h4⟩:=h
 have hm:∀x∈z8 ops b.1,ops[x.1]?=some x.2:=fun x hx=>by
  unfold z8 at hx
  split at hx
  ·obtain⟨j,k1,k2⟩:=P7 hx
   rw [k2,Nat.zero_add,←Array.getElem?_toList];exact k1
  ·exact Ke hx
 refine⟨hm,fun i hi=>?_,h2,fun A x B e=>?_,fun z hz=>List.all_eq_true.1 h4 z hz⟩
 ·obtain⟨x,k1,k2⟩:=List.any_eq_true.1 (List.all_eq_true.1 h3 i (List.mem_range.2 hi))
  exact List.mem_map.2 ⟨x,k1,by simpa using k2⟩
 ·obtain⟨k1,k2,k3⟩:=TK h1 hm (fun i j hj=>by simp [P5,look]at hj) A x B e
  exact⟨fun e he=>(k1 e he).elim id (fun h=>by cases h),k2,fun y hy=>k3 y (.inl hy)⟩
theorem ae4 {ops:Array Oper}{ap:Bool}{l m:List (Nat×Oper)}(h:l.Sublist m):EJ ops ap m=true→EJ ops ap l=true:=by
 induction h with
 | slnil=>exact id
 | cons x _ ih=>intro k;unfold EJ at k;rw [Bool.and_eq_true]at k;exact ih k.2
 | cons_cons x s ih=>
  intro k
  unfold EJ at k⊢
  simp only [Bool.and_eq_true]at k⊢
  obtain⟨⟨⟨⟨⟨k1,k2⟩,k3⟩,k4⟩,k5⟩,k6⟩:=k
  exact⟨⟨⟨⟨⟨k1,k2⟩,k3⟩,k4⟩,List.all_eq_true.2 fun y hy=>List.all_eq_true.1 k5 y (s.subset hy)⟩,ih k6⟩
section
variable {P:Program} {G:List (FuncId×Bool×aN)} {ops:Array Oper} {bars:List (Nat×List Nat)} {c:Ctx}
def both (x:Pd):Nat×Oper:=(x.i,x.o)
theorem ab9 (s:S)(d:Option Nat):s.put d (.fK [])=s.app d ⟨.fK [],[],[]⟩:=by cases d<;>rfl
theorem Bl.none (v:V)(s:S):Bl ⟨v,[],[]⟩ s:=⟨List.nodup_nil,(fun p h=>by cases h),List.nodup_nil,(fun p h=>by cases h)⟩
theorem collect:∀{l:List (Nat×Oper)} {s q:S},om P G ops bars l (.on s)=some (.on q)→
  ∃(pend:List Pd) (t:S) (l2:List (Nat×Oper)),l=pend.map both++l2∧Seg P G ops s pend t∧om P G ops bars l2 (.on t)=some (.on q)∧(∀x r,l2=x::r→look x.1 bars≠none)∧∀x∈pend,look x.i bars=none
 | [],s,q,h=>⟨[],s,[],rfl, .nil s,h,(fun x r e=>by cases e),fun x hx=>by cases hx⟩
 | o::l,s,q,h=>by
  cases hb:look o.1 bars with
  | some fl=>exact⟨[],s,o::l,rfl, .nil s,h,(fun x r e=>by injection e with e _;subst e;rw [hb];simp),fun x hx=>by cases hx⟩
  | none=>
   rw [J7]at h
   obtain⟨g,h1,h⟩:=aj h
   have key:∀(e:Eff),PZ P G ops s ⟨o.1,o.2,g,e⟩→om P G ops bars l (.on (s.app o.2.dst e))=some (.on q)→∃(pend:List Pd) (t:S) (l2:List (Nat×Oper)),o::l=pend.map both++l2∧Seg P G ops s pend t∧om P G ops bars l2 (.on t)=some (.on q)∧(∀x r,l2=x::r→look x.1 bars≠none)∧∀x∈pend,look x.i bars=none:=fun e he h=>by
    obtain⟨pend,t,l2,k1,k2,k3,k4,k5⟩:=collect h
    refine⟨⟨o.1,o.2,g,e⟩::pend,t,l2,by rw [k1];rfl, .cons he k2,k3,k4,fun x hx=>?_⟩
    rcases List.mem_cons.1 hx with hx|hx
    ·subst hx;exact hb
    ·exact k5 x hx
   cases g with
   | true=>
    rw [if_pos rfl]at h
    obtain⟨q1,h2,h⟩:=aj h
    rw [hb,acK]at h2
    unfold jX at h2
    cases hd:o.2.dst with
    | none=>rw [hd]at h2;cases h2
    | some d=>
     rw [hd,aY]at h2
     cases he:qm P G s d o.2.op with
     | none=>rw [he]at h2;cases h2
     | some e=>
      rw [he,aY]at h2
      by_cases hf:(jo s e.tree&&kJ s e.box)=true
      ·rw [eH _ hf,og]at h2;injection h2 with h2;subst h2
       exact key e ⟨h1,fun _=>⟨d,hd,he⟩,(fun h=>by cases h),TH.1 hf⟩ (by rw [hd];exact h)
      ·unfold grd at h2;rw [if_neg hf]at h2;cases h2
   | false=>
    rw [if_neg (by simp)]at h
    obtain⟨q1,h2,h⟩:=aj h
    rw [og]at h2;injection h2 with h2;subst h2
    exact key ⟨.fK [],[],[]⟩ ⟨h1,(fun h=>by cases h),fun _=>rfl, .none _ _⟩ (by rw [←ab9];exact h)
theorem agB (hC:ED P G){s:S}{x:Pd}(h:PZ P G ops s x)(hi:ops[x.i]?=some x.o)(hd:fM c.n x.o.dst=true){a:Act}{w:World}(g:Good c s a w){Q1:Exit→Act→World→Prop}{K:Act→World→Prop}(k:∀a w,Good c (s.app x.o.dst x.e) a w→K a w):wpOp P ops Q1 x.i K a w:=by
 unfold wpOp
 rw [hi]
 simp only
 obtain⟨y,A⟩:=g
 rw [za A h.wants]
 cases hg:x.g with
 | true=>
  rw [if_pos rfl]
  obtain⟨d,h1,h2⟩:=h.yes hg
  have hf:=TH.2 h.new
  rw [Bool.and_eq_true]at hf
  rcases ae1 h2 hf.1 hf.2 with h3|⟨cl,p,z,t,tx,el,new,r1,r2,r3,r4,r5,r6,r7,r8,r9,r10,r11,r12⟩
  ·exact .inl (Le hC hd (s':=s.app x.o.dst x.e) (by rw [h1];exact h3) a w ⟨y,A⟩ _ _ k)
  ·exact .inl (U9 (s':=s.app x.o.dst x.e) r1 r2 hd r3 r4 r5 r6 r7 r8 r9 r10 r11 (by rw [h1];exact r12) a w ⟨y,A⟩ _ _ k)
 | false=>
  rw [if_neg (by simp)]
  refine k _ _ ?_
  rw [h.no hg,←ab9]
  exact⟨y,A.value (v:= .fK []) ⟨[],rfl,rfl⟩ hd⟩
theorem Vd {l:List Oper}{L:Nat→Prop}(hL:∀i o,L i→l[i]?=some o→∀e∈qz o,L e){i j:Nat}(h:Reach l i j):(∀o,l[i]?=some o→∀e∈qz o,L e)→L j:=by
 induction h with
 | one h1 h2=>intro h;exact h _ h1 _ h2
 | tail h1 h2 _ ih=>intro h;exact ih fun o ho=>hL _ o (h _ h1 _ h2) ho
end
section
variable {P:Program} {G:List (FuncId×Bool×aN)} {s s':S} {e:List (Nat×V)}
theorem acd (s:S)(e:List (Nat×V)):Lf (fun _=>True) (fun _=>True) s {s with env:=e}:=⟨fun _ _ h _=>h,fun _ _ h _=>h,fun _ _ h _=>h,rfl⟩
theorem uR:∀{cs:List V} {c:iF} {r:List V×iF},cZ s c cs=some r→cZ {s with env:=e} c cs=some r
 | [],c,r,h=>h
 | v::cs,c,r,h=>by
  have key:bnd (jW s c v) (fun x=>bnd (cZ s x.2 cs) fun y=>some (x.1::y.1,y.2))=some r→bnd (jW {s with env:=e} c v) (fun x=>bnd (cZ {s with env:=e} x.2 cs) fun y=>some (x.1::y.1,y.2))=some r:=fun h=>
   bC (fun _ h=>TF (acd s e) (Bh v) h) (fun _ _ h=>bC (fun _ h=>uR h) (fun _ _ h=>h) h) h
  cases v<;>try exact key h
  case own p=>
   simp only [cZ]at h⊢
   unfold Cb at h⊢
   split at h
   ·cases h
   ·exact bC (fun _ h=>uR h) (fun _ _ h=>h) h
   ·exact bC (fun _ h=>uR h) (fun _ _ h=>h) h
  case dead=>exact bC (fun _ h=>uR h) (fun _ _ h=>h) h
theorem JH:∀{bs:List Nat} {c:iF} {r:List (List V)×iF},mU s c bs=some r→mU {s with env:=e} c bs=some r
 | [],c,r,h=>h
 | b::bs,c,r,h=>bC (fun _ h=>h) (fun _ _ h=>bC (fun _ h=>uR h) (fun _ _ h=>bC (fun _ h=>JH h) (fun _ _ h=>h) h) h) h
theorem Di {c:iF}{t:Nat}:∀{bs:List Nat} {css:List (List V)} {s s':S},iO c t bs css s=some s'→s'.env=s.env∧s'.dG=s.dG∧∀e,iO c t bs css {s with env:=e}=some {s' with env:=e}
 | [],[],s,s',h=>by simp only [iO]at h;injection h with h;subst h;exact⟨rfl,rfl,fun _=>rfl⟩
 | [],_::_,s,s',h=>by simp only [iO]at h;cases h
 | _::_,[],s,s',h=>by simp only [iO]at h;cases h
 | b::bs,cs::css,s,s',h=>by
  simp only [iO]at h
  obtain⟨l,h1,h⟩:=aj h
  obtain⟨k1,k2,k3⟩:=Di h
  refine⟨k1,k2,fun e=>?_⟩
  simp only [iO,h1,aY]
  exact k3 e
theorem Ac {c:iF}{t:Nat}:∀{rt:List (Nat×List (List D))} {s s':S},jP c t rt s=some s'→s'.env=s.env∧s'.dG=s.dG∧∀e,jP c t rt {s with env:=e}=some {s' with env:=e}
 | [],s,s',h=>by simp only [jP]at h;injection h with h;subst h;exact⟨rfl,rfl,fun _=>rfl⟩
 | (q,rows)::r,s,s',h=>by
  simp only [jP]at h
  split at h
  ·rename_i hq
   obtain⟨k1,k2,k3⟩:=Ac h
   refine⟨k1,k2,fun e=>?_⟩
   simp only [jP]
   rw [if_pos hq];exact k3 e
  ·rename_i hq
   obtain⟨h1,h⟩:=aB h
   obtain⟨k1,k2,k3⟩:=Ac h
   refine⟨k1,k2,fun e=>?_⟩
   simp only [jP]
   have h1':fresh {s with env:=e} (gV c t q)=true∧gV c t q<1000000000:=h1
   rw [if_neg hq,eH _ h1'];exact k3 e
theorem ac8 {M:aN}{t:Nat}{args:List V}{x:Bar}(h:Nv M s t args=some x):Nv M {s with env:=e} t args=some x:=by
 unfold Nv at h⊢
 refine bC (fun _ h=>DI (acd s e) (DC args) h) (fun _ _ h=>bC (fun _ h=>JH h) (fun _ _ h=>wS (fun h=>bC (fun _ h=>h) (fun r _ h=>?_) h) h) h) h
 obtain⟨s1,h1,h⟩:=aj h
 obtain⟨s2,h2,h⟩:=aj h
 rw [(Di h1).2.2 e,aY,(Ac h2).2.2 e,aY]
 exact h
theorem ae5 {M:aN}{d:Option Nat}{args:List V}{x:Bar}(h:Nv M s (d.getD 0) args=some x):vU false M s d args=some (s.iB d x):=by
 unfold Nv at h
 obtain⟨y,h1,h⟩:=aj h
 obtain⟨z,h2,h⟩:=aj h
 obtain⟨h3,h⟩:=aB h
 obtain⟨r,h4,h⟩:=aj h
 obtain⟨s1,h5,h⟩:=aj h
 obtain⟨s2,h6,h⟩:=aj h
 obtain⟨v,h7,h⟩:=aj h
 injection h with h;subst h
 rw [Bool.and_eq_true]at h3
 obtain⟨zl,src,box,tree⟩:=z
 have ht:tree= []:=by simpa using h3.1
 subst ht
 obtain⟨a1,a2,_⟩:=Di h5
 obtain⟨b1,b2,_⟩:=Ac h6
 unfold vU Ns
 rw [if_neg (by simp),h1,aY,h2,aY]
 simp only [qB,aY]
 rw [eH _ h3.2,h4,aY]
 refine WX ?_
 unfold S.back
 simp only [gT]
 rw [h5,aY,h6,aY,h7,aY]
 obtain⟨e2,bx2,t2,f2⟩:=s2
 have e1:e2=s.env:=b1.trans a1
 have f1:f2=s.dG:=b2.trans a2
 subst e1 f1
 cases d<;>rfl
theorem P8:∀(l m:List Nat) (e:List (Nat×V)),qC (l++m) e=qC m (qC l e)
 | [],_,_=>rfl
 | p::l,m,e=>P8 l m (zU p e)
theorem GR:∀{vs:List V} {s:S} {ds:List D} {s1:S},iK s vs=some (ds,s1)→s1.env=qC (owns vs) s.env∧s1.dG=s.dG∧∀e,iK {s with env:=e} vs=some (ds,{s1 with env:=qC (owns vs) e})
 | [],s,ds,s1,h=>by
  simp only [iK]at h;injection h with h;injection h with h1 h2;subst h1;subst h2
  exact⟨rfl,rfl,fun _=>rfl⟩
 | v::r,s,ds,s1,h=>by
  have triv:owns (v::r)=owns r→(∀s:S,iK s (v::r)=bnd (zT v) fun d=>bnd (iK s r) fun x=>some (d::x.1,x.2))→s1.env=qC (owns (v::r)) s.env∧s1.dG=s.dG∧∀e,iK {s with env:=e} (v::r)=some (ds,{s1 with env:=qC (owns (v::r)) e}):=by
   intro ho hp
   rw [hp]at h
   obtain⟨d,h1,h⟩:=aj h
   obtain⟨x,h2,h⟩:=aj h
   injection h with h;injection h with h3 h4;subst h3;subst h4
   obtain⟨k1,k2,k3⟩:=GR (s1:=x.2) (ds:=x.1) h2
   rw [ho]
   exact⟨k1,k2,fun e=>by rw [hp,h1,aY,k3 e];rfl⟩
  cases v with
  | own p=>
   simp only [iK]at h
   obtain⟨rows,h1,h⟩:=aj h
   obtain⟨x,h2,h⟩:=aj h
   injection h with h;injection h with h3 h4;subst h3;subst h4
   obtain⟨k1,k2,k3⟩:=GR (s1:=x.2) (ds:=x.1) h2
   refine⟨k1,k2,fun e=>?_⟩
   simp only [iK,h1,aY]
   have:=k3 (zU p e)
   rw [show (S.kill {s with env:=e} p)= {s.kill p with env:=zU p e}from rfl,this]
   rfl
  | _=>exact triv rfl fun _=>rfl
theorem EK:∀{vs:List V} {s:S} {rows:List (List D)} {s1:S},kG s vs=some (rows,s1)→s1.env=qC (KV vs) s.env∧s1.dG=s.dG∧∀e,kG {s with env:=e} vs=some (rows,{s1 with env:=qC (KV vs) e})
 | [],s,ds,s1,h=>by
  simp only [kG]at h;injection h with h;injection h with h1 h2;subst h1;subst h2
  exact⟨rfl,rfl,fun _=>rfl⟩
 | v::r,s,ds,s1,h=>by
  simp only [kG]at h
  obtain⟨x,h1,h⟩:=aj h
  obtain⟨z,h2,h⟩:=aj h
  injection h with h;injection h with h3 h4;subst h3;subst h4
  obtain⟨k1,k2,k3⟩:=GR (s1:=x.2) (ds:=x.1) h1
  obtain⟨m1,m2,m3⟩:=EK (s1:=z.2) (rows:=z.1) h2
  simp only [KV,P8]
  refine⟨by rw [m1,k1],m2.trans k2,fun e=>?_⟩
  simp only [kG,k3 e,aY,m3]
def Kg:List Nat→V→V
 | [],v=>v
 | p::r,v=>Kg r (if aM p v=true then .dead else v)
theorem NP:∀(l:List Nat) (t:Nat) (e:List (Nat×V)),look t (qC l e)=(look t e).map (Kg l)
 | [],t,e=>by
  show look t e=(look t e).map fun v=>v
  cases look t e<;>rfl
 | p::l,t,e=>by
  show look t (qC l (zU p e))=_
  rw [NP l t,EB,Option.map_map];rfl
def ae6:List Nat→V→V
 | [],v=>v
 | p::r,v=>ae6 r (if kH p v=true then .dead else v)
theorem P9:∀(l:List Nat) (t:Nat) (e:List (Nat×V)),look t (FZ l e)=(look t e).map (ae6 l)
 | [],t,e=>by
  show look t e=(look t e).map fun v=>v
  cases look t e<;>rfl
 | p::l,t,e=>by
  show look t (FZ l (OA p e))=_
  rw [P9 l t,ML,Option.map_map];rfl
def ace (x:Bar)(v:V):V:=ae6 x.inn (Kg x.kills v)
theorem Z4 {s:S}{p t:Nat}(h:fresh s t=true):fresh (s.kill p) t=true:=by
 unfold fresh at h⊢
 simp only [S.kill,ru,Bool.and_eq_true,Option.isNone_iff_eq_none]at h⊢
 exact⟨by split<;>first|rfl|exact h.1,h.2⟩
theorem acf {d:Option Nat}{b:Builtin}{ats:Array TypeId}{args:List V}{x:Bar}(h:Pm P s d b ats args=some x):kI P s d b ats args=some (s.iB d x):=by
 unfold Pm at h
 split at h
 ·rename_i x0 y0
  obtain⟨t,h2,h⟩:=aj h
  obtain⟨t1,h3,h⟩:=aj h
  obtain⟨h4,h⟩:=aB h
  obtain⟨ds,h5,h⟩:=aj h
  obtain⟨e,h6,h⟩:=aj h
  obtain⟨new,h7,h⟩:=aj h
  simp only [kI,h2,h3,aY,eH _ h4,IZ,h5,h6,EH h7]
  by_cases hx:∃p i j k,x0= .inn p i j k
  ·obtain⟨p,i,j,k,rfl⟩:=hx
   simp only [xX]at h
   obtain⟨rows,k0,h⟩:=aj h
   obtain⟨k1,h⟩:=aB h
   obtain⟨rs,k4,h⟩:=aj h
   obtain⟨r,k5,h⟩:=aj h
   obtain⟨k6,h⟩:=aB h
   obtain⟨t0,k2,h⟩:=aj h
   obtain⟨k3,h⟩:=aB h
   injection h with h;subst h;subst k2
   have k7:∀rr,fresh (s.turned p rr) t0=true:=fun rr=>by
    unfold fresh at k3⊢
    simp only [S.turned,Bool.and_eq_true,Option.isNone_iff_eq_none]at k3⊢
    refine⟨?_,k3.2⟩
    cases e:look t0 (upd p rr s.tree)with
    | none=>rfl
    | some z=>
     have h1:t0∈(upd p rr s.tree).map (·.1):=List.mem_map.2 ⟨_,fD e,rfl⟩
     rw [oN]at h1
     exact absurd h1 (jY k3.1)
   simp only [rR,k0,aY,eH _ k1,S.Ca,k4,k5,eH _ k6,S.newTree,eH _ (k7 _)]
   rfl
  cases x0<;>(try exact absurd ⟨_,_,_,_,rfl⟩ hx)<;>simp only [xX]at h<;>try (cases h;done)
  case nil=>
   obtain⟨k1,h⟩:=aB h
   obtain⟨t0,k2,h⟩:=aj h
   obtain⟨k3,h⟩:=aB h
   injection h with h;subst h;subst k2
   simp only [rR,eH _ k1,S.newTree,aY,eH _ k3]
   rfl
  case own p=>
   obtain⟨rows,k0,h⟩:=aj h
   obtain⟨k1,h⟩:=aB h
   obtain⟨t0,k2,h⟩:=aj h
   obtain⟨k3,h⟩:=aB h
   injection h with h;subst h;subst k2
   simp only [rR,k0,aY,eH _ k1,S.newTree,eH _ (Z4 k3)]
   rfl
 ·cases h
theorem ae7 {d:Option Nat}{b:Builtin}{ats:Array TypeId}{args:List V}{e:List (Nat×V)}{x:Bar}(h:Pm P s d b ats args=some x):Pm P {s with env:=e} d b ats args=some x:=by
 unfold Pm at h⊢
 split at h
 ·rename_i x0 y0
  cases x0<;>cases y0<;>exact h
 ·cases h
theorem TL {d:Option Nat}{op:Op}{x:Bar}(h:sD P G s d op=some x):iJ P G s d op=some (s.iB d x):=by
 cases op<;>simp only [sD]at h<;>try (cases h;done)
 case store t p v=>
  obtain⟨vp,h1,h⟩:=aj h
  obtain⟨vv,h2,h⟩:=aj h
  obtain⟨⟨h3,h4,h5⟩,h8⟩:=aB h
  have hd:d=none:=by simpa using h5
  subst hd
  clear h h5
  by_cases hx:∃q k i off,vp= .pe (.own q) k i off
  ·obtain⟨q,k,i,off,rfl⟩:=hx
   simp only [Dv]at h8
   cases ha:vv.atom with
   | none=>rw [ha]at h8;simp only [Az]at h8;cases h8
   | some dd=>
    rw [ha]at h8
    simp only [Az]at h8
    obtain⟨rows,k1,h8⟩:=aj h8
    obtain⟨r,k2,h8⟩:=aj h8
    obtain⟨d0,k3,h8⟩:=aj h8
    obtain⟨k4,h8⟩:=aB h8
    injection h8 with h8;subst h8
    simp only [iJ,h1,h2,aY,S.store,eH _ (And.intro h3 h4),ha,Ba,k1,k2,k3,eH _ k4]
    rfl
  have h8':∃b off cs,vp= .ref b off∧look b s.box=some cs∧(off+vv.cells.length≤cs.length∧vv.cells.all V.one=true)∧x=⟨.fK [],upd b (setAt cs off vv.cells) s.box,s.tree,[],[]⟩:=by
   unfold Dv at h8
   split at h8
   ·exact absurd ⟨_,_,_,_,rfl⟩ hx
   ·obtain⟨cs,h6,h8⟩:=aj h8
    obtain⟨h7,h8⟩:=aB h8
    injection h8 with h8
    exact⟨_,_,cs,rfl,h6,h7,h8.symm⟩
   ·cases h8
  obtain⟨b0,azs,cs,rfl,h6,h7,rfl⟩:=h8'
  simp only [iJ,h1,h2,aY,S.store,eH _ (And.intro h3 h4),h6,eH _ h7]
  rfl
 case call c=>
  obtain⟨args,h1,h⟩:=aj h
  simp only [iJ,h1,aY]
  unfold J3
  unfold xY at h
  split at h
  ·rename_i b hcl
   first|exact acf h|(rw [hcl];exact acf h)|(trace_state;fail)
  ·rename_i f hcl
   obtain⟨fv,h2,h⟩:=aj h
   obtain⟨g,h3,h⟩:=aj h
   obtain⟨M,h4,h⟩:=aj h
   obtain⟨h5,h⟩:=aB h
   simp only [hcl,h2,h3,h4,aY,h5,NK]
   exact ae5 h
  ·cases h
 case buildSlice t n ps=>
  obtain⟨dd,h1,h⟩:=aj h
  obtain⟨e,h2,h⟩:=aj h
  obtain⟨vs,h3,h⟩:=aj h
  obtain⟨h4,h⟩:=aB h
  obtain⟨z,h5,h⟩:=aj h
  unfold OX at h
  obtain⟨t0,h6,h⟩:=aj h
  obtain⟨h7,h⟩:=aB h
  injection h with h;subst h;subst h6
  obtain⟨k1,k2,_⟩:=EK (s1:=z.2) (rows:=z.1) h5
  simp only [iJ,h1,h2,h3,aY]
  rw [eH _ h4,h5,aY]
  unfold S.newTree
  rw [aY,eH _ h7]
  simp only [S.iB,S.put,FZ,k1,k2]
theorem Z5 {d:Option Nat}{op:Op}{x:Bar}(E:∀z∈op.operands.toList,∀v,s.ev z=some v→S.ev {s with env:=e} z=some v)(h:sD P G s d op=some x):sD P G {s with env:=e} d op=some x:=by
 have E':∀z∈op.operands.toList,EF (fun _=>True) (fun _=>True) s {s with env:=e} z:=fun z hz v hv=>⟨E z hz v hv,Bh v⟩
 cases op<;>simp only [sD]at h⊢<;>try (cases h;done)
 case store t p v=>
  refine bC (fun v h=>E _ (by simp [Op.operands]) v h) (fun vp _ h=>bC (fun v h=>E _ (by simp [Op.operands]) v h) (fun vv _ h=>wS (fun h=>?_) h) h) h
  cases vp<;>first|exact h|(rename_i b0 _ _ _;cases b0<;>exact h)
 case call c=>
  obtain⟨args,h1,h⟩:=aj h
  have hmem:∀x∈c.args.toList,EF (fun _=>True) (fun _=>True) s {s with env:=e} x:=fun x hx=>E' x (by simp only [Op.operands,Call.operands,Array.toList_append];exact List.mem_append_right _ hx)
  obtain⟨k1,k2⟩:=DF hmem h1
  rw [k1,aY]
  unfold xY at h⊢
  split at h
  ·rename_i b hcl
   exact ae7 h
  ·rename_i f hcl
   exact bC (fun v h=>E f (by simp only [Op.operands,Call.operands,hcl];simp) v h) (fun _ _ h=>bC (fun _ h=>h) (fun _ _ h=>bC (fun _ h=>h) (fun _ _ h=>wS (fun h=>ac8 h) h) h) h) h
  ·cases h
 case buildSlice t n ps=>
  refine bC (fun _ h=>h) (fun _ _ h=>bC (fun _ h=>h) (fun _ _ h=>bC (fun _ h=>EG (fun x hx=>E' x.2 (by simp only [Op.operands];exact List.mem_map.2 ⟨x,hx,rfl⟩)) h) (fun vs _ h=>wS (fun h=>?_) h) h) h) h
  obtain⟨z,h5,h⟩:=aj h
  obtain⟨_,_,k3⟩:=EK (s1:=z.2) (rows:=z.1) h5
  rw [k3 e,aY]
  exact h
theorem sU {d:Option Nat}{x:Bar}(r:Nat):look r (s.iB d x).env=if some r=d then some x.val else(look r s.env).map (ace x):=by
 have e:(look r s.env).map (ace x)=look r (FZ x.inn (qC x.kills s.env)):=by
  rw [P9,NP,Option.map_map];rfl
 rw [e];exact TJ (s:= {s with env:=FZ x.inn (qC x.kills s.env)}) r
end
section
variable {P:Program} {G:List (FuncId×Bool×aN)} {ops:Array Oper}
theorem Seg.nd {l:List Pd}:∀{s t:S},Seg P G ops s l t→Nd s→Nd t:=by
 induction l with
 | nil=>intro s t h n;cases h;exact n
 | cons x l ih=>intro s t h n;cases h with|cons h1 h2=>exact ih h2 (h1.new.nd n _)
theorem Seg.append {l m:List Pd}{u:S}:∀{s t:S},Seg P G ops s l t→Seg P G ops t m u→Seg P G ops s (l++m) u:=by
 induction l with
 | nil=>intro s t h k;cases h;exact k
 | cons x l ih=>intro s t h k;cases h with|cons h1 h2=>exact .cons h1 (ih h2 k)
theorem acg {s:S}{b:Builtin}{ats:Array TypeId}{args:List V}(h:b= .max∨b= .min):BZ P s b ats args=KT b args:=by
 rcases h with rfl|rfl<;>(unfold BZ KT;split<;>first|rfl|simp_all)
theorem TM {s:S}{d:Nat}{op:Op}(h:isVal op=true):qm P G s d op=bnd (je P s op) fun v=>some ⟨v,[],[]⟩:=by
 cases op
 case call c=>
  simp only [isVal]at h
  have hb:c.callee= .builtin .max∨c.callee= .builtin .min:=by
   unfold aiN at h;split at h
   ·exact .inl ‹_›
   ·exact .inr ‹_›
   ·cases h
  have e1:qm P G s d (.call c)=bnd (bG s.ev c.args.toList) fun args=>xW P G s d c.argTypes args c.callee:=rfl
  have e2:je P s (.call c)=bnd (bG s.ev c.args.toList) fun args=>KU args c.callee:=rfl
  rw [e1,e2,iP]
  congr 1;funext args
  rcases hb with hb|hb<;>rw [hb]
  ·show bnd (BZ P s .max c.argTypes args) _=bnd (KT .max args) _
   rw [acg (.inl rfl)]
  ·show bnd (BZ P s .min c.argTypes args) _=bnd (KT .min args) _
   rw [acg (.inr rfl)]
 all_goals first|rfl|cases h
theorem Jb {ap:Bool}{x:Nat×Oper}{r:List (Nat×Oper)}(h:EJ ops ap (x::r)=true):(ap=true∨isVal x.2.op=true)∧x.2.guard=none∧(∃d,x.2.dst=some d)∧(∀d,x.2.dst=some d→d∉x.2.looksAt ops)∧(∀y∈r,(∀d,y.2.dst=some d→d∉x.2.looksAt ops)∧x.2.dst≠y.2.dst)∧EJ ops ap r=true:=by
 unfold EJ at h
 simp only [Bool.and_eq_true]at h
 obtain⟨⟨⟨⟨⟨k1,k2⟩,k3⟩,k4⟩,k5⟩,k6⟩:=h
 have aw:∀{a b:Oper},away ops a b=true→∀d,b.dst=some d→d∉a.looksAt ops:=fun h d hd=>by
  unfold away at h;rw [hd]at h;simpa using h
 refine⟨by simpa using k1,by simpa using k2,Option.isSome_iff_exists.1 k3,aw k4,fun y hy=>?_,k6⟩
 have:=List.all_eq_true.1 k5 y hy
 rw [Bool.and_eq_true]at this
 exact⟨aw this.1,by simpa using this.2⟩
theorem PZ.val {s:S}{x:Pd}(h:PZ P G ops s x)(hv:isVal x.o.op=true)(hg:x.o.guard=none):x.g=true∧(∃v,x.e=⟨v,[],[]⟩):=by
 have h1:=h.wants
 rw [hg]at h1
 simp only [S.wants]at h1
 injection h1 with h1
 refine⟨h1.symm,?_⟩
 obtain⟨d,_,h2⟩:=h.yes h1.symm
 rw [TM hv]at h2
 obtain⟨v,_,h2⟩:=aj h2
 injection h2 with h2
 exact⟨v,h2.symm⟩
theorem Seg.vals {l:List Pd}:∀{s t:S},Seg P G ops s l t→EJ ops false (l.map both)=true→t.box=s.box∧t.tree=s.tree∧t.dG=s.dG∧∀r,(∀y∈l,y.o.dst≠some r)→look r t.env=look r s.env:=by
 induction l with
 | nil=>intro s t h _;cases h;exact⟨rfl,rfl,rfl,fun _ _=>rfl⟩
 | cons x l ih=>
  intro s t h hf
  cases h with
  | cons h1 h2=>
   obtain⟨f1,f2,_,_,_,f6⟩:=Jb (x:=both x) (r:=l.map both) hf
   have f1:isVal (both x).2.op=true:=f1.elim (fun h=>by cases h) _root_.id
   obtain⟨_,v,hv⟩:=h1.val f1 f2
   obtain⟨k1,k2,k3,k4⟩:=ih h2 f6
   refine⟨by rw [k1];simp [S.app,hv],by rw [k2];simp [S.app,hv],by rw [k3];rfl,fun r hr=>?_⟩
   rw [k4 r fun y hy=>hr y (by simp [hy]),mW,if_neg fun e=>hr x (by simp) e.symm]
theorem Seg.bar {dst:Option Nat}{x0:Bar}{T1:S}{l:List Pd}:∀{s t:S},Seg P G ops s l t→EJ ops false (l.map both)=true→
  (∀y∈l,∀d,dst=some d→d∉y.o.looksAt ops∧y.o.dst≠some d)→T1.box=x0.box→T1.tree=x0.tree→T1.dG=s.dG→(∀r,look r T1.env=look r (t.iB dst x0).env)→
  (∀y∈l,∃d v,y.o.dst=some d∧look d T1.env=some v∧je P T1 y.o.op=some v∧look d t.env=some v)→Nd (s.iB dst x0)→∃t2,Seg P G ops (s.iB dst x0) l t2∧Gf t2 T1:=by
 induction l with
 | nil=>
  intro s t h _ _ k1 k2 k3 k4 _ _
  cases h
  exact⟨_, .nil _,⟨k4,by rw [k1];exact .refl _,by rw [k2];exact .refl _,k3⟩⟩
 | cons x l ih=>
  intro s t h hf ha k1 k2 k3 k4 hv n
  cases h with
  | cons h1 h2=>
   obtain⟨f1,f2,⟨d,f3⟩,f4,f5,f6⟩:=Jb (x:=both x) (r:=l.map both) hf
   have f1:isVal (both x).2.op=true:=f1.elim (fun h=>by cases h) _root_.id
   have f3:x.o.dst=some d:=f3
   obtain⟨g1,v,g2⟩:=h1.val f1 f2
   obtain⟨b1,b2,b3,b4⟩:=h2.vals f6
   have nx:Nd ((s.app x.o.dst x.e).iB dst x0):=n
   obtain⟨t2,c1,c2⟩:=ih h2 f6 (fun y hy=>ha y (by simp [hy])) k1 k2 k3 k4 (fun y hy=>hv y (by simp [hy])) nx
   have hx:=ha x (by simp)
   obtain⟨d',v',w1,w2,w3,w4⟩:=hv x (by simp)
   rw [f3]at w1;injection w1 with w1;subst w1
   have hvv:v'=v:=by
    rw [b4 d (fun y hy e=>(f5 (both y) (List.mem_map.2 ⟨y,hy,rfl⟩)).2 (f3.trans e.symm)),mW,if_pos f3.symm,g2]at w4
    injection w4 with w4;exact w4.symm
   have hkv:ace x0 v=v:=by
    rw [k4,sU,if_neg (fun e=>(hx d e.symm).2 f3),b4 d (fun y hy e=>(f5 (both y) (List.mem_map.2 ⟨y,hy,rfl⟩)).2 (f3.trans e.symm)),mW,if_pos f3.symm,g2,Option.map_some]at w2
    injection w2 with w2;rw [w2,hvv]
   have E:Gf ((s.app x.o.dst x.e).iB dst x0) ((s.iB dst x0).app x.o.dst x.e):=by
    refine⟨fun r=>?_,?_,?_,rfl⟩
    ·rw [mW,sU,sU,mW]
     by_cases e1:some r=x.o.dst
     ·rw [if_pos e1]
      by_cases e2:some r=dst
      ·exact absurd e1.symm (hx r e2.symm).2
      ·rw [if_neg e2,if_pos e1,Option.map_some,g2]
       exact congrArg some hkv.symm
     ·rw [if_neg e1,if_neg e1]
    ·rw [g2];exact .refl _
    ·rw [g2];exact .refl _
   obtain⟨t3,c3,c4⟩:=c1.eqv E nx
   refine⟨t3, .cons ⟨by rw [show x.o.guard=none from f2,g1];rfl,fun _=>⟨d,f3,?_⟩,(fun h=>by rw [g1]at h;cases h),by rw [g2];exact .none _ _⟩ c3,c4.symm.trans c2⟩
   have hl:∀r∈x.o.looksAt ops,look r (s.iB dst x0).env=look r T1.env:=fun r hr=>by
    rw [k4,sU,sU]
    by_cases e2:some r=dst
    ·rw [if_pos e2,if_pos e2]
    ·rw [if_neg e2,if_neg e2,b4 r fun y hy e=>(f5 (both y) (List.mem_map.2 ⟨y,hy,rfl⟩)).1 r e hr,mW,if_neg fun e=>f4 r e.symm hr]
   have A:Lf (fun _=>True) (fun _=>True) T1 (s.iB dst x0):=⟨fun b cs h _=>by rw [k1]at h;exact h,fun p r h _=>by
    simp only [S.rows]at h⊢;rw [k2,k3]at h;exact h,fun p r h _=>by rw [k2]at h;exact h,k3.symm⟩
   have hval:je P (s.iB dst x0) x.o.op=some v':=TD A (fun z hz u hu=>by
    refine⟨?_,Bh u⟩
    cases z with
    | tmp t=>
     have ht:t∈x.o.looksAt ops:=List.mem_append_left _ (List.mem_filterMap.2 ⟨.tmp t,hz,rfl⟩)
     show look t (s.iB dst x0).env=some u
     rw [hl t ht];exact hu
    | const c=>exact hu
    | func f=>exact hu
    | global g=>cases hu) w3
   rw [TM (op:=x.o.op) f1,hval,aY,g2,hvv]
mutual
theorem Qa {ks:List Nat}:∀{v:V},(∀p∈ks,aM p v=false)→NJ (fun _=>True) (· ∉ks) v
 | .own q,h=>fun hq=>by have:=h q hq;simp [aM]at this
 | .inn q _ _ _,h=>fun hq=>by have:=h q hq;simp [aM]at this
 | .ref _ _,_=>trivial
 | .pe base _ _ _,h=>Qa (v:=base) fun p hp=>by simpa [aM] using h p hp
 | .agg cs,h=>Jc (vs:=cs) fun p hp=>by simpa [aM] using h p hp
 | .fK cs,h=>Jc (vs:=cs) fun p hp=>by simpa [aM] using h p hp
 | .fn _ cs,h=>Jc (vs:=cs) fun p hp=>by simpa [aM] using h p hp
 | .v _,_=>trivial
 | .nil,_=>trivial
 | .aP _ _,_=>trivial
 | .fz _,_=>trivial
 | .mp _,_=>trivial
 | .dead,_=>trivial
theorem Jc {ks:List Nat}:∀{vs:List V},(∀p∈ks,aM.any p vs=false)→Dh (fun _=>True) (· ∉ks) vs
 | [],_=>trivial
 | v::r,h=>⟨Qa fun p hp=>by have:=h p hp;simp only [aM.any,Bool.or_eq_false_iff]at this;exact this.1,Jc fun p hp=>by have:=h p hp;simp only [aM.any,Bool.or_eq_false_iff]at this;exact this.2⟩
end
theorem MQ {ks:List Nat}{v:V}:Dw ks v=true↔∀p∈ks,aM p v=false:=by
 unfold Dw
 simp [List.all_eq_true]
theorem Ch:∀{ks:List Nat} {v:V},Dw ks v=true→Kg ks v=v
 | [],_,_=>rfl
 | p::r,v,h=>by
  have h1:=MQ.1 h
  show Kg r (if aM p v=true then .dead else v)=v
  rw [if_neg (by rw [h1 p (by simp)];simp)]
  exact Ch (MQ.2 fun q hq=>h1 q (by simp [hq]))
def nL {α:Type}:List Nat→List (Nat×α)→List (Nat×α)
 | [],l=>l
 | p::r,l=>nL r (drop1 p l)
theorem GU {α:Type}:∀{ks:List Nat} {l:List (Nat×α)} {p:Nat},p∉ks→look p (nL ks l)=look p l
 | [],_,_,_=>rfl
 | q::r,l,p,h=>by
  rw [List.mem_cons,not_or]at h
  show look p (nL r (drop1 q l))=_
  rw [GU h.2,ru,if_neg h.1]
theorem Ci {α:Type}{k:Nat}:∀{l:List (Nat×α)} {q:Nat},q∈(drop1 k l).map (·.1)→q∈l.map (·.1)
 | [],_,h=>h
 | (j,y)::l,q,h=>by
  simp only [drop1]at h
  split at h
  ·exact List.mem_cons_of_mem _ (Ci h)
  ·rw [List.map_cons,List.mem_cons]at h⊢
   exact h.imp _root_.id Ci
theorem Dj {α:Type}{k:Nat}:∀{l:List (Nat×α)},(l.map (·.1)).Nodup→((drop1 k l).map (·.1)).Nodup
 | [],h=>h
 | (j,y)::l,h=>by
  rw [List.map_cons]at h
  obtain⟨h1,h2⟩:=List.nodup_cons.1 h
  simp only [drop1]
  split
  ·exact Dj h2
  ·rw [List.map_cons]
   exact List.nodup_cons.2 ⟨fun hm=>h1 (Ci hm),Dj h2⟩
theorem EL {α:Type}:∀{ks:List Nat} {l:List (Nat×α)} {p:Nat},p∈(nL ks l).map (·.1)→p∈l.map (·.1)
 | [],_,_,h=>h
 | q::r,l,p,h=>Ci (EL (ks:=r) h)
theorem TN {α:Type}{k:Nat}:∀{l:List (Nat×α)},k∉l.map (·.1)→drop1 k l=l
 | [],_=>rfl
 | y::l,h=>by
  obtain⟨j,y⟩:=y
  simp only [List.map_cons,List.mem_cons,not_or]at h
  unfold drop1;rw [if_neg h.1,TN h.2]
theorem EM {α:Type}{k:Nat}:∀(l m:List (Nat×α)),drop1 k (l++m)=drop1 k l++drop1 k m
 | [],_=>rfl
 | y::l,m=>by
  obtain⟨j,y⟩:=y
  simp only [List.cons_append,drop1]
  split
  ·exact EM l m
  ·rw [EM l m];rfl
theorem JI {α:Type}:∀(ks:List Nat) (l m:List (Nat×α)),nL ks (l++m)=nL ks l++nL ks m
 | [],_,_=>rfl
 | p::r,l,m=>by show nL r (drop1 p (l++m))=_;rw [EM,JI r];rfl
theorem Qb {α:Type}:∀{ks:List Nat} {l:List (Nat×α)},(∀p∈ks,p∉l.map (·.1))→nL ks l=l
 | [],_,_=>rfl
 | p::r,l,h=>by
  show nL r (drop1 p l)=l
  rw [TN (h p (by simp))]
  exact Qb fun q hq=>h q (by simp [hq])
theorem Lj {α:Type}:∀{ks:List Nat} {l:List (Nat×α)},(l.map (·.1)).Nodup→((nL ks l).map (·.1)).Nodup
 | [],_,h=>h
 | p::r,l,h=>Lj (ks:=r) (Dj h)
def S.grown (s:S)(t0:Nat)(R:List (List D))(ks:List Nat):S:=s.iB (some t0) ⟨.own t0,s.box,(t0,R)::nL ks s.tree,ks,[]⟩
theorem AB {s:S}{t0:Nat}{R:List (List D)}{ks:List Nat}(r:Nat):look r (s.grown t0 R ks).env=if r=t0 then some (.own t0)else(look r s.env).map (Kg ks):=by
 unfold S.grown;rw [sU]
 have hb:ace ⟨.own t0,s.box,(t0,R)::nL ks s.tree,ks,[]⟩=Kg ks:=rfl
 rw [hb]
 by_cases h:r=t0
 ·rw [if_pos h,if_pos (by rw [h])]
 ·rw [if_neg h,if_neg (by intro e;injection e with e;exact h e)]
theorem Xx {s:S}{t0:Nat}{R:List (List D)}{ks:List Nat}{p:Nat}(h:p∈iH (s.grown t0 R ks)):p=t0∨p∈iH s:=by
 unfold iH S.grown S.iB at h
 simp only [List.map_append,List.map_cons,List.mem_append,List.mem_cons,List.cons_append]at h
 unfold iH
 rw [List.map_append,List.mem_append]
 rcases h with h|h|h
 ·exact .inl h
 ·exact .inr (.inl (EL h))
 ·exact .inr (.inr h)
theorem ae8 {s:S}{t0:Nat}{R:List (List D)}{ks:List Nat}(n:Nd s)(h:t0∉iH s):Nd (s.grown t0 R ks):=by
 refine⟨n.1,?_⟩
 have h2:=n.2
 unfold iH at h h2⊢
 unfold S.grown S.iB
 rw [List.map_append,List.nodup_append]at h2
 rw [List.map_append,List.mem_append,not_or]at h
 simp only [List.cons_append,List.map_cons,List.map_append]
 refine List.nodup_cons.2 ⟨fun hm=>?_,List.nodup_append.2 ⟨Lj h2.1,h2.2.1,fun a ha b hb=>h2.2.2 a (EL ha) b hb⟩⟩
 rcases List.mem_append.1 hm with hm|hm
 ·exact h.1 (EL hm)
 ·exact h.2 hm
theorem Seg.env {l:List Pd}{r:Nat}:∀{s t:S},Seg P G ops s l t→(∀y∈l,y.o.dst≠some r)→look r t.env=look r s.env:=by
 induction l with
 | nil=>intro s t h _;cases h;rfl
 | cons x l ih=>
  intro s t h hr
  cases h with
  | cons h1 h2=>rw [ih h2 fun y hy=>hr y (by simp [hy]),mW,if_neg fun e=>hr x (by simp) e.symm]
theorem Seg.wide {l:List Pd}:∀{s t:S},Seg P G ops s l t→Bj s t:=by
 induction l with
 | nil=>intro s t h;cases h;exact .refl _
 | cons x l ih=>
  intro s t h
  cases h with
  | cons h1 h2=>exact(h1.new.wide _).trans (ih h2)
theorem Seg.past {t0:Nat}{R:List (List D)}{ks:List Nat}{l:List Pd}:∀{s t:S},Seg P G ops s l t→EJ ops true (l.map both)=true→(∀y∈l,t0∉y.o.looksAt ops∧y.o.dst≠some t0)→
  (∀y∈l,(∃d v,y.o.dst=some d∧look d t.env=some v∧Dw ks v=true)∧∀r∈y.o.looksAt ops,∀v,look r t.env=some v→Dw ks v=true)→(∀p∈ks,p∈iH s)→t0∉iH t→Nd s→
  ∃t2,Seg P G ops (s.grown t0 R ks) l t2∧Gf (t.grown t0 R ks) t2:=by
 induction l with
 | nil=>intro s t h _ _ _ _ _ _;cases h;exact⟨_, .nil _, .refl _⟩
 | cons x l ih=>
  intro s t h hf ha hv hk h0 n
  have hW:=h.wide
  cases h with
  | cons h1 h2=>
   obtain⟨f1,f2,⟨d,f3⟩,f4,f5,f6⟩:=Jb (x:=both x) (r:=l.map both) hf
   have f3:x.o.dst=some d:=f3
   have n1:Nd (s.app x.o.dst x.e):=h1.new.nd n _
   have hW2:=h2.wide
   obtain⟨t2,c1,c2⟩:=ih h2 f6 (fun y hy=>ha y (by simp [hy])) (fun y hy=>hv y (by simp [hy])) (fun p hp=>DJ.2 (.inr (hk p hp))) h0 n1
   obtain⟨⟨d',v,w1,w2,w3⟩,w4⟩:=hv x (by simp)
   rw [f3]at w1;injection w1 with w1;subst w1
   have hval:v=x.e.val:=by
    rw [h2.env (fun y hy e=>(f5 (both y) (List.mem_map.2 ⟨y,hy,rfl⟩)).2 (f3.trans e.symm)),mW,if_pos f3.symm]at w2
    injection w2 with w2;exact w2.symm
   have h0s:t0∉iH s:=fun h=>h0 (hW.iH h)
   have h0e:t0∉x.e.tree.map (·.1):=fun h=>h0 (hW2.iH (DJ.2 (.inl h)))
   have hke:∀p∈ks,p∉x.e.tree.map (·.1):=fun p hp h=>(h1.new.t p h).1 (hk p hp)
   have E:Gf ((s.app x.o.dst x.e).grown t0 R ks) ((s.grown t0 R ks).app x.o.dst x.e):=by
    refine⟨fun r=>?_, .refl _,?_,rfl⟩
    ·rw [mW,AB,AB,mW]
     by_cases e1:some r=x.o.dst
     ·have:r≠t0:=fun e2=>(ha x (by simp)).2 (by rw [←e1,e2])
      rw [if_pos e1,if_neg this,if_pos e1,Option.map_some,←hval,Ch w3]
     ·rw [if_neg e1,if_neg e1]
    ·show(x.e.tree.reverse++((t0,R)::nL ks s.tree)).Perm ((t0,R)::nL ks (x.e.tree.reverse++s.tree))
     rw [JI,Qb (l:=x.e.tree.reverse) (fun p hp h=>hke p hp (by simpa using h))]
     exact List.perm_middle
   obtain⟨t3,c3,c4⟩:=c1.eqv E (ae8 n1 fun h=>(DJ.1 h).elim h0e h0s)
   refine⟨t3, .cons (h1.move (oB:=fun _=>True) (oT:=(· ∉ks)) ⟨fun b cs h _=>h,fun p rows h hp=>?_,fun p rows h hp=>?_,rfl⟩ (fun r hr=>?_) (fun r hr u hu=>?_) ⟨h1.new.nt,fun p hp=>⟨fun h=>?_,(h1.new.t p hp).2⟩,h1.new.nb,h1.new.b⟩) c3,c2.trans c4⟩
   ·have hp0:p≠t0:=fun e=>by
     subst e
     simp only [S.rows]at h
     have:∀z:Option (List (List D)),look p s.tree=none→look p s.dG=none→mD (look p s.tree) (look p s.dG)=some rows→False:=fun _ a b c=>by rw [a,b]at c;cases c
     refine this none ?_ ?_ h
     ·cases e:look p s.tree with
      | none=>rfl
      | some z=>exact absurd (by unfold iH;rw [List.map_append,List.mem_append];exact .inl (List.mem_map.2 ⟨_,fD e,rfl⟩)) h0s
     ·cases e:look p s.dG with
      | none=>rfl
      | some z=>exact absurd (by unfold iH;rw [List.map_append,List.mem_append];exact .inr (List.mem_map.2 ⟨_,fD e,rfl⟩)) h0s
    simp only [S.rows]at h⊢
    show mD (look p ((t0,R)::nL ks s.tree)) (look p s.dG)=some rows
    simp only [look,if_neg hp0]
    rw [GU hp];exact h
   ·have hp0:p≠t0:=fun e=>h0s (by subst e;unfold iH;rw [List.map_append,List.mem_append];exact .inl (List.mem_map.2 ⟨_,fD h,rfl⟩))
    show look p ((t0,R)::nL ks s.tree)=some rows
    simp only [look,if_neg hp0]
    rw [GU hp];exact h
   ·have hr0:r≠t0:=fun e=>(ha x (by simp)).1 (e▸hr)
    rw [AB,if_neg hr0]
    have hl:look r t.env=look r s.env:=by
     rw [h2.env (fun y hy e=>(f5 (both y) (List.mem_map.2 ⟨y,hy,rfl⟩)).1 r e hr),mW,if_neg fun e=>f4 r e.symm hr]
    cases e:look r s.env with
    | none=>rfl
    | some u=>rw [Option.map_some,Ch (w4 r hr u (hl.trans e))]
   ·have hr0:r≠t0:=fun e=>(ha x (by simp)).1 (e▸hr)
    rw [AB,if_neg hr0]at hu
    have hl:look r t.env=look r s.env:=by
     rw [h2.env (fun y hy e=>(f5 (both y) (List.mem_map.2 ⟨y,hy,rfl⟩)).1 r e hr),mW,if_neg fun e=>f4 r e.symm hr]
    cases e:look r s.env with
    | none=>rw [e]at hu;cases hu
    | some u'=>
     have hfr:=w4 r hr u' (hl.trans e)
     rw [e,Option.map_some,Ch hfr]at hu
     injection hu with hu;subst hu
     exact Qa (MQ.1 hfr)
   ·rcases Xx h with h|h
    ·subst h;exact h0e hp
    ·exact(h1.new.t p hp).1 h
theorem Qc {s:S}{ks:List Nat}:∀{fl:List Nat} {i:Nat},Da ops s ks fl=some ()→i∈fl→∃o d v,ops[i]?=some o∧o.dst=some d∧look d s.env=some v∧Dw ks v=true∧eO ks s o.op=true
 | j::fl,i,h,hi=>by
  simp only [Da]at h
  obtain⟨o,h1,h⟩:=aj h
  obtain⟨d,h2,h⟩:=aj h
  obtain⟨v,h3,h⟩:=aj h
  obtain⟨h4,h⟩:=aB h
  rw [Bool.and_eq_true]at h4
  rcases List.mem_cons.1 hi with rfl|hi
  ·exact⟨o,d,v,h1,h2,h3,h4.1,h4.2⟩
  ·exact Qc h hi
theorem ac9 {oB oT:Nat→Prop}{s s':S}(A:Lf oB oT s s'){d:Option Nat}{b:Builtin}{ats:Array TypeId}{args:List V}{x:Bar}(i:Dh oB oT args)(hfr:∀t,fresh s t=true→fresh s' t=true)(hin:x.inn= [])(h:Pm P s d b ats args=some x):
  ∃t0 R,d=some t0∧fresh s t0=true∧x.val= .own t0∧x.tree=(t0,R)::nL x.kills s.tree∧(∀p∈x.kills,∃rows,look p s'.tree=some rows)∧(∀p∈x.kills,x.box=oK p s.box)∧(x.kills= []→x.box=s.box)∧(x.kills= []∨∃p,x.kills= [p])∧
   Pm P s' d b ats args=some ⟨.own t0,(match x.kills with| []=>s'.box|p::_=>oK p s'.box),(t0,R)::nL x.kills s'.tree,x.kills,[]⟩:=by
 unfold Pm at h⊢
 split at h
 ·rename_i x0 y0
  obtain⟨t,h2,h⟩:=aj h
  obtain⟨t1,h3,h⟩:=aj h
  obtain⟨h4,h⟩:=aB h
  obtain⟨ds,h5,h⟩:=aj h
  obtain⟨e,h6,h⟩:=aj h
  obtain⟨new,h7,h⟩:=aj h
  simp only [h2,h3,aY,eH _ h4,h5,h6,Lh A i.2.1 h7]
  cases x0 with
  | nil=>
   simp only [xX]at h
   obtain⟨k1,h⟩:=aB h
   obtain⟨t0,k2,h⟩:=aj h
   obtain⟨k3,h⟩:=aB h
   injection h with h;subst h
   refine⟨t0,new,k2,k3,rfl,rfl,(fun p hp=>by cases hp),(fun p hp=>by cases hp),(fun _=>rfl), .inl rfl,?_⟩
   simp only [xX,eH _ k1,k2,aY,eH _ (hfr _ k3)]
   rfl
  | own p=>
   simp only [xX]at h
   obtain⟨rows,k0,h⟩:=aj h
   obtain⟨k1,h⟩:=aB h
   obtain⟨t0,k2,h⟩:=aj h
   obtain⟨k3,h⟩:=aB h
   injection h with h;subst h
   have k4:=A.tree p rows k0 i.1
   refine⟨t0,rows++new,k2,k3,rfl,rfl,(fun q hq=>by simp at hq;subst hq;exact⟨rows,k4⟩),(fun q hq=>by simp at hq;subst hq;rfl),(fun h=>by cases h), .inr ⟨p,rfl⟩,?_⟩
   simp only [xX,k4,eH _ k1,k2,aY,eH _ (hfr _ k3)]
   rfl
  | inn p i j k=>
   simp only [xX]at h
   obtain⟨_,_,h⟩:=aj h
   obtain⟨_,h⟩:=aB h
   obtain⟨_,_,h⟩:=aj h
   obtain⟨_,_,h⟩:=aj h
   obtain⟨_,h⟩:=aB h
   obtain⟨_,_,h⟩:=aj h
   obtain⟨_,h⟩:=aB h
   injection h with h;subst h;cases hin
  | _=>simp only [xX]at h;cases h
 ·cases h
theorem TP {ap:Bool}:∀{l:List (Nat×Oper)},EJ ops ap l=true→(∀y∈l,isVal y.2.op=true)→EJ ops false l=true
 | [],_,_=>rfl
 | x::r,h,hv=>by
  unfold EJ at h⊢
  simp only [Bool.and_eq_true]at h⊢
  obtain⟨⟨⟨⟨⟨k1,k2⟩,k3⟩,k4⟩,k5⟩,k6⟩:=h
  exact⟨⟨⟨⟨⟨by rw [hv x (by simp)];rfl,k2⟩,k3⟩,k4⟩,k5⟩,TP k6 fun y hy=>hv y (by simp [hy])⟩
theorem Ll {s0 s:S}:∀{fl:List Nat} {i:Nat},oM P ops s0 s fl=some ()→i∈fl→∃o d v,ops[i]?=some o∧o.dst=some d∧look d s.env=some v∧je P s o.op=some v∧look d s0.env=some v
 | j::fl,i,h,hi=>by
  simp only [oM]at h
  obtain⟨o,h1,h⟩:=aj h
  obtain⟨d,h2,h⟩:=aj h
  obtain⟨v,h3,h⟩:=aj h
  obtain⟨u,h4,h⟩:=aj h
  obtain⟨h5,h6⟩:=xZ h
  clear h
  subst h5
  obtain⟨v0,h7,h8⟩:=aj h6
  obtain⟨h9,h10⟩:=xZ h8
  clear h6 h8
  subst h9
  rcases List.mem_cons.1 hi with hi|hi
  ·subst hi;exact⟨o,d,v0,h1,h2,h3,h4,h7⟩
  ·exact Ll h10 hi
end
end Go.Proofs.YtlpdjhiggpblcaaGreat
