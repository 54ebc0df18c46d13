/- Part 5 of a proof in several texts (an abstract evaluator, what the functions compute). -/
import Derived.Test.YtlpdjhiggpblcaaGreatPkEdKeys4
import Derived.Carry
import Derived.MapKept
import Derived.LoopN
import Derived.Orders
namespace Go.Proofs.YtlpdjhiggpblcaaGreat
set_option linter.unusedSectionVars false
set_option linter.unusedSimpArgs false
set_option linter.unusedVariables false
open Go.RowKit
theorem afH {d:TypeDesc}(h:intD d=true):d= .int .i64:=by
 unfold intD at h;split at h
 ·rfl
 ·cases h
theorem afI {d:TypeDesc}{x:TypeId×TypeId}(h:mapD d=some x):d= .map x.1 x.2:=by
 unfold mapD at h;split at h
 ·injection h with h;subst h;rfl
 ·cases h
theorem acr {v:Value}{n:Int}(h:ahi v=some n):v= .int .i64 n:=by
 unfold ahi at h;split at h
 ·injection h with h;subst h;rfl
 ·cases h
theorem V3 {P:Program}{t:TypeId}{z:Int}(h:QW P t=some z):∃k e,P.underlying t=some (.map k e)∧P.underlying k=some (.int .i64)∧∀w,(zeroValue e).run P w= .ok (.int .i64 z) w:=by
 unfold QW at h
 obtain⟨d,h1,h⟩:=aj h
 obtain⟨x,h2,h⟩:=aj h
 obtain⟨k,h3,h⟩:=aj h
 obtain⟨h4,h⟩:=aB h
 obtain⟨i,h5,h⟩:=aj h
 obtain⟨v,h6,h⟩:=aj h
 rw [afI h2]at h1
 rw [afH h4]at h3
 rw [acr h]at h6
 exact⟨x.1,x.2,h1,h3,fun w=>by simp [zeroValue,typeInfo,h5,h6]⟩
theorem afJ {v:V}{es:List (Int×Int)}(h:afk v=some es):v= .mp es:=by
 unfold afk at h;split at h
 ·injection h with h;subst h;rfl
 ·cases h
theorem acs {v:V}{n:Int}(h:VH v=some n):v= .v (.int .i64 n):=by
 unfold VH at h;split at h
 ·injection h with h;subst h;rfl
 ·cases h
theorem OW {k:Int}:∀{es:List (Int×Int)} {l:List MapEntry} (i:Nat),l.map (fun e=>(e.key,e.val))=(es.map fun p=>(Value.int .i64 p.1,Value.int .i64 p.2))→rX k es=none→Instr.findNow (.int .i64) (.int .i64 k) l i=some none
 | [],[],i,_,_=>rfl
 | [],_::_,i,h,_=>by simp at h
 | _::_,[],i,h,_=>by simp at h
 | (j,x)::es,e::l,i,h,hl=>by
  simp only [List.map_cons,List.cons.injEq,Prod.mk.injEq]at h
  unfold rX at hl
  split at hl
  ·cases hl
  ·rename_i hne
   unfold Instr.findNow
   rw [h.1.1]
   have:Instr.sameNow (.int .i64) (.int .i64 k) (.int .i64 j)=some false:=by simp [Instr.sameNow,hne]
   rw [this]
   exact OW (i+1) h.2 hl
theorem V4 {k v:Int}:∀{es:List (Int×Int)} {l:List MapEntry} (i:Nat),l.map (fun e=>(e.key,e.val))=(es.map fun p=>(Value.int .i64 p.1,Value.int .i64 p.2))→rX k es=some v→∃j,Instr.findNow (.int .i64) (.int .i64 k) l i=some (some (j, .int .i64 v))
 | [],l,i,_,h=>by cases h
 | _::_,[],i,h,_=>by simp at h
 | (j,x)::es,e::l,i,h,hl=>by
  simp only [List.map_cons,List.cons.injEq,Prod.mk.injEq]at h
  unfold rX at hl
  unfold Instr.findNow
  rw [h.1.1]
  split at hl
  ·rename_i he
   injection hl with hl;subst hl;subst he
   have:Instr.sameNow (.int .i64) (.int .i64 k) (.int .i64 k)=some true:=by simp [Instr.sameNow]
   rw [this,h.1.2]
   exact⟨i,rfl⟩
  ·rename_i hne
   have:Instr.sameNow (.int .i64) (.int .i64 k) (.int .i64 j)=some false:=by simp [Instr.sameNow,hne]
   rw [this]
   exact V4 (i+1) h.2 hl
theorem ahR {P:Program}{t:TypeId}{z:Int}(ht:QW P t=some z){w:World}{b:Nat}{ents:Array MapEntry}{clock:Nat}{es:List (Int×Int)}(hb:w.heap[b]?=some (.map ents clock))(hm:Xx es ents)(n:Int):
  ∃x ok,(Instr.lookup t (.map (some b)) (.int .i64 n) true).run P w= .ok (.tuple #[.int .i64 x, .bool ok]) w∧OC z (rX n es)= .fU [.v (.int .i64 x), .v (.bool ok)]:=by
 obtain⟨k,e,h1,h2,h3⟩:=V3 ht
 have hc:∀em,(Instr.checkKey em 10000 k (.int .i64 n)).run P w= .ok () w:=fun em=>MapKept.run_checkKey h2 (by simp [MapKept.IsKey]) em 9999
 cases hl:rX n es with
 | none=>
  have hf:=MapKept.run_findKey (w:=w) h2 (OW 0 hm hl)
  exact⟨z,false,by simp [Instr.lookup,run_underlying h1,MapKept.run_getObj_map hb,hc,hf,h3,Result.andThen],rfl⟩
 | some x=>
  obtain⟨j,hj⟩:=V4 0 hm hl
  have hf:=MapKept.run_findKey (w:=w) h2 hj
  exact⟨x,true,by simp [Instr.lookup,run_underlying h1,MapKept.run_getObj_map hb,hc,hf,Result.andThen],rfl⟩
theorem ajM {P:Program}{t:TypeId}{z:Int}(ht:QW P t=some z){w:World}{ents:Array MapEntry}{clock:Nat}{es:List (Int×Int)}(hm:Xx es ents){k v:Int}(hk:rX k es=none):
  ∃ZB clock',(Instr.mapUpdate t (.map (some w.heap.size)) (.int .i64 k) (.int .i64 v)).run P (w.alloc (.map ents clock))= .ok () (w.alloc (.map ZB clock'))∧Xx (es++ [(k,v)]) ZB:=by
 obtain⟨kt,e,h1,h2,_⟩:=V3 ht
 have hb:(w.alloc (.map ents clock)).heap[w.heap.size]?=some (.map ents clock):=Rn w _
 have hc:∀em,(Instr.checkKey em 10000 kt (.int .i64 k)).run P (w.alloc (.map ents clock))= .ok () (w.alloc (.map ents clock)):=fun em=>MapKept.run_checkKey h2 (by simp [MapKept.IsKey]) em 9999
 have hf:=MapKept.run_findKey (w:=w.alloc (.map ents clock)) h2 (OW 0 hm hk)
 refine⟨ents.push ⟨.int .i64 k, .int .i64 v,clock⟩,clock+1,?_,?_⟩
 ·have hs:∀o,(w.alloc (.map ents clock)).heap.setIfInBounds w.heap.size o=(w.alloc o).heap:=fun o=>by
   unfold World.alloc;simp [Array.setIfInBounds,Array.push,Array.set]
  simp [Instr.mapUpdate,run_underlying h1,MapKept.run_getObj_map hb,hc,hf,MapKept.run_setObj_map _ hb,Result.andThen,hs]
  rfl
 ·unfold Xx at hm⊢
  simp only [Array.toList_push,List.map_append,List.map_cons,List.map_nil,hm]
theorem Qi {t:TypeId}{d:Nat}:∀(l:List Oper) (acc:List (Int×Int)),∃m,(pq t d l acc).1=acc++m
 | [],acc=>⟨[],by simp [pq]⟩
 | o::r,acc=>by
  unfold pq
  cases P6 t d o with
  | none=>exact⟨[],by simp [Xp]⟩
  | some e=>
   obtain⟨m,h⟩:=Qi (t:=t) (d:=d) r (acc++ [e])
   exact⟨e::m,by simp [Xp,h]⟩
theorem Qj {t:TypeId}{d:Nat}:∀(l:List Oper) (acc:List (Int×Int)),∀o∈(pq t d l acc).2,o∈l
 | [],acc=>by simp [pq]
 | o::r,acc=>by
  unfold pq
  cases P6 t d o with
  | none=>intro x hx;exact hx
  | some e=>intro x hx;exact List.mem_cons_of_mem _ (Qj r _ x hx)
theorem V5 {k:Int}:∀{a b:List (Int×Int)},rX k (a++b)=none→rX k a=none∧rX k b=none
 | [],b,h=>⟨rfl,h⟩
 | (j,x)::a,b,h=>by
  rw [List.cons_append]at h
  have e1:∀l,rX k ((j,x)::l)=if k=j then some x else rX k l:=fun _=>rfl
  rw [e1]at h⊢
  split at h
  ·cases h
  ·rename_i hne
   rw [if_neg hne]
   exact V5 h
theorem V6 {e:Int×Int}{m:List (Int×Int)}:∀{acc:List (Int×Int)},D7 (acc++e::m)=true→rX e.1 acc=none
 | [],_=>rfl
 | (j,x)::a,h=>by
  rw [List.cons_append]at h
  unfold D7 at h
  rw [Bool.and_eq_true,Option.isNone_iff_eq_none]at h
  unfold rX
  split
  ·rename_i he
   have:=(V5 h.1).2
   unfold rX at this
   have h2:(j,x).1=e.1:=he.symm
   rw [if_pos h2]at this
   cases this
  ·exact V6 h.2
section
variable {P:Program} {c:Ctx} {s:S} {y:Lay} {a:Act} {w:World}
theorem acu {t:TypeId}{d:Nat}{o:Oper}{e:Int×Int}(h:P6 t d o=some e):o.dst=none∧o.op= .insert t (.tmp d) (.const (.int .i64 e.1)) (.const (.int .i64 e.2))∧o.guard=none:=by
 unfold P6 at h
 split at h
 ·split at h
  ·rename_i hh
   injection h with h;subst h
   obtain⟨rfl,rfl⟩:=hh
   exact⟨rfl,rfl,rfl⟩
  ·cases h
 ·cases h
theorem aeT {ops:Array Oper}{Q:Exit→Act→World→Prop}{t:TypeId}{d:Nat}{z:Int}(ht:QW P t=some z)(he:a.eval (.tmp d)= .map (some w.heap.size)):
  ∀(l:List Oper) (acc:List (Int×Int)) (ents:Array MapEntry) (clock:Nat),D7 (pq t d l acc).1=true→Xx acc ents→(∀ents clock,Xx (pq t d l acc).1 ents→wpList P ops Q (pq t d l acc).2 a (w.alloc (.map ents clock)))→wpList P ops Q l a (w.alloc (.map ents clock))
 | [],acc,ents,clock,_,hm,k=>k ents clock hm
 | o::r,acc,ents,clock,hp,hm,k=>by
  unfold pq at hp k
  cases hi:P6 t d o with
  | none=>
   rw [hi]at k
   exact k ents clock hm
  | some e=>
   rw [hi]at k hp
   simp only [Xp]at k hp
   obtain⟨h1,h2,h3⟩:=acu hi
   obtain⟨m,hmm⟩:=Qi (t:=t) (d:=d) r (acc++ [e])
   have hk:rX e.1 acc=none:=V6 (m:=m) (by rw [hmm]at hp;simpa using hp)
   obtain⟨ZB,clock',hr,hm'⟩:=ajM ht (w:=w) (clock:=clock) hm (v:=e.2) hk
   unfold wpList
   have hw:Region.wanted o (yielded ops a.tmps)=true:=by unfold Region.wanted;rw [h3]
   rw [hw]
   refine .inl ?_
   refine Kh (w':=w.alloc (.map ZB clock')) ?_ ?_
   ·unfold execOp
    simp only [h2]
    rw [he]
    have e1:a.eval (.const (.int .i64 e.1))= .int .i64 e.1:=rfl
    have e2:a.eval (.const (.int .i64 e.2))= .int .i64 e.2:=rfl
    rw [e1,e2,Sem.run_bind,hr]
    rfl
   ·rw [h1]
    exact aeT ht he r (acc++ [e]) ZB clock' hp hm' k
theorem ahS {l r:List Oper}{t:TypeId}{d:Nat}{es:List (Int×Int)}(h:RH l=some (t,d,es,r)):(∃o∈l,o.dst=some d)∧∀o∈r,o∈l:=by
 unfold RH at h
 split at h
 ·injection h with h
  injection h with e1 h
  injection h with e2 h
  injection h with e3 e4
  subst e1;subst e2;subst e4
  exact⟨⟨_,List.mem_cons_self,rfl⟩,fun o ho=>List.mem_cons_of_mem _ (Qj _ _ o ho)⟩
 ·cases h
theorem ahT {ops:Array Oper}{Q:Exit→Act→World→Prop}{l r:List Oper}{t:TypeId}{d:Nat}{es:List (Int×Int)}{z:Int}(hsz:d<a.tmps.size)(h:RH l=some (t,d,es,r))(ht:QW P t=some z)(hp:D7 es=true)
  (k:∀ents clock,Xx es ents→wpList P ops Q r (a.put (some d) (.map (some w.heap.size))) (w.alloc (.map ents clock))):wpList P ops Q l a w:=by
 unfold RH at h
 split at h
 ·rename_i d' t' ty ps af r'
  injection h with h
  injection h with e1 h
  injection h with e2 h
  injection h with e3 e4
  subst e1;subst e2;subst e3;subst e4
  unfold wpList
  have hw:Region.wanted (⟨some d', .makeMap t' none,ty,ps,af,none⟩:Oper) (yielded ops a.tmps)=true:=rfl
  rw [hw]
  refine .inl (qE (u:= .map (some w.heap.size)) (w':=w.alloc (.map #[] 0)) ?_ ?_)
  ·unfold execOp
   simp only [Option.map_none]
   rw [Sem.run_bind,run_makeMap]
   rfl
  ·refine aeT ht ?_ r' [] #[] 0 hp rfl k
   exact(aeJ a _ _ _ hsz).trans (if_pos rfl)
 ·cases h
theorem At.mapped (A:At c s y a w){t:Nat}{es:List (Int×Int)}{ents:Array MapEntry}{clock:Nat}(hm:Xx es ents)(hf:fresh s t=true)(hd':fP c.n (some t)=true):
  Good c (s.Rl t es) (a.put (some t) (.map (some w.heap.size))) (w.alloc (.map ents clock)):=by
 unfold fresh at hf
 rw [Bool.and_eq_true]at hf
 have hn1:=jX (oD hf.1)
 have hn2:=jX (oD hf.2)
 have hn:t∉(s.tree++s.dK).map (·.1):=by rw [List.map_append,List.mem_append];exact fun h=>h.elim hn1 hn2
 have hx:Ext w (w.alloc (.map ents clock)):=(Ext.refl w).alloc _
 have kk:∀n,n∈(s.tree++s.dK).map (·.1)→n∈(s.tree++(t,([]:List (List D)))::s.dK).map (·.1):=by
  intro n h
  rw [List.map_append,List.mem_append]at h⊢
  exact h.elim .inl fun h=> .inr (List.mem_cons_of_mem _ h)
 have le:(aX c s y).le (aX c {s with dK:=(t,[])::s.dK} {y with hd:=dR y.hd t rY,w0:=dR y.w0 t (w.alloc (.map ents clock)),F:=dR y.F t [w.heap.size]}):=by
  refine⟨fun _ _ h=>h,fun b' o ⟨q,h1,h2,h3⟩=>?_,rfl,fun b h=>⟨h,rfl⟩,fun q h=>⟨kk q h,fT _ _ fun e=>hn (by rw [←e];exact h)⟩⟩
  have hq:q≠t:=fun e=>hn2 (by rw [←e];exact h1)
  exact⟨q,List.mem_cons_of_mem _ h1,by show b'∈dR y.F t _ q;rw [fT _ _ hq];exact h2,by show(dR y.w0 t _ q).heap[b']?=some o;rw [fT _ _ hq];exact h3⟩
 have A1:At c {s with dK:=(t,[])::s.dK} {y with hd:=dR y.hd t rY,w0:=dR y.w0 t (w.alloc (.map ents clock)),F:=dR y.F t [w.heap.size]} a (w.alloc (.map ents clock)):=by
  refine⟨A.defers,A.size,?_,fun t' v e=>(A.env t' v e).le le,fun b cs h=>(A.box b cs h).le le,fun q r h=>?_,A.nb,?_,A.fix.1,fun i h1 h2=>⟨(A.fix.2 i h1 h2).1,(fT _ _ (by have:=fP.lt hd';have:=A.fix.1;omega)).trans (A.fix.2 i h1 h2).2⟩⟩
  ·have S1:St c.W (w.alloc (.map ents clock)) (lG (w.alloc (.map ents clock)) [w.heap.size]::(dV y.bl y.T y.us s.box++(bX y.hd s.tree++(iD y.w0 y.F s.dK++c.L)))):=
    A.st.more hx (h:=lG (w.alloc (.map ents clock)) [w.heap.size]) (F:= [w.heap.size]) ⟨rfl,fun _ _=>rfl⟩ (by simp) (fun k hk=>by simp only [List.mem_singleton]at hk;subst hk;exact⟨Nat.le_refl _,by unfold World.alloc;simp⟩)
   show St c.W _ (dV y.bl y.T y.us s.box++(bX (dR y.hd t rY) s.tree++((lG (dR y.w0 t (w.alloc (.map ents clock)) t) (dR y.F t [w.heap.size] t)::iD (dR y.w0 t (w.alloc (.map ents clock))) (dR y.F t [w.heap.size]) s.dK)++c.L)))
   rw [dS,dS,FL hn2,uL hn1]
   have q:=(List.perm_middle (a:=lG (w.alloc (.map ents clock)) [w.heap.size]) (l₁:=dV y.bl y.T y.us s.box++bX y.hd s.tree) (l₂:=iD y.w0 y.F s.dK++c.L)).symm
   simp only [List.append_assoc,List.cons_append]at q⊢S1
   exact S1.perm q
  ·show kI (dR y.w0 t _ q) _ (dR y.hd t rY q) (dR y.F t _ q)
   rcases List.mem_cons.1 h with h|h
   ·injection h with h1 h2;subst h1;subst h2
    rw [dS,dS,dS]
    exact⟨.nil none _,fun g ob n c cs T fr m r' e1=>by cases e1⟩
   ·have hq:q≠t:=fun e=>hn2 (by rw [←e];exact List.mem_map.2 ⟨_,h,rfl⟩)
    rw [fT _ _ hq,fT _ _ hq,fT _ _ hq];exact A.dK q r h
  ·show((s.tree++(t,[])::s.dK).map (·.1)).Nodup
   have An:=A.nt
   rw [List.map_append,List.nodup_append]at An⊢
   refine⟨An.1,List.nodup_cons.2 ⟨hn2,An.2.1⟩,fun x hx z hz e=>?_⟩
   subst e
   rcases List.mem_cons.1 hz with h|h
   ·have h:x=t:=h
    subst h
    exact hn1 hx
   ·exact An.2.2 x hx x h rfl
 refine⟨_,A1.value (v:= .mp es) ?_ hd'⟩
 refine⟨w.heap.size,ents,clock,rfl,⟨t,List.mem_cons_self,?_,?_⟩,hm⟩
 ·show w.heap.size∈dR y.F t _ t
  rw [dS];exact List.mem_singleton_self _
 ·show(dR y.w0 t _ t).heap[w.heap.size]?=some _
  rw [dS];exact Rn w _
theorem ZC {o:Oper}{t:TypeId}{m x:Operand}(ho:o.op= .lookup t m x true)(hd':fP c.n o.dst=true){vm vk:V}{es:List (Int×Int)}{n z:Int}(hm:s.ev m=some vm)(hx:s.ev x=some vk)(h1:afk vm=some es)(h2:VH vk=some n)(h3:QW P t=some z):Step P c o s (s.put o.dst (OC z (rX n es))):=by
 rw [afJ h1]at hm
 rw [acs h2]at hx
 refine jy hd' fun yy a w A=>?_
 obtain⟨b,ents,clock,e1,⟨p,q1,q2,q3⟩,hi⟩:=A.ev hm
 have e2:a.eval x= .int .i64 n:=A.ev hx
 have hb:w.heap[b]?=some (.map ents clock):=by
  have:=A.st.Xv (w0:=yy.w0 p) (F:=yy.F p) (by
   refine List.mem_append_right _ (List.mem_append_right _ (List.mem_append_left _ ?_))
   obtain⟨pp,hpp,rfl⟩:=List.mem_map.1 q1
   exact List.mem_map.2 ⟨pp,hpp,rfl⟩) b q2
  rw [this];exact q3
 obtain⟨r,ok,hr,hv⟩:=ahR h3 hb hi n
 refine⟨.tuple #[.int .i64 r, .bool ok],?_,?_⟩
 ·unfold execOp
  simp only [ho]
  rw [e1,e2,Sem.run_bind,hr]
  rfl
 ·rw [hv]
  exact⟨[_,_],rfl,_,_,rfl,rfl,_,_,rfl,rfl,rfl⟩
end
def FM (P:Program)(G:List (FuncId×Bool×aN)):Prop:= ∀(c:Ctx) (s s':S) (o:Oper) (cl:Call) (g:Operand) (args:List V) (f:FuncId×List V) (M:Bool×aN),o.op= .call cl→cl.callee= .value g→bK s.ev cl.args.toList=some args→s.ev g=some (.fn f.1 f.2)→look f.1 G=some M→xC M.1 M.2 s o.dst (args++f.2)=some s'→fP c.n o.dst=true→Step P c o s s'
section
variable {P:Program} {c:Ctx} {s s':S} {y:Lay} {a:Act} {w:World} {G:List (FuncId×Bool×aN)}
theorem UW {o:Oper}{fn:Fn}{first cap:Array Operand}(ho:o.op= .makeFunc fn first cap)(hd':fP c.n o.dst=true){vs:List V}{v:V}(hvs:bK s.ev cap.toList=some vs)(h:fnV vs first fn=some v):Step P c o s (s.put o.dst v):=jy hd' fun yy a w A=>by
 have ea:=Sd A hvs
 unfold fnV at h
 split at h
 ·rename_i f
  obtain⟨h1,h⟩:=aB h
  injection h with h;subst h
  have hf:first= #[]:=Array.isEmpty_iff.1 h1
  subst hf
  refine⟨.func (.func f) #[] (cap.toList.map a.eval).toArray,?_,_,rfl,ea⟩
  unfold execOp;simp only [ho]
  have hcl:(cap.map a.eval)=(cap.toList.map a.eval).toArray:=by apply Array.ext';simp
  rw [hcl]
  simp [Instr.makeFunc]
 ·cases h
theorem Nb (hC:FM P G){o:Oper}(hd':fP c.n o.dst=true)(h:iR P G s o.dst o.op=some s'):Step P c o s s':=by
 generalize ho:o.op=q at h
 cases q<;>simp only [iR]at h<;>try (cases h;done)
 case alloc t=>
  obtain⟨cs,h1,h⟩:=aj h
  exact acj ho hd' h1 h
 case box t x=>
  obtain⟨v,h1,h⟩:=aj h
  obtain⟨h2,h⟩:=aB h
  exact ahI ho hd' h1 h2.2 h
 case build t ps=>
  obtain⟨d,h1,h⟩:=aj h
  obtain⟨fs,h2,h⟩:=aj h
  obtain⟨h3,h⟩:=aB h
  obtain⟨z,h4,h⟩:=aj h
  obtain⟨vs,h5,h⟩:=aj h
  obtain⟨cs,h6,h⟩:=aj h
  injection h with h;subst h
  exact aco ho hd' h1 h2 h3 h4 h5 h6
 case buildSlice t n ps=>
  obtain⟨d,h1,h⟩:=aj h
  obtain⟨e,h2,h⟩:=aj h
  obtain⟨vs,h3,h⟩:=aj h
  obtain⟨h4,h⟩:=aB h
  obtain⟨x,h5,h⟩:=aj h
  have:d= .slice e:=by unfold iW at h2;split at h2<;>first|(injection h2 with h2;subst h2;rfl)|cases h2
  rw [this]at h1
  simp only [Bool.and_eq_true,decide_eq_true_eq]at h4
  obtain⟨⟨⟨k1,k2⟩,k3⟩,k4⟩:=h4
  refine QY ho hd' h1 h3 k1 k2 k3 (fun v hv=>?_) (rows:=x.1) (s1:=x.2) h5 h
  have:=List.all_eq_true.1 k4 v hv
  simp only [Bool.and_eq_true,decide_eq_true_eq]at this
  exact this
 case load t x=>
  obtain⟨v,h1,h⟩:=aj h
  obtain⟨u,h2,h⟩:=aj h
  injection h with h;subst h
  exact afz ho hd' h1 h2
 case store t x z=>
  obtain⟨p,h1,h⟩:=aj h
  obtain⟨v,h2,h⟩:=aj h
  obtain⟨s1,h3,h⟩:=aj h
  injection h with h;subst h
  unfold S.store at h3
  obtain⟨⟨k1,k2⟩,h3⟩:=aB h3
  split at h3
  ·obtain⟨cs,h4,h3⟩:=aj h3
   obtain⟨⟨k3,k4⟩,h3⟩:=aB h3
   injection h3 with h3;subst h3
   exact UO ho h1 h2 k2 k1 k4 h4 k3
  ·cases hat:v.atom with
   | some d=>
    rw [hat]at h3
    simp only [Cj]at h3
    obtain⟨rows,h4,h3⟩:=aj h3
    obtain⟨r,h6,h3⟩:=aj h3
    obtain⟨d0,h7,h3⟩:=aj h3
    obtain⟨⟨k3,k4,k5⟩,h3⟩:=aB h3
    injection h3 with h3;subst h3
    exact UQ ho h1 h2 k2 k1 h4 hat h6 h7 k3 k4 k5
   | none=>
    rw [hat]at h3
    simp only [Cj]at h3
    obtain⟨x2,h4,h3⟩:=aj h3
    obtain⟨rows,h5,h3⟩:=aj h3
    obtain⟨r,h6,h3⟩:=aj h3
    obtain⟨⟨k3,k4,k5,k6⟩,h3⟩:=aB h3
    injection h3 with h3;subst h3
    exact UR ho h1 h2 k2 k1 (ds:=x2.1) (s1:=x2.2) h4 h5 h6 k3 k4 k5 k6
  ·cases hat:v.atom with
   | some d=>
    rw [hat]at h3
    simp only [H9]at h3
    obtain⟨rows,h4,h3⟩:=aj h3
    obtain⟨r,h5,h3⟩:=aj h3
    obtain⟨cc,h6,h3⟩:=aj h3
    obtain⟨rs,h7,h3⟩:=aj h3
    obtain⟨r',h8,h3⟩:=aj h3
    obtain⟨d0,h9,h3⟩:=aj h3
    obtain⟨⟨k3,k4,k5,k6⟩,h3⟩:=aB h3
    injection h3 with h3;subst h3
    rw [LU h7]at h6
    exact UU ho h1 h2 k2 k1 h4 hat h5 h6 h8 h9 k3 k4 k5 k6
   | none=>rw [hat]at h3;simp only [H9]at h3;cases h3
  ·cases h3
 case nilCheck x=>
  obtain⟨v,h1,h⟩:=aj h
  obtain⟨u,h2,h⟩:=aj h
  injection h with h;subst h
  exact UN ho hd' h1 h2
 case binOp op t x z t'=>
  obtain⟨v,h1,h⟩:=aj h
  obtain⟨u,h2,h⟩:=aj h
  obtain⟨r,h3,h⟩:=aj h
  injection h with h;subst h
  exact ahF ho hd' h1 h2 h3
 case unOp op t x=>
  obtain⟨v,h1,h⟩:=aj h
  obtain⟨r,h3,h⟩:=aj h
  injection h with h;subst h
  exact ajH ho hd' h1 h3
 case convert t0 t x=>
  obtain⟨v,h1,h⟩:=aj h
  obtain⟨d0,h2,h⟩:=aj h
  obtain⟨d,h3,h⟩:=aj h
  exact acn ho hd' h1 h2 h3 h
 case slice t x lo hi mx=>
  cases mx with
  | some m=>cases h
  | none=>
  simp only [iR]at h
  obtain⟨v,h1,h⟩:=aj h
  obtain⟨l,h2,h⟩:=aj h
  obtain⟨hh,h3,h⟩:=aj h
  obtain⟨d,h4,h⟩:=aj h
  exact ZA ho hd' h1 h2 h3 h4 h
 case fieldAddr t x f=>
  obtain⟨v,h1,h⟩:=aj h
  obtain⟨q,h2,h⟩:=aj h
  obtain⟨r,h3,h⟩:=aj h
  injection h with h;subst h
  exact RZ ho hd' h1 h2 h3
 case field t x f=>
  obtain⟨v,h1,h⟩:=aj h
  obtain⟨cs,h2,h⟩:=aj h
  obtain⟨q,h3,h⟩:=aj h
  obtain⟨g,h4,h⟩:=aj h
  obtain⟨r,h5,h⟩:=aj h
  injection h with h;subst h
  have:v= .agg cs:=by unfold VG at h2;split at h2<;>first|(injection h2 with h2;subst h2;rfl)|cases h2
  subst this
  exact acf ho hd' h1 h3 h4 h5
 case indexAddr t x i=>
  obtain⟨v,h1,h⟩:=aj h
  obtain⟨vi,h2,h⟩:=aj h
  obtain⟨n,h3,h⟩:=aj h
  obtain⟨e,h4,h⟩:=aj h
  obtain⟨r,h5,h⟩:=aj h
  injection h with h;subst h
  exact R3 ho hd' h1 h2 h3 h4 h5
 case index t x i=>
  obtain⟨v,h1,h⟩:=aj h
  obtain⟨vi,h2,h⟩:=aj h
  obtain⟨n,h3,h⟩:=aj h
  obtain⟨r,h5,h⟩:=aj h
  injection h with h;subst h
  exact acg ho hd' h1 h2 h3 h5
 case makeFunc fn first cap=>
  obtain⟨vs,h1,h⟩:=aj h
  obtain⟨v,h2,h⟩:=aj h
  injection h with h;subst h
  exact UW ho hd' h1 h2
 case extract x i=>
  obtain⟨v,h1,h⟩:=aj h
  obtain⟨r,h5,h⟩:=aj h
  injection h with h;subst h
  exact XA ho hd' h1 h5
 case move x=>
  obtain⟨v,h1,h⟩:=aj h
  injection h with h;subst h
  exact afw ho hd' h1
 case assign x=>
  obtain⟨v,h1,h⟩:=aj h
  injection h with h;subst h
  exact Zr ho hd' h1
 case pick x y z=>
  obtain⟨v,h1,h⟩:=aj h
  obtain⟨b,h2,h⟩:=aj h
  obtain⟨r,h5,h⟩:=aj h
  injection h with h;subst h
  rw [Qc h2]at h1
  exact afx ho hd' h1 h5
 case makeSlice t n cc=>
  obtain⟨vn,h1,h⟩:=aj h
  obtain⟨vc,h2,h⟩:=aj h
  exact afG ho hd' h1 h2 h
 case lookup t m x ok=>
  cases ok with
  | false=>cases h
  | true=>
  simp only at h
  obtain⟨vm,h1,h⟩:=aj h
  obtain⟨vk,h2,h⟩:=aj h
  obtain⟨es,h3,h⟩:=aj h
  obtain⟨n,h4,h⟩:=aj h
  obtain⟨z,h5,h⟩:=aj h
  injection h with h;subst h
  exact ZC ho hd' h1 h2 h3 h4 h5
 case call cl=>
  obtain⟨args,h1,h⟩:=aj h
  unfold LG at h
  split at h
  ·rename_i b hb
   exact XG ho hb hd' h1 h
  ·rename_i g hg
   obtain⟨v,h2,h⟩:=aj h
   obtain⟨f,h3,h⟩:=aj h
   obtain⟨M,h4,h⟩:=aj h
   have:v= .fn f.1 f.2:=by unfold Xn at h3;split at h3<;>first|(injection h3 with h3;subst h3;rfl)|cases h3
   rw [this]at h2
   exact hC c s s' o cl g args f M ho hg h1 h2 h4 h hd'
  ·cases h
theorem zW (A:At c s y a w){ops:Array Oper}{o:Oper}{g:Bool}(h:s.wants ops o.guard=some g):Region.wanted o (yielded ops a.tmps)=g:=by
 unfold Region.wanted
 cases e:o.guard with
 | none=>rw [e]at h;simp only [S.wants]at h;injection h
 | some jw=>
  obtain⟨j,want⟩:=jw
  rw [e]at h
  simp only [S.wants]at h
  simp only
  cases hd:(ops[j]?).bind (·.dst)with
  | none=>
   rw [hd]at h;simp only [Ka]at h;injection h with h;subst h
   unfold yielded
   rw [hd];cases want<;>rfl
  | some d=>
   rw [hd]at h;simp only [Ka]at h
   have hy:∀v u,look d s.env=some v→RV (aX c s y) v u→(a.tmps.getD d undef)=u→True:=fun _ _ _ _ _=>trivial
   unfold yielded
   rw [hd]
   simp only [Option.bind_some]
   cases hl:look d s.env with
   | none=>rw [hl]at h;simp only [LH]at h;cases h
   | some v=>
    have hv:=A.env d v hl
    rw [hl]at h
    unfold LH at h
    split at h
    ·rename_i b e2
     injection e2 with e2;subst e2
     injection h with h;subst h
     have e3:a.tmps.getD d undef= .bool b:=hv
     cases e4:a.tmps[d]? with
     | none=>rw [Array.getD_eq_getD_getElem?,e4]at e3;cases e3
     | some u=>rw [Array.getD_eq_getD_getElem?,e4]at e3;have e3:u= .bool b:=e3;subst e3;simp
    ·rename_i e2
     injection e2 with e2;subst e2
     injection h with h;subst h
     obtain⟨us,e5,e6⟩:=hv
     have e6:us= []:=e6
     subst e6
     cases e4:a.tmps[d]? with
     | none=>cases want<;>rfl
     | some u=>rw [Array.getD_eq_getD_getElem?,e4]at e5;have e5:u= .tuple #[]:=e5;subst e5;cases want<;>rfl
    ·cases h
theorem Ki (hC:FM P G){ops:Array Oper}{Q:Exit→Act→World→Prop}:∀{l:List Oper} {s:S} {q:S} {a:Act} {w:World},(∀o∈l,fP c.n o.dst=true)→Df P G ops l (.on s)=some (.on q)→Good c s a w→(∀a w,Good c q a w→Q .normal a w)→wpList P ops Q l a w
 | [],s,q,a,w,_,h,g,k=>by
  simp only [Df]at h;injection h with h;injection h with h;subst h
  exact k a w g
 | o::l,s,q,a,w,hd,h,g,k=>by
  rw [RL]at h
  obtain⟨gd,h1,h⟩:=aj h
  obtain⟨y,A⟩:=g
  have hw:=zW A h1
  unfold wpList
  rw [hw]
  cases gd with
  | true=>
   rw [if_pos rfl]at h⊢
   obtain⟨q1,h2,h⟩:=aj h
   cases e:iR P G s o.dst o.op with
   | none=>rw [e]at h2;cases h2
   | some s1=>
    rw [e,nY]at h2;injection h2 with h2;subst h2
    exact .inl (Nb hC (hd o (by simp)) e a w ⟨y,A⟩ _ _ fun a' w' g'=>Ki hC (fun o ho=>hd o (by simp [ho])) h g' k)
  | false=>
   rw [if_neg (by simp)]at h⊢
   obtain⟨q1,h2,h⟩:=aj h
   rw [nY]at h2;injection h2 with h2;subst h2
   exact Ki hC (fun o ho=>hd o (by simp [ho])) h ⟨y,A.value (v:= .fU []) ⟨[],rfl,rfl⟩ (hd o (by simp))⟩ k
theorem afK (hC:FM P G){ops:Array Oper}{Q:Exit→Act→World→Prop}{l:List Oper}{q:S}{a:Act}{w:World}(hd:∀o∈l,fP c.n o.dst=true)(h:VK P G ops l s=some (.on q))(g:Good c s a w)(k:∀a w,Good c q a w→Q .normal a w):wpList P ops Q l a w:=by
 unfold VK at h
 obtain⟨x,h1,h⟩:=aj h
 obtain⟨z,h2,h⟩:=aj h
 obtain⟨⟨h3,h4⟩,h⟩:=aB h
 obtain⟨t,d,es,r⟩:=x
 obtain⟨y,A⟩:=g
 have hr:=ahS h1
 have hdd:fP c.n (some d)=true:=by obtain⟨o,ho,e⟩:=hr.1;rw [←e];exact hd o ho
 refine ahT (by rw [A.size];exact fP.lt hdd) h1 h2 h4 (fun ents clock hm=>?_)
 refine Ki hC (fun o ho=>hd o (hr.2 o ho)) h ?_ k
 exact A.mapped hm h3 hdd
end
end Go.Proofs.YtlpdjhiggpblcaaGreat
namespace Go.Proofs.YtlpdjhiggpblcaaGreat
open Go.RowKit
set_option linter.unusedSimpArgs false
set_option linter.unusedVariables false
def oM (s:S):List Nat:=s.box.map (·.1)
def iO (s:S):List Nat:=(s.tree++s.dK).map (·.1)
structure Nc (oB oT:Nat→Prop) (s s':S):Prop where
 box:∀b cs,look b s.box=some cs→oB b→look b s'.box=some cs
 own:∀p rows,s.rows (.own p)=some rows→oT p→s'.rows (.own p)=some rows
 tree:∀p rows,look p s.tree=some rows→oT p→look p s'.tree=some rows
 dK:s'.dK=s.dK
mutual
def Qk (oB oT:Nat→Prop):V→Prop
 | .own p=>oT p
 | .inn p _ _ _=>oT p
 | .ref b _=>oB b
 | .pe base _ _ _=>Qk oB oT base
 | .agg cs=>Ec oB oT cs
 | .fU cs=>Ec oB oT cs
 | .fn _ cs=>Ec oB oT cs
 | _=>True
def Ec (oB oT:Nat→Prop):List V→Prop
 | []=>True
 | v::r=>Qk oB oT v∧Ec oB oT r
end
theorem ZE {oB oT:Nat→Prop}:∀{l m:List V},Ec oB oT l→Ec oB oT m→Ec oB oT (l++m)
 | [],_,_,h=>h
 | _::_,_,h,k=>⟨h.1,ZE h.2 k⟩
mutual
theorem Cq:∀(v:V),Qk (fun _=>True) (fun _=>True) v
 | .v _=>trivial
 | .nil=>trivial
 | .aL _ _=>trivial
 | .own _=>trivial
 | .inn _ _ _ _=>trivial
 | .fz _=>trivial
 | .mp _=>trivial
 | .ref _ _=>trivial
 | .pe b _ _ _=>Cq b
 | .agg cs=>ED cs
 | .fU cs=>ED cs
 | .fn _ cs=>ED cs
 | .dead=>trivial
theorem ED:∀(l:List V),Ec (fun _=>True) (fun _=>True) l
 | []=>trivial
 | v::l=>⟨Cq v,ED l⟩
end
theorem acv {oB oT:Nat→Prop}(x:Value):Qk oB oT (yN x):=by
 unfold yN;split<;>trivial
theorem Si {oB oT:Nat→Prop}{x:Value}{v:V}(h:uX x=some v):Qk oB oT v:=by
 unfold uX at h
 split at h<;>first|(injection h with h;subst h;trivial)|(cases h;done)|skip
 injection h with h;subst h
 rename_i cs
 have:∀l:List Value,Ec oB oT (l.map yN):=by
  intro l;induction l with
  | nil=>trivial
  | cons x l ih=>exact⟨acv x,ih⟩
 exact this cs.toList
section
variable {c:Ctx} {s:S} {y:Lay}
mutual
theorem RV.Qk:∀{v:V} {u:Value},RV (aX c s y) v u→Qk (· ∈oM s) (· ∈iO s) v
 | .v _,_,_=>trivial
 | .nil,_,_=>trivial
 | .aL _ _,_,_=>trivial
 | .own p,_,h=>h.1
 | .inn p _ _ _,_,h=>h.1
 | .fz _,_,_=>trivial
 | .mp _,_,_=>trivial
 | .ref b _,_,h=>h.1
 | .pe b _ _ _,_,h=>by obtain⟨ub,h1,_⟩:=h;exact RV.Qk (v:=b) h1
 | .agg _,_,h=>by obtain⟨us,_,h2⟩:=h;exact jE.Ec h2
 | .fU _,_,h=>by obtain⟨us,_,h2⟩:=h;exact jE.Ec h2
 | .fn _ _,_,h=>by obtain⟨us,_,h2⟩:=h;exact jE.Ec h2
 | .dead,_,_=>trivial
theorem jE.Ec:∀{vs:List V} {us:List Value},jE (aX c s y) vs us→Ec (· ∈oM s) (· ∈iO s) vs
 | [],_,_=>trivial
 | _::_,_,h=>by obtain⟨u,q,_,h2,h3⟩:=h;exact⟨RV.Qk h2,jE.Ec h3⟩
end
end
theorem bD {α β:Type}{x x':Option α}{f f':α→Option β}{b:β}(hx:∀a,x=some a→x'=some a)(hf:∀a,x=some a→f a=some b→f' a=some b)(h:bnd x f=some b):bnd x' f'=some b:=by
 obtain⟨a,h1,h2⟩:=aj h
 rw [hx a h1];exact hf a h1 h2
theorem xG {α:Type}{c:Prop} [Decidable c]{x x':Option α}{b:α}(hx:x=some b→x'=some b)(h:grd c x=some b):grd c x'=some b:=by
 obtain⟨h1,h2⟩:=aB h
 rw [eB _ h1];exact hx h2
section
variable {P:Program} {oB oT:Nat→Prop} {s s':S}
theorem Nc.rows (A:Nc oB oT s s'){x:V}{r:List (List D)}(i:Qk oB oT x)(h:s.rows x=some r):s'.rows x=some r:=by
 cases x<;>first|exact h|exact A.own _ _ h i|exact bD (fun _ h=>A.tree _ _ h i) (fun _ _ h=>h) h
theorem Nc.under (A:Nc oB oT s s'){base:V}{k i j:Nat}{d:D}:s'.under base k i j d=s.under base k i j d:=by
 cases d with
 | a x=>rfl
 | gone=>rfl
 | l rows=>cases base<;>first|rfl|simp only [S.under,A.dK]
theorem Nc.vN (A:Nc oB oT s s'){base:V}{k i:Nat}:∀{l:List D} {j:Nat},YtlpdjhiggpblcaaGreat.vN s' base k i j l=YtlpdjhiggpblcaaGreat.vN s base k i j l
 | [],_=>rfl
 | d::l,j=>by simp only [YtlpdjhiggpblcaaGreat.vN,A.under,Nc.vN A]
theorem Nc.load (A:Nc oB oT s s'){t:TypeId}{p v:V}(i:Qk oB oT p)(h:s.load P t p=some v):s'.load P t p=some v:=by
 cases p<;>simp only [S.load]at h⊢<;>try (cases h;done)
 case ref b off=>exact bD (fun _ h=>h) (fun g _ h=>bD (fun cs h=>A.box b cs h i) (fun _ _ h=>h) h) h
 case pe base k i0 off=>
  refine bD (fun _ h=>h) (fun g _ h=>bD (fun r h=>A.rows (x:=base) i h) (fun r _ h=>bD (fun _ h=>h) (fun r _ h=>xG (fun h=>?_) h) h) h) h
  have e:∀j,s'.under base k i0 j=s.under base k i0 j:=fun j=>funext fun d=>A.under
  unfold S.J6 at h⊢
  rw [e,A.vN];exact h
theorem Nc.slice (A:Nc oB oT s s'){x:V}{lo hi:Option V}{d:TypeDesc}:qY P s' x lo hi d=qY P s x lo hi d:=by
 unfold qY
 split
 ·rfl
 ·congr 1
  unfold Fx
  cases x<;>first|rfl|simp only [A.dK]
 ·rfl
theorem Nc.conv (A:Nc oB oT s s'){x v:V}{d0 d:TypeDesc}(i:Qk oB oT x)(h:xB P s x d0 d=some v):xB P s' x d0 d=some v:=by
 have bytes:∀x,Qk oB oT x→yP P s x d0=some v→yP P s' x d0=some v:=fun x i h=>by
  unfold yP at h⊢
  exact bD (fun _ h=>h) (fun _ _ h=>bD (fun _ h=>h) (fun _ _ h=>xG (fun h=>bD (fun r h=>A.rows i h) (fun _ _ h=>h) h) h) h) h
 unfold xB at h⊢
 split at h
 ·exact h
 ·cases x with
  | v y=>cases y<;>first|exact h|cases h
  | _=>exact bytes _ i h
 ·cases h
theorem Nc.indexAddr (A:Nc oB oT s s'){x:V}{i:Int}{e:TypeId}{n:Option Nat}{v:V}(hi:Qk oB oT x)(h:lI P s x i e n=some v):lI P s' x i e n=some v:=by
 cases n with
 | some n=>exact h
 | none=>exact bD (fun _ h=>A.rows hi h) (fun _ _ h=>h) h
def FN (oB oT:Nat→Prop)(s s':S)(x:Operand):Prop:= ∀v,s.ev x=some v→s'.ev x=some v∧Qk oB oT v
theorem EF:∀{l:List Operand} {vs:List V},(∀x∈l,FN oB oT s s' x)→bK s.ev l=some vs→bK s'.ev l=some vs∧Ec oB oT vs
 | [],vs,_,h=>by simp only [bK]at h⊢;injection h with h;subst h;exact⟨rfl,trivial⟩
 | x::l,vs,E,h=>by
  simp only [bK]at h⊢
  obtain⟨v,h1,h⟩:=aj h
  obtain⟨r,h2,h⟩:=aj h
  injection h with h;subst h
  obtain⟨k1,k2⟩:=E x List.mem_cons_self v h1
  obtain⟨k3,k4⟩:=EF (fun z hz=>E z (List.mem_cons_of_mem _ hz)) h2
  rw [k1,k3];exact⟨rfl,k2,k4⟩
theorem FP:∀{l:List (Nat×Operand)} {vs:List (Nat×V)},(∀x∈l,FN oB oT s s' x.2)→bK (o9 s) l=some vs→bK (o9 s') l=some vs
 | [],vs,_,h=>h
 | x::l,vs,E,h=>by
  simp only [bK]at h⊢
  refine bD (fun a h=>bD (fun v h=>(E x List.mem_cons_self v h).1) (fun _ _ h=>h) h) (fun a _ h=>bD (fun b h=>FP (fun z hz=>E z (List.mem_cons_of_mem _ hz)) h) (fun _ _ h=>h) h) h
theorem ZF {x:Option Operand}{v:Option V}(E:∀y,x=some y→FN oB oT s s' y)(h:kg s x=some v):kg s' x=some v:=by
 cases x with
 | none=>exact h
 | some x=>exact bD (fun v h=>(E x rfl v h).1) (fun _ _ h=>h) h
theorem ahU {G:List (FuncId×Bool×aN)}{d:Option Nat}{op:Op}{v:V}(h:jl P s op=some v):iR P G s d op=some (s.put d v):=by
 have key:∀(x:Option V),x=some v→bnd x (fun v=>some (s.put d v))=some (s.put d v):=fun x e=>by rw [e];rfl
 cases op<;>simp only [jl]at h<;>try (cases h;done)
 case slice t x lo hi mx=>
  cases mx with
  | some m=>cases h
  | none=>
   simp only [jl]at h
   obtain⟨vx,h1,h5⟩:=aj h
   obtain⟨vl,h2,h6⟩:=aj h5
   obtain⟨vh,h3,h7⟩:=aj h6
   obtain⟨dd,h4,h8⟩:=aj h7
   simp only [iR,h1,h2,h3,h4,bq]
   cases vx
   case own p=>
    show ab8 P s d p vl vh dd (look p s.dK)=_
    cases hf:look p s.dK with
    | some r=>simp only [ab8];rw [h8];rfl
    | none=>
     exfalso
     unfold qY at h8
     split at h8
     ·cases h8
     ·obtain⟨_,h9⟩:=aB h8
      simp only [Fx]at h9
      rw [hf]at h9;cases h9
     ·cases h8
   all_goals (simp only [D6];rw [h8];rfl)
 case build t ps=>
  simp only [iR];rw [←key _ h];simp only [iY]
  congr 1;funext d';congr 1;funext fs
  unfold grd
  split
  ·simp only [iY];rfl
  ·rfl
 case convert t0 t x=>
  obtain⟨vx,h1,h⟩:=aj h
  obtain⟨d0,h2,h⟩:=aj h
  obtain⟨dd,h3,h⟩:=aj h
  simp only [iR,h1,h2,h3,bq]
  cases dd<;>first|(simp only [xB]at h;cases h;done)|(simp only [MJ];rw [h];rfl)
 case call c=>
  obtain⟨args,h1,h⟩:=aj h
  simp only [iR,h1,bq]
  unfold MN at h
  split at h
  ·rename_i b hb
   rw [hb]
   unfold ML at h
   split at h
   ·injection h with h;subst h;rfl
   ·injection h with h;subst h;rfl
   ·cases h
  ·cases h
 all_goals (simp only [iR];rw [←key _ h];try simp only [iY])
theorem V7 (A:Nc oB oT s s'){op:Op}{v:V}(E:∀x∈op.operands.toList,FN oB oT s s' x)(h:jl P s op=some v):jl P s' op=some v:=by
 cases op<;>try (simp only [jl]at h;done)
 case move x=>exact(E x (by simp [Op.operands]) v h).1
 case assign x=>exact(E x (by simp [Op.operands]) v h).1
 case pick c x y=>
  refine bD (fun v h=>(E c (by simp [Op.operands]) v h).1) (fun _ _ h=>bD (fun _ h=>h) (fun b _ h=>?_) h) h
  cases b
  ·exact(E y (by simp [Op.operands]) v h).1
  ·exact(E x (by simp [Op.operands]) v h).1
 case build t ps=>exact bD (fun _ h=>h) (fun _ _ h=>bD (fun _ h=>h) (fun _ _ h=>xG (fun h=>bD (fun _ h=>h) (fun _ _ h=>bD (fun _ h=>FP (fun x hx=>E x.2 (by simp only [Op.operands];exact List.mem_map.2 ⟨x,hx,rfl⟩)) h) (fun _ _ h=>h) h) h) h) h) h
 case load t p=>exact bD (fun v h=>(E p (by simp [Op.operands]) v h).1) (fun v h1 h=>A.load (E p (by simp [Op.operands]) v h1).2 h) h
 case nilCheck x=>exact bD (fun v h=>(E x (by simp [Op.operands]) v h).1) (fun _ _ h=>h) h
 case binOp op t x y t'=>exact bD (fun v h=>(E x (by simp [Op.operands]) v h).1) (fun _ _ h=>bD (fun v h=>(E y (by simp [Op.operands]) v h).1) (fun _ _ h=>h) h) h
 case unOp op t x=>exact bD (fun v h=>(E x (by simp [Op.operands]) v h).1) (fun _ _ h=>h) h
 case convert t0 t x=>exact bD (fun v h=>(E x (by simp [Op.operands]) v h).1) (fun v h1 h=>bD (fun _ h=>h) (fun _ _ h=>bD (fun _ h=>h) (fun _ _ h=>A.conv (E x (by simp [Op.operands]) v h1).2 h) h) h) h
 case slice t x lo hi mx=>
  cases mx with
  | some m=>cases h
  | none=>exact bD (fun v h=>(E x (by simp [Op.operands]) v h).1) (fun _ _ h=>bD (fun _ h=>ZF (fun y hy=>E y (by subst hy;simp [Op.operands])) h) (fun _ _ h=>bD (fun _ h=>ZF (fun y hy=>E y (by subst hy;simp [Op.operands])) h) (fun _ _ h=>bD (fun _ h=>h) (fun _ _ h=>by rw [A.slice];exact h) h) h) h) h
 case fieldAddr t x f=>exact bD (fun v h=>(E x (by simp [Op.operands]) v h).1) (fun _ _ h=>h) h
 case field t x f=>exact bD (fun v h=>(E x (by simp [Op.operands]) v h).1) (fun _ _ h=>h) h
 case indexAddr t x i=>exact bD (fun v h=>(E x (by simp [Op.operands]) v h).1) (fun v h1 h=>bD (fun v h=>(E i (by simp [Op.operands]) v h).1) (fun _ _ h=>bD (fun _ h=>h) (fun _ _ h=>bD (fun _ h=>h) (fun _ _ h=>A.indexAddr (E x (by simp [Op.operands]) v h1).2 h) h) h) h) h
 case index t x i=>exact bD (fun v h=>(E x (by simp [Op.operands]) v h).1) (fun _ _ h=>bD (fun v h=>(E i (by simp [Op.operands]) v h).1) (fun _ _ h=>h) h) h
 case extract x i=>exact bD (fun v h=>(E x (by simp [Op.operands]) v h).1) (fun _ _ h=>h) h
 case makeFunc fn first cap=>exact bD (fun _ h=>(EF (fun x hx=>E x (by simp only [Op.operands,Array.toList_append];exact List.mem_append_right _ hx)) h).1) (fun _ _ h=>h) h
 case call c=>exact bD (fun _ h=>(EF (fun x hx=>E x (by simp only [Op.operands,Call.operands,Array.toList_append];exact List.mem_append_right _ hx)) h).1) (fun _ _ h=>h) h
 all_goals (first|(simp only [jl]at h;cases h;done)|skip)
end
section
variable {P:Program} {oB oT:Nat→Prop} {s s':S}
mutual
theorem V8 (A:Nc oB oT s s'):∀{c:iN} {v:V} {r:V×iN},Qk oB oT v→jV s c v=some r→jV s' c v=some r
 | c, .v _,r,_,h=>h
 | c, .ref _ _,r,_,h=>h
 | c, .agg cs,r,i,h=>by simp only [jV]at h⊢;exact bD (fun _ h=>EG A i h) (fun _ _ h=>h) h
 | c, .fn f cs,r,i,h=>by simp only [jV]at h⊢;exact bD (fun _ h=>EG A i h) (fun _ _ h=>h) h
 | c, .nil,r,_,h=>h
 | c, .aL _ _,r,_,h=>h
 | c, .fz _,r,_,h=>h
 | c, .mp _,r,_,h=>h
 | c, .own p,r,i,h=>by simp only [jV]at h⊢;exact bD (fun _ h=>A.rows (x:= .own p) i h) (fun _ _ h=>h) h
 | c, .inn p i1 j1 k1,r,i,h=>by simp only [jV]at h⊢;exact bD (fun _ h=>A.rows (x:= .inn p i1 j1 k1) i h) (fun _ _ h=>h) h
 | c, .pe _ _ _ _,r,_,h=>h
 | c, .fU _,r,_,h=>h
 | c, .dead,r,_,h=>h
theorem EG (A:Nc oB oT s s'):∀{c:iN} {vs:List V} {r:List V×iN},Ec oB oT vs→wF s c vs=some r→wF s' c vs=some r
 | c,[],r,_,h=>h
 | c,v::vs,r,i,h=>by
  simp only [wF]at h⊢
  exact bD (fun _ h=>V8 A i.1 h) (fun _ _ h=>bD (fun _ h=>EG A i.2 h) (fun _ _ h=>h) h) h
end
theorem ZG (A:Nc oB oT s s'){M:aN}{d:Nat}{args:List V}{e:Eff}(i:Ec oB oT args)(h:FC M s d args=some e):FC M s' d args=some e:=
 bD (fun _ h=>EG A i h) (fun _ _ h=>h) h
theorem Nf {src:List V}{box:List Nat}{t:Nat}:∀{rt:List (Nat×List (List D))} {s:S},jv s (vo t rt)=true→jQ ⟨src,box,[]⟩ t rt s=some {s with tree:=(vo t rt).reverse++s.tree}
 | [],s,_=>rfl
 | (q,rows)::r,s,h=>by
  simp only [vo,jv,Bool.and_eq_true,decide_eq_true_eq]at h
  simp only [jQ]
  have hn:gX ⟨src,box,[]⟩ t q=1000*(t+1)+q:=rfl
  rw [if_neg (by simp),hn,eB _ h.1,Nf h.2]
  simp only [vo,List.reverse_cons,List.append_assoc]
  rfl
theorem Ql (M:aN)(s:S)(dst:Option Nat)(args:List V):xC false M s dst args=wG false M s dst args:=by
 unfold xC;split
 ·rw [if_neg (by simp)]
 ·rfl
theorem acw {M:aN}{s:S}{d:Nat}{args:List V}{e:Eff}(h:FC M s d args=some e)(hf:jv s e.tree=true):wG false M s (some d) args=some (s.app (some d) e):=by
 unfold FC at h
 obtain⟨x,h1,h⟩:=aj h
 obtain⟨h2,h⟩:=aB h
 obtain⟨r,h3,h⟩:=aj h
 obtain⟨h4,h⟩:=aB h
 obtain⟨v,h5,h⟩:=aj h
 injection h with h;subst h
 obtain⟨vs,src,box,tree⟩:=x
 obtain⟨rv,rb,rt⟩:=r
 simp only [Bool.and_eq_true,List.isEmpty_iff]at h2 h4
 obtain⟨rfl,rfl⟩:=h2
 subst h4
 unfold wG PZ
 rw [if_neg (by simp),h1,bq]
 simp only [mP,bq,qA]
 rw [eB _ (by rfl),h3,bq]
 refine Zf ?_
 unfold S.back
 simp only [gV,iX,bq,Option.getD_some]
 rw [Nf hf,bq,h5,bq]
 rfl
end
end Go.Proofs.YtlpdjhiggpblcaaGreat
namespace Go.Proofs.YtlpdjhiggpblcaaGreat
set_option linter.unusedSectionVars false
set_option linter.unusedSimpArgs false
set_option linter.unusedVariables false
open Go.RowKit
section
variable {P:Program} {G:List (FuncId×Bool×aN)} {oB oT:Nat→Prop} {s s':S}
theorem afL {dst:Option Nat}{ats:Array TypeId}(x:V)(hx:∀b,x≠ .v (.string b)):kE P s dst .len ats [x]=bnd ats[0]? fun t=>grd (AF P t=true) (bnd (s.rows x) fun rows=>some (s.put dst (.v (.int .i64 rows.length)))):=by
 cases x<;>first|rfl|(rename_i y;cases y<;>first|rfl|exact absurd rfl (hx _))
theorem acy {ats:Array TypeId}(x:V)(hx:∀b,x≠ .v (.string b)):C9 P s .len ats [x]=bnd ats[0]? fun t=>grd (AF P t=true) (bnd (s.rows x) fun rows=>some (.v (.int .i64 rows.length))):=by
 cases x<;>first|rfl|(rename_i y;cases y<;>first|rfl|exact absurd rfl (hx _))
theorem ajN {b:Builtin}{ats:Array TypeId}{args:List V}{d:Nat}{v:V}(h:C9 P s b ats args=some v):kE P s (some d) b ats args=some (s.put (some d) v):=by
 have h0:=h
 unfold C9 at h
 split at h
 ·obtain⟨t,h1,h⟩:=aj h
  obtain⟨h2,h⟩:=aB h
  injection h with h;subst h
  simp only [kE,h1,bq,eB _ h2]
 ·rename_i x hx
  obtain⟨t,h1,h⟩:=aj h
  obtain⟨h2,h⟩:=aB h
  obtain⟨rows,h3,h⟩:=aj h
  injection h with h;subst h
  rw [afL x fun b e=>hx b e]
  simp only [h1,bq,eB _ h2,h3]
 ·injection h with h;subst h;rfl
 ·injection h with h;subst h;rfl
 ·cases h
theorem ahV (A:Nc oB oT s s'){b:Builtin}{ats:Array TypeId}{args:List V}{v:V}(i:Ec oB oT args)(h:C9 P s b ats args=some v):C9 P s' b ats args=some v:=by
 have h0:=h
 unfold C9 at h
 split at h
 ·exact h
 ·rename_i x hx
  rw [acy x fun b e=>hx b e]at h0⊢
  exact bD (fun _ h=>h) (fun _ _ h=>xG (fun h=>bD (fun _ h=>A.rows i.1 h) (fun _ _ h=>h) h) h) h0
 ·exact h
 ·exact h
 ·cases h
theorem IG {x:V}(hx:∀v,x≠ .v v):nE s x=bnd (s.rows x) fun rows=>grd (dU rows=true) (some rows):=by
 cases x<;>first|rfl|exact absurd rfl (hx _)
theorem FQ {x:V}{rows:List (List D)}(h:nE s x=some rows):KV s x=some (rows,s):=by
 cases x with
 | v y=>cases y<;>first|(simp only [nE]at h;cases h;done)|(simp only [nE]at h;injection h with h;subst h;rfl)
 | own q=>
  rw [IG (by intro v e;cases e)]at h
  obtain⟨r,h1,h⟩:=aj h
  obtain⟨h2,h⟩:=aB h
  injection h with h;subst h
  simp only [S.rows]at h1
  simp only [KV]
  cases e:look q s.tree with
  | some r'=>rw [e]at h1;simp only [lY]at h1;injection h1 with h1;subst h1;simp only [LC,if_pos h2]
  | none=>rw [e]at h1;simp only [lY]at h1;simp only [LC,h1,bq,eB _ h2]
 | _=>
  rw [IG (by intro v e;cases e)]at h
  obtain⟨r,h1,h⟩:=aj h
  obtain⟨h2,h⟩:=aB h
  injection h with h;subst h
  simp only [S.rows]at h1
  first|(cases h1;done)|(injection h1 with h1;subst h1;first|rfl|simp only [KV,eB _ h2])|(simp only [KV,S.rows,h1,bq,eB _ h2])
theorem Ng (A:Nc oB oT s s'){x:V}{rows:List (List D)}(i:Qk oB oT x)(h:nE s x=some rows):nE s' x=some rows:=by
 cases x with
 | v y=>cases y<;>exact h
 | _=>
  rw [IG (by intro v e;cases e)]at h⊢
  exact bD (fun _ h=>A.rows i h) (fun _ _ h=>h) h
theorem Nh:∀{l:List V} {r:List D},bK AV l=some r→iT s l=some (r,s)
 | [],r,h=>by simp only [bK]at h;injection h with h;subst h;rfl
 | v::l,r,h=>by
  simp only [bK]at h
  obtain⟨x,h1,h⟩:=aj h
  obtain⟨q,h2,h⟩:=aj h
  injection h with h;subst h
  cases v<;>first|(simp only [AV]at h1;cases h1;done)|simp only [iT,h1,bq,Nh h2]
theorem K9:∀{l:List (Nat×V)} {r:List (List D)},bK (fun v:Nat×V=>bK AV v.2.cells) l=some r→kC s (l.map (·.2))=some (r,s)
 | [],r,h=>by simp only [bK]at h;injection h with h;subst h;rfl
 | v::l,r,h=>by
  simp only [bK]at h
  obtain⟨x,h1,h⟩:=aj h
  obtain⟨q,h2,h⟩:=aj h
  injection h with h;subst h
  simp only [List.map_cons,kC,Nh h1,bq,K9 h2]
theorem ahW {d:Nat}{op:Op}{e:Eff}(h:qj P G s d op=some e)(hf:jv s e.tree=true)(hb:kF s e.box=true):iR P G s (some d) op=some (s.app (some d) e)∨
  ∃(cl:Call) (p:Nat) (z:V) (t tx el:TypeId) (new:List (List D)),op= .call cl∧cl.callee= .builtin .append∧bK s.ev cl.args.toList=some [.own p,z]∧cl.argTypes[0]?=some t∧cl.argTypes[1]?=some tx∧Eu P tx=true∧P.underlying t=some (.slice el)∧KV s z=some (new,s)∧look p s.tree=some []∧lC P el new.length=true∧wid (P.cellsOf el) new=true∧s.newTree (some d) new=some (s.app (some d) e):=by
 have val:bnd (jl P s op) (fun v=>some (⟨v,[],[]⟩:Eff))=some e→iR P G s (some d) op=some (s.app (some d) e):=fun h=>by
  obtain⟨v,h1,h⟩:=aj h
  injection h with h;subst h
  rw [ahU h1];rfl
 cases op<;>try exact .inl (val h)
 case alloc t=>
  left
  obtain⟨cs,h1,h⟩:=aj h
  injection h with h;subst h
  simp only [kF,Bool.and_true]at hb
  simp only [iR,h1,bq,S.uY]
  rw [eB _ hb];rfl
 case box t x=>
  left
  obtain⟨v,h1,h⟩:=aj h
  obtain⟨h2,h⟩:=aB h
  injection h with h;subst h
  simp only [kF,Bool.and_true]at hb
  simp only [iR,h1,bq,S.uY]
  rw [eB _ h2,eB _ hb];rfl
 case buildSlice t n ps=>
  left
  obtain⟨ds,h1,h⟩:=aj h
  obtain⟨el,h2,h⟩:=aj h
  obtain⟨vs,h3,h⟩:=aj h
  obtain⟨h4,h⟩:=aB h
  obtain⟨rows,h5,h⟩:=aj h
  injection h with h;subst h
  simp only [jv,Bool.and_true,Bool.and_eq_true]at hf
  simp only [iR,h1,h2,h3,bq,eB _ h4,K9 h5,S.newTree]
  rw [eB _ hf.1];rfl
 case call c=>
  simp only [qj]at h
  obtain⟨args,h1,h⟩:=aj h
  simp only [iR,h1,bq]
  unfold LG
  unfold yQ at h
  split at h
  ·rename_i b hcl
   unfold Zi at h
   split at h
   ·rename_i x y
    obtain⟨t,h2,h⟩:=aj h
    obtain⟨t1,h3,h⟩:=aj h
    obtain⟨h4,h⟩:=aB h
    obtain⟨ds,h5,h⟩:=aj h
    obtain⟨el,h6,h⟩:=aj h
    obtain⟨new,h7,h⟩:=aj h
    cases x<;>simp only [Ic]at h<;>try (cases h;done)
    case nil=>
     left
     obtain⟨h8,h⟩:=aB h
     injection h with h;subst h
     simp only [jv,Bool.and_true,Bool.and_eq_true]at hf
     simp only [hcl,kE,h2,h3,bq,eB _ h4,J7,h5,h6,FQ h7,rW,eB _ h8,S.newTree,eB _ hf.1]
     rfl
    case own=>
     right
     obtain⟨rows,h8,h⟩:=aj h
     obtain⟨⟨h9,h10,h11⟩,h⟩:=aB h
     injection h with h;subst h
     have hr:rows= []:=by simpa using h9
     subst hr
     have hds:ds= .slice el:=by unfold iW at h6;split at h6<;>first|(injection h6 with h6;subst h6;rfl)|cases h6
     subst hds
     simp only [jv,Bool.and_true,Bool.and_eq_true]at hf
     refine⟨c,_,y,t,t1,el,new,rfl,hcl,h1,h2,h3,h4,h5,FQ h7,h8,h10,h11,?_⟩
     simp only [S.newTree,bq,eB _ hf.1]
     rfl
   ·left
    obtain⟨v,h2,h⟩:=aj h
    injection h with h;subst h
    rw [ajN h2];rfl
  ·left
   rename_i g hcl
   obtain⟨fv,h2,h⟩:=aj h
   obtain⟨f,h3,h⟩:=aj h
   obtain⟨M,h4,h⟩:=aj h
   obtain⟨h5,h⟩:=aB h
   simp only [hcl,h2,h3,h4,bq,h5,Ql]
   exact acw h hf
  ·cases h
theorem acz (A:Nc oB oT s s'){d:Nat}{el:TypeId}{new:List (List D)}{x:V}{e:Eff}(i:Qk oB oT x)(h:Ic P s d el new x=some e):Ic P s' d el new x=some e:=by
 cases x<;>simp only [Ic]at h⊢<;>try (cases h;done)
 ·exact h
 ·exact bD (fun _ h=>A.tree _ _ h i) (fun _ _ h=>h) h
theorem afM (A:Nc oB oT s s'){d:Nat}{op:Op}{e:Eff}(E:∀x∈op.operands.toList,FN oB oT s s' x)(h:qj P G s d op=some e):qj P G s' d op=some e:=by
 have val:bnd (jl P s op) (fun v=>some (⟨v,[],[]⟩:Eff))=some e→bnd (jl P s' op) (fun v=>some (⟨v,[],[]⟩:Eff))=some e:=fun h=>bD (fun _ h=>V7 A E h) (fun _ _ h=>h) h
 cases op<;>try exact val h
 case alloc t=>exact h
 case box t x=>exact bD (fun v h=>(E x (by simp [Op.operands]) v h).1) (fun _ _ h=>h) h
 case buildSlice t n ps=>exact bD (fun _ h=>h) (fun _ _ h=>bD (fun _ h=>h) (fun _ _ h=>bD (fun _ h=>FP (fun x hx=>E x.2 (by simp only [Op.operands];exact List.mem_map.2 ⟨x,hx,rfl⟩)) h) (fun _ _ h=>h) h) h) h
 case call c=>
  simp only [qj]at h⊢
  obtain⟨args,h1,h⟩:=aj h
  have hmem:∀x∈c.args.toList,FN oB oT s s' x:=fun x hx=>E x (by simp only [Op.operands,Call.operands,Array.toList_append];exact List.mem_append_right _ hx)
  obtain⟨k1,k2⟩:=EF hmem h1
  rw [k1,bq]
  unfold yQ at h⊢
  split at h
  ·rename_i b hcl
   unfold Zi at h⊢
   split at h
   ·rename_i x y
    exact bD (fun _ h=>h) (fun _ _ h=>bD (fun _ h=>h) (fun _ _ h=>xG (fun h=>bD (fun _ h=>h) (fun _ _ h=>bD (fun _ h=>h) (fun _ _ h=>bD (fun _ h=>Ng A k2.2.1 h) (fun _ _ h=>acz A k2.1 h) h) h) h) h) h) h
   ·exact bD (fun _ h=>ahV A k2 h) (fun _ _ h=>h) h
  ·rename_i g hcl
   obtain⟨fv,h2,h⟩:=aj h
   obtain⟨f,h3,h⟩:=aj h
   obtain⟨M,h4,h⟩:=aj h
   obtain⟨h5,h⟩:=aB h
   obtain⟨k3,k4⟩:=E g (by simp only [Op.operands,Call.operands,hcl];simp) fv h2
   simp only [k3,h3,h4,bq,eB _ h5]
   refine ZG A (ZE k2 ?_) h
   cases fv<;>simp only [Xn]at h3<;>try (cases h3;done)
   injection h3 with h3;subst h3
   exact k4
  ·cases h
end
theorem Sj {α:Type}{k:Nat}{l:List (Nat×α)}:k∈l.map (·.1)↔∃x,look k l=some x:=by
 constructor
 ·intro h
  cases e:look k l with
  | some x=>exact⟨x,rfl⟩
  | none=>exact absurd h (jX e)
 ·rintro ⟨x,e⟩
  exact List.mem_map.2 ⟨_,fI e,rfl⟩
theorem FR {s:S}{b:Nat}:b∈oM s↔∃cs,look b s.box=some cs:=Sj
theorem vP {s:S}{p:Nat}:p∈iO s↔(∃r,look p s.tree=some r)∨∃r,look p s.dK=some r:=by
 unfold iO
 rw [List.map_append,List.mem_append,Sj,Sj]
theorem Sk {α:Type}{k:Nat}:∀{l m:List (Nat×α)},k∉l.map (·.1)→look k (l++m)=look k m
 | [],_,_=>rfl
 | (j,x)::l,m,h=>by
  simp only [List.map_cons,List.mem_cons,not_or]at h
  simp only [List.cons_append,look,if_neg h.1]
  exact Sk h.2
theorem V9 {α:Type}{k:Nat}{l l':List (Nat×α)}(p:l'.Perm l)(n:(l.map (·.1)).Nodup):look k l'=look k l:=by
 have n':(l'.map (·.1)).Nodup:=(p.map _).nodup_iff.2 n
 cases h:look k l with
 | some x=>exact jY n' (p.mem_iff.2 (fI h))
 | none=>
  cases h':look k l' with
  | none=>rfl
  | some x=>
   have:look k l=some x:=jY n (p.mem_iff.1 (fI h'))
   rw [h]at this;cases this
structure Cr (s s1:S):Prop where
 box:∀b∈oM s,look b s1.box=look b s.box
 tree:∀p∈iO s,look p s1.tree=look p s.tree
 dK:s1.dK=s.dK
theorem Cr.refl (s:S):Cr s s:=⟨fun _ _=>rfl,fun _ _=>rfl,rfl⟩
theorem Cr.oM {s s1:S}(W:Cr s s1){b:Nat}(h:b∈oM s):b∈oM s1:=by
 obtain⟨cs,e⟩:=FR.1 h
 exact FR.2 ⟨cs,by rw [W.box b h];exact e⟩
theorem Cr.iO {s s1:S}(W:Cr s s1){p:Nat}(h:p∈iO s):p∈iO s1:=by
 rcases vP.1 h with⟨r,e⟩|⟨r,e⟩
 ·exact vP.2 (.inl ⟨r,by rw [W.tree p h];exact e⟩)
 ·exact vP.2 (.inr ⟨r,by rw [W.dK];exact e⟩)
theorem Cr.trans {s s1 s2:S}(W:Cr s s1)(X:Cr s1 s2):Cr s s2:=
 ⟨fun b h=>(X.box b (W.oM h)).trans (W.box b h),fun p h=>(X.tree p (W.iO h)).trans (W.tree p h),X.dK.trans W.dK⟩
theorem Cr.rows {s s1:S}(W:Cr s s1){p:Nat}(h:p∈Proofs.YtlpdjhiggpblcaaGreat.iO s):s1.rows (.own p)=s.rows (.own p):=by
 simp only [S.rows,W.tree p h,W.dK]
theorem Cr.up {s s1:S}(W:Cr s s1):Nc (fun _=>True) (fun _=>True) s s1:=
 ⟨fun b cs h _=>by rw [W.box b (FR.2 ⟨cs,h⟩)];exact h,fun p r h _=>by
  have:p∈Proofs.YtlpdjhiggpblcaaGreat.iO s:=by
   simp only [S.rows]at h
   cases e:look p s.tree with
   | some r'=>exact vP.2 (.inl ⟨r',e⟩)
   | none=>rw [e]at h;exact vP.2 (.inr ⟨r,h⟩)
  rw [W.rows this];exact h,fun p r h _=>by rw [W.tree p (vP.2 (.inl ⟨r,h⟩))];exact h,W.dK⟩
theorem Cr.down {s s1:S}(W:Cr s s1):Nc (· ∈Proofs.YtlpdjhiggpblcaaGreat.oM s) (· ∈Proofs.YtlpdjhiggpblcaaGreat.iO s) s1 s:=
 ⟨fun b cs h hb=>by rw [←W.box b hb];exact h,fun p r h hp=>by rw [←W.rows hp];exact h,fun p r h hp=>by rw [←W.tree p hp];exact h,W.dK.symm⟩
structure Ct (e:Eff) (s:S):Prop where
 nt:(e.tree.map (·.1)).Nodup
 t:∀p∈e.tree.map (·.1),p∉iO s∧p<1000000000
 nb:(e.box.map (·.1)).Nodup
 b:∀b∈e.box.map (·.1),b∉oM s
theorem alm {l:List (Nat×List (List D))}:∀{s:S},jv s l=true↔(l.map (·.1)).Nodup∧∀p∈l.map (·.1),p∉iO s∧p<1000000000:=by
 induction l with
 | nil=>intro s;simp [jv]
 | cons x r ih=>
  intro s
  have hk:∀p,p∈iO {s with tree:=x::s.tree}↔p=x.1∨p∈iO s:=fun p=>by simp [iO]
  have hf:fresh s x.1=true↔x.1∉iO s:=by
   unfold fresh
   rw [Bool.and_eq_true,Option.isNone_iff_eq_none,Option.isNone_iff_eq_none,vP]
   constructor
   ·rintro ⟨h1,h2⟩ (⟨r,e⟩|⟨r,e⟩)
    ·rw [h1]at e;cases e
    ·rw [h2]at e;cases e
   ·intro h
    constructor
    ·cases e:look x.1 s.tree with
     | none=>rfl
     | some r=>exact absurd (.inl ⟨r,e⟩) h
    ·cases e:look x.1 s.dK with
     | none=>rfl
     | some r=>exact absurd (.inr ⟨r,e⟩) h
  simp only [jv,Bool.and_eq_true,decide_eq_true_eq,List.map_cons,List.nodup_cons,List.mem_cons,forall_eq_or_imp]
  rw [ih,hf]
  constructor
  ·rintro ⟨⟨h1,h2⟩,h3,h4⟩
   exact⟨⟨fun h=>(h4 _ h).1 ((hk _).2 (.inl rfl)),h3⟩,⟨h1,h2⟩,fun p hp=>⟨fun h=>(h4 p hp).1 ((hk p).2 (.inr h)),(h4 p hp).2⟩⟩
  ·rintro ⟨⟨h1,h2⟩,h3,h4⟩
   exact⟨h3,h2,fun p hp=>⟨fun h=>((hk p).1 h).elim (fun e=>h1 (e▸hp)) (h4 p hp).1,(h4 p hp).2⟩⟩
theorem aln {l:List (Nat×List V)}:∀{s:S},kF s l=true↔(l.map (·.1)).Nodup∧∀p∈l.map (·.1),p∉oM s:=by
 induction l with
 | nil=>intro s;simp [kF]
 | cons x r ih=>
  intro s
  have hk:∀p,p∈oM {s with box:=x::s.box}↔p=x.1∨p∈oM s:=fun p=>by simp [oM]
  have hf:(look x.1 s.box).isNone=true↔x.1∉oM s:=by
   rw [Option.isNone_iff_eq_none,FR]
   constructor
   ·rintro h1 ⟨r,e⟩;rw [h1]at e;cases e
   ·intro h
    cases e:look x.1 s.box with
    | none=>rfl
    | some r=>exact absurd ⟨r,e⟩ h
  simp only [kF,Bool.and_eq_true,List.map_cons,List.nodup_cons,List.mem_cons,forall_eq_or_imp]
  rw [ih,hf]
  constructor
  ·rintro ⟨h1,h3,h4⟩
   exact⟨⟨fun h=>(h4 _ h) ((hk _).2 (.inl rfl)),h3⟩,h1,fun p hp h=>(h4 p hp) ((hk p).2 (.inr h))⟩
  ·rintro ⟨⟨h1,h2⟩,h3,h4⟩
   exact⟨h3,h2,fun p hp h=>((hk p).1 h).elim (fun e=>h1 (e▸hp)) (h4 p hp)⟩
theorem Wd {e:Eff}{s:S}:(jv s e.tree&&kF s e.box)=true↔Ct e s:=by
 rw [Bool.and_eq_true,alm,aln]
 exact⟨fun⟨⟨a,b⟩,c,d⟩=>⟨a,b,c,d⟩,fun h=>⟨⟨h.nt,h.t⟩,h.nb,h.b⟩⟩
theorem Ct.less {e:Eff}{s s1:S}(h:Ct e s1)(W:Cr s s1):Ct e s:=
 ⟨h.nt,fun p hp=>⟨fun k=>(h.t p hp).1 (W.iO k),(h.t p hp).2⟩,h.nb,fun b hb k=>h.b b hb (W.oM k)⟩
theorem Wh {s:S}{d:Option Nat}{e:Eff}{b:Nat}:b∈oM (s.app d e)↔b∈e.box.map (·.1)∨b∈oM s:=by simp [oM,S.app]
theorem EH {s:S}{d:Option Nat}{e:Eff}{p:Nat}:p∈iO (s.app d e)↔p∈e.tree.map (·.1)∨p∈iO s:=by
 unfold iO S.app
 simp only [List.map_append,List.mem_append,List.map_reverse,List.mem_reverse]
 exact or_assoc
theorem Ct.wide {e:Eff}{s:S}(h:Ct e s)(d:Option Nat):Cr s (s.app d e):=
 ⟨fun b hb=>Sk fun k=>h.b b k hb,fun p hp=>Sk fun k=>(h.t p (by simpa using k)).1 hp,rfl⟩
def Nd (s:S):Prop:=(oM s).Nodup∧(iO s).Nodup
theorem Ct.nd {e:Eff}{s:S}(h:Ct e s)(n:Nd s)(d:Option Nat):Nd (s.app d e):=by
 constructor
 ·show((e.box++s.box).map (·.1)).Nodup
  rw [List.map_append]
  exact List.nodup_append.2 ⟨h.nb,n.1,fun a ha b hb e=>h.b a ha (e▸hb)⟩
 ·show((e.tree.reverse++s.tree++s.dK).map (·.1)).Nodup
  rw [List.append_assoc,List.map_append]
  refine List.nodup_append.2 ⟨?_,n.2,fun a ha b hb e=>(h.t a (by simpa using ha)).1 (e▸hb)⟩
  rw [List.map_reverse];exact(List.reverse_perm _).nodup_iff.2 h.nt
structure HZ (s s2:S):Prop where
 env:∀t,look t s2.env=look t s.env
 box:s2.box.Perm s.box
 tree:s2.tree.Perm s.tree
 dK:s2.dK=s.dK
theorem HZ.refl (s:S):HZ s s:=⟨fun _=>rfl, .refl _, .refl _,rfl⟩
theorem HZ.trans {a b c:S}(h:HZ a b)(k:HZ b c):HZ a c:=⟨fun t=>(k.env t).trans (h.env t),k.box.trans h.box,k.tree.trans h.tree,k.dK.trans h.dK⟩
theorem HZ.symm {a b:S}(h:HZ a b):HZ b a:=⟨fun t=>(h.env t).symm,h.box.symm,h.tree.symm,h.dK.symm⟩
theorem Nd.parts {s:S}(n:Nd s):(s.box.map (·.1)).Nodup∧(s.tree.map (·.1)).Nodup:=⟨n.1,by
 have:=n.2;unfold iO at this;rw [List.map_append]at this;exact(List.nodup_append.1 this).1⟩
theorem HZ.wide {s s2:S}(h:HZ s s2)(n:Nd s):Cr s s2:=
 ⟨fun b _=>V9 h.box n.parts.1,fun p _=>V9 h.tree n.parts.2,h.dK⟩
theorem HZ.nd {s s2:S}(h:HZ s s2)(n:Nd s):Nd s2:=by
 refine⟨(h.box.map _).nodup_iff.2 n.1,?_⟩
 unfold iO
 rw [h.dK]
 exact((h.tree.append_right s.dK).map _).nodup_iff.2 n.2
theorem HZ.oM {s s2:S}(h:HZ s s2){b:Nat}:b∈Proofs.YtlpdjhiggpblcaaGreat.oM s2↔b∈Proofs.YtlpdjhiggpblcaaGreat.oM s:=(h.box.map _).mem_iff
theorem HZ.iO {s s2:S}(h:HZ s s2){p:Nat}:p∈Proofs.YtlpdjhiggpblcaaGreat.iO s2↔p∈Proofs.YtlpdjhiggpblcaaGreat.iO s:=by
 unfold Proofs.YtlpdjhiggpblcaaGreat.iO;rw [h.dK];exact((h.tree.append_right s.dK).map _).mem_iff
theorem Wi {s:S}{d:Option Nat}{v:V}(t:Nat):look t (s.put d v).env=if some t=d then some v else look t s.env:=by
 cases d with
 | none=>rw [if_neg (by intro h;cases h)];rfl
 | some d=>
  show look t (YtlpdjhiggpblcaaGreat.put d v s.env)=_
  rw [MZ]
  by_cases h:t=d
  ·subst h;rw [if_pos rfl,if_pos rfl]
  ·rw [if_neg h,if_neg (by intro e;injection e with e;exact h e)]
theorem mU {s:S}{d:Option Nat}{e:Eff}(t:Nat):look t (s.app d e).env=if some t=d then some e.val else look t s.env:=Wi t
theorem HZ.app {s s2:S}(h:HZ s s2)(d:Option Nat)(e:Eff):HZ (s.app d e) (s2.app d e):=
 ⟨fun t=>by rw [mU,mU,h.env],h.box.append_left _,h.tree.append_left _,h.dK⟩
theorem ahX (s:S){d d':Option Nat}(e e':Eff)(h:∀t,d=some t→d'≠some t):HZ ((s.app d e).app d' e') ((s.app d' e').app d e):=
 ⟨fun t=>by
  rw [mU,mU,mU,mU]
  by_cases h1:some t=d
  ·rw [if_pos h1,if_neg fun h2=>h t h1.symm h2.symm,if_pos h1]
  ·by_cases h2:some t=d'
   ·rw [if_neg h1,if_pos h2]
    split<;>first|rfl|(rename_i h3;exact absurd h2 h3)
   ·rw [if_neg h1,if_neg h2,if_neg h2,if_neg h1],
  by show(e.box++(e'.box++s.box)).Perm (e'.box++(e.box++s.box))
     rw [←List.append_assoc,←List.append_assoc];exact List.Perm.append_right _ List.perm_append_comm,
  by show(e.tree.reverse++(e'.tree.reverse++s.tree)).Perm (e'.tree.reverse++(e.tree.reverse++s.tree))
     rw [←List.append_assoc,←List.append_assoc];exact List.Perm.append_right _ List.perm_append_comm,rfl⟩
structure Pd where
 i:Nat
 o:Oper
 g:Bool
 e:Eff
section
variable {P:Program} {G:List (FuncId×Bool×aN)} {ops:Array Oper}
structure Sl (P:Program) (G:List (FuncId×Bool×aN)) (ops:Array Oper) (s:S) (x:Pd):Prop where
 wants:s.wants ops x.o.guard=some x.g
 yes:x.g=true→∃d,x.o.dst=some d∧qj P G s d x.o.op=some x.e
 no:x.g=false→x.e=⟨.fU [],[],[]⟩
 new:Ct x.e s
theorem Sl.move {oB oT:Nat→Prop}{s s':S}{x:Pd}(h:Sl P G ops s x)(A:Nc oB oT s s')(hL:∀t∈x.o.looksAt ops,look t s'.env=look t s.env)
  (hI:∀t∈x.o.looksAt ops,∀v,look t s'.env=some v→Qk oB oT v) (hF:Ct x.e s'):Sl P G ops s' x:=by
 refine⟨?_,fun hg=>?_,h.no,hF⟩
 ·have:=h.wants
  cases e:x.o.guard with
  | none=>rw [e]at this;exact this
  | some jw=>
   obtain⟨j,want⟩:=jw
   rw [e]at this
   simp only [S.wants]at this⊢
   cases hd:(ops[j]?).bind (·.dst)with
   | none=>rw [hd]at this;exact this
   | some d=>
    rw [hd]at this
    simp only [Ka]at this⊢
    rw [hL d (by unfold Oper.looksAt;rw [e];simp [hd])];exact this
 ·obtain⟨d,h1,h2⟩:=h.yes hg
  refine⟨d,h1,afM A (fun z hz v hv=>?_) h2⟩
  cases z with
  | tmp t=>
   have ht:t∈x.o.looksAt ops:=by
    unfold Oper.looksAt
    exact List.mem_append_left _ (List.mem_filterMap.2 ⟨.tmp t,hz,rfl⟩)
   have hv:look t s.env=some v:=hv
   have h3:look t s'.env=some v:=by rw [hL t ht];exact hv
   exact⟨h3,hI t ht v h3⟩
  | const c=>exact⟨hv,Si hv⟩
  | func f=>exact⟨hv,by have hv:some (V.fn f [])=some v:=hv;injection hv with hv;subst hv;trivial⟩
  | global g=>cases hv
inductive Seg (P:Program) (G:List (FuncId×Bool×aN)) (ops:Array Oper):S→List Pd→S→Prop
 | nil (s:S):Seg P G ops s [] s
 | cons {s t:S} {x:Pd} {l:List Pd}:Sl P G ops s x→Seg P G ops (s.app x.o.dst x.e) l t→Seg P G ops s (x::l) t
theorem Seg.eqv {l:List Pd}:∀{s s2 t:S},Seg P G ops s l t→HZ s s2→Nd s→∃t2,Seg P G ops s2 l t2∧HZ t t2:=by
 induction l with
 | nil=>intro s s2 t h k n;cases h;exact⟨s2, .nil _,k⟩
 | cons x l ih=>
  intro s s2 t h k n
  cases h with
  | cons h1 h2=>
   have hF:Ct x.e s2:=⟨h1.new.nt,fun p hp=>⟨fun q=>(h1.new.t p hp).1 (k.iO.1 q),(h1.new.t p hp).2⟩,h1.new.nb,fun b hb q=>h1.new.b b hb (k.oM.1 q)⟩
   obtain⟨t2,a,b⟩:=ih h2 (k.app x.o.dst x.e) (h1.new.nd n _)
   exact⟨t2, .cons (h1.move (k.wide n).up (fun t _=>k.env t) (fun _ _ v _=>Cq v) hF) a,b⟩
theorem Seg.fresh {x:Pd}{l2:List Pd}:∀{l:List Pd} {s t:S},Seg P G ops s (l++x::l2) t→Ct x.e s
 | [],s,t,h=>by cases h with|cons h1 _=>exact h1.new
 | y::l,s,t,h=>by
  cases h with
  | cons h1 h2=>exact(Seg.fresh (l:=l) h2).less (h1.new.wide _)
theorem Seg.skip {x:Pd}{l2:List Pd}:∀{l:List Pd} {s s2 t:S},Seg P G ops s (l++x::l2) t→(∀y∈l,x.o.apart ops y.o=true)→HZ (s.app x.o.dst x.e) s2→Nd s→∃t2,Seg P G ops s2 (l++l2) t2∧HZ t t2
 | [],s,s2,t,h,_,k,n=>by
  cases h with|cons h1 h2=>exact Seg.eqv h2 k (h1.new.nd n _)
 | y::l,s,s2,t,h,ha,k,n=>by
  have hx:=Seg.fresh (l:=y::l) h
  cases h with
  | cons h1 h2=>
   have hx1:=Seg.fresh (l:=l) h2
   obtain⟨a1,a2,a3⟩:=Oper.apart_spec (ha y (by simp))
   have n1:Nd (s.app x.o.dst x.e):=hx.nd n _
   have W:Cr s s2:=(hx.wide _).trans (k.wide n1)
   have hF:Ct y.e s2:=by
    refine⟨h1.new.nt,fun p hp=>⟨fun q=>?_,(h1.new.t p hp).2⟩,h1.new.nb,fun b hb q=>?_⟩
    ·rcases EH.1 (k.iO.1 q)with q|q
     ·exact(hx1.t p q).1 (EH.2 (.inl hp))
     ·exact(h1.new.t p hp).1 q
    ·rcases Wh.1 (k.oM.1 q)with q|q
     ·exact hx1.b b q (Wh.2 (.inl hb))
     ·exact h1.new.b b hb q
   have hy:Sl P G ops s2 y:=h1.move W.up (fun t ht=>by
    rw [k.env,mU,if_neg]
    intro e;exact a1 t e.symm ht) (fun _ _ v _=>Cq v) hF
   obtain⟨t2,b1,b2⟩:=Seg.skip (l:=l) h2 (fun z hz=>ha z (by simp [hz])) ((ahX s y.e x.e fun t e=>fun e2=>a2 t e2 e).trans (k.app y.o.dst y.e)) (h1.new.nd n _)
   exact⟨t2, .cons hy b1,b2⟩
theorem Seg.upto {x:Pd}{l2:List Pd}:∀{l:List Pd} {s t:S},Seg P G ops s (l++x::l2) t→∃s1,Sl P G ops s1 x∧Cr s s1∧∀r,(∀y∈l,y.o.dst≠some r)→look r s1.env=look r s.env
 | [],s,t,h=>by cases h with|cons h1 h2=>exact⟨s,h1, .refl s,fun _ _=>rfl⟩
 | y::l,s,t,h=>by
  cases h with
  | cons h1 h2=>
   obtain⟨s1,a,b,c⟩:=Seg.upto (l:=l) h2
   refine⟨s1,a,(h1.new.wide _).trans b,fun r hr=>?_⟩
   rw [c r fun z hz=>hr z (by simp [hz]),mU,if_neg fun e=>hr y (by simp) e.symm]
theorem Seg.front {x:Pd}{l l2:List Pd}{s t:S}(h:Seg P G ops s (l++x::l2) t)(ha:∀y∈l,x.o.apart ops y.o=true)(n:Nd s)(hI:∀r v,look r s.env=some v→Qk (· ∈oM s) (· ∈iO s) v):
  Sl P G ops s x∧∃t2,Seg P G ops (s.app x.o.dst x.e) (l++l2) t2∧HZ t t2:=by
 obtain⟨s1,h1,W,he⟩:=h.upto
 refine⟨h1.move W.down (fun r hr=>(he r fun y hy e=>(Oper.apart_spec (ha y hy)).2.2 r e hr).symm) (fun r _ v hv=>hI r v hv) (h1.new.less W),Seg.skip h ha (.refl _) n⟩
end
def qy (o:Oper):List Nat:=(o.after.toList.filter (Region.binds .any)).map (·.on)
inductive Reach (l:List Oper):Nat→Nat→Prop
 | one {i e:Nat} {o:Oper}:l[i]?=some o→e∈qy o→Reach l i e
 | tail {i e j:Nat} {o:Oper}:l[i]?=some o→e∈qy o→Reach l e j→Reach l i j
def Sm (C:List (Nat×Nat))(e:Nat):Nat:=(look e C).getD 0
def LV (C:List (Nat×Nat)):List Nat→Nat
 | []=>0
 | e::r=>((1 <<< e) ||| Sm C e) ||| LV C r
theorem Qm {C:List (Nat×Nat)}{j:Nat}:∀{l:List Nat},(LV C l).testBit j=true→∃e∈l,j=e∨(Sm C e).testBit j=true
 | [],h=>by simp [LV]at h
 | e::r,h=>by
  unfold LV at h
  rw [Nat.testBit_or,Nat.testBit_or,Bool.or_eq_true,Bool.or_eq_true]at h
  rcases h with(h|h)|h
  ·refine⟨e,by simp, .inl ?_⟩
   rw [Nat.one_shiftLeft,Nat.testBit_two_pow]at h
   simpa using (of_decide_eq_true h).symm
  ·exact⟨e,by simp, .inr h⟩
  ·obtain⟨e',h1,h2⟩:=Qm h
   exact⟨e',by simp [h1],h2⟩
def aeU (bars:List (Nat×List Nat))(x y:Nat×Oper):Bool:=match look x.1 bars with
 | none=>true
 | some fl=>fl.contains y.1
def ahY (ops:Array Oper)(bars:List (Nat×List Nat))(M:Nat)(x y:Nat×Oper):Bool:=
 M.testBit y.1||(x.2.apart ops y.2&&((look y.1 bars).isNone&&aeU bars x y))
def Sn (bars:List (Nat×List Nat))(x:Nat×Oper):Bool:=match look x.1 bars with
 | some (_::_)=>x.2.guard.isNone
 | _=>true
def ajO (ops:Array Oper)(bars:List (Nat×List Nat)):List (Nat×Oper)→List (Nat×Nat)→List (Nat×Oper)→Bool
 | _,_,[]=>true
 | done,C,x::r=>(qy x.2).all (fun e=>done.any fun y=>y.1==e)&&(Sn bars x&&(done.all (fun y=> !(y.1==x.1)&&ahY ops bars (LV C (qy x.2)) x y)&&ajO ops bars (x::done) ((x.1,LV C (qy x.2))::C) r))
def away (ops:Array Oper)(x y:Oper):Bool:=match y.dst with
 | some d=> !(x.looksAt ops).contains d
 | none=>true
def FT (ops:Array Oper)(ap:Bool):List (Nat×Oper)→Bool
 | []=>true
 | x::r=>((ap||isVal x.2.op)&&x.2.guard.isNone&&x.2.dst.isSome&&away ops x.2 x.2&&r.all fun y=>away ops x.2 y.2&& !(x.2.dst==y.2.dst))&&FT ops ap r
def ZH (ops:Array Oper)(i:Nat):Bool:=match ops[i]? with
 | some o=>isApp o.op
 | none=>false
def XH (ops:Array Oper)(b:List Nat×List (Nat×List Nat)):Bool:=
 ajO ops b.2 [] [] (Bb ops b.1)&&(decide ((Bb ops b.1).length=ops.size)&&((List.range ops.size).all (fun i=>(Bb ops b.1).any fun x=>x.1==i)&&b.2.all fun z=>FT ops (ZH ops z.1) ((Bb ops b.1).filter fun y=>z.2.contains y.1)))
def Pair (ops:Array Oper)(bars:List (Nat×List Nat))(x y:Nat×Oper):Prop:=
 Reach ops.toList x.1 y.1∨(x.2.apart ops y.2=true∧look y.1 bars=none∧(look x.1 bars=none∨∃fl,look x.1 bars=some fl∧y.1∈fl))
structure acA (ops:Array Oper) (bars:List (Nat×List Nat)) (L:List (Nat×Oper)):Prop where
 mem:∀x∈L,ops[x.1]?=some x.2
 all:∀i,i<ops.size→i∈L.map (·.1)
 len:L.length=ops.size
 at_:∀A x B,L=A++x::B→(∀e∈qy x.2,e∈A.map (·.1))∧(∀fl f,look x.1 bars=some (f::fl)→x.2.guard=none)∧∀y∈A,y.1≠x.1∧Pair ops bars x y
 fl:∀z∈bars,FT ops (ZH ops z.1) (L.filter fun y=>z.2.contains y.1)=true
theorem Wj {ops:Array Oper}{bars:List (Nat×List Nat)}:∀{r:List (Nat×Oper)} {done:List (Nat×Oper)} {C:List (Nat×Nat)},ajO ops bars done C r=true→(∀x∈r,ops[x.1]?=some x.2)→(∀i j,(Sm C i).testBit j=true→Reach ops.toList i j)→
  ∀A x B,r=A++x::B→(∀e∈qy x.2,e∈A.map (·.1)∨e∈done.map (·.1))∧(∀fl f,look x.1 bars=some (f::fl)→x.2.guard=none)∧∀y,y∈A∨y∈done→y.1≠x.1∧Pair ops bars x y
 | [],done,C,_,_,_,A,x,B,e=>by simp at e
 | z::r,done,C,h,hm,hC,A,x,B,e=>by
  unfold ajO at h
  simp only [Bool.and_eq_true]at h
  obtain⟨h1,h2,h3,h4⟩:=h
  have hz:ops.toList[z.1]?=some z.2:=by rw [Array.getElem?_toList];exact hm z (by simp)
  have hR:∀j,(LV C (qy z.2)).testBit j=true→Reach ops.toList z.1 j:=fun j hj=>by
   obtain⟨e',k1,k2|k2⟩:=Qm hj
   ·subst k2;exact .one hz k1
   ·exact .tail hz k1 (hC _ _ k2)
  cases A with
  | nil=>
   simp only [List.nil_append,List.cons.injEq]at e
   obtain⟨rfl,rfl⟩:=e
   refine⟨fun e he=> .inr ?_,fun fl f hf=>?_,fun y hy=>?_⟩
   ·have:=List.all_eq_true.1 h1 e he
    obtain⟨y,k1,k2⟩:=List.any_eq_true.1 this
    exact List.mem_map.2 ⟨y,k1,by simpa using k2⟩
   ·unfold Sn at h2
    rw [hf]at h2
    simpa using h2
   ·rcases hy with hy|hy
    ·cases hy
    ·have:=List.all_eq_true.1 h3 y hy
     rw [Bool.and_eq_true]at this
     refine⟨by simpa using this.1,?_⟩
     have h5:=this.2
     unfold ahY at h5
     rw [Bool.or_eq_true,Bool.and_eq_true,Bool.and_eq_true]at h5
     rcases h5 with h5|⟨h5,h6,h7⟩
     ·exact .inl (hR _ h5)
     ·refine .inr ⟨h5,by simpa using h6,?_⟩
      unfold aeU at h7
      cases e:look z.1 bars with
      | none=>exact .inl rfl
      | some fl=>rw [e]at h7;exact .inr ⟨fl,rfl,by simpa using h7⟩
  | cons a A=>
   simp only [List.cons_append,List.cons.injEq]at e
   obtain⟨rfl,e⟩:=e
   obtain⟨k1,k2,k3⟩:=Wj h4 (fun x hx=>hm x (by simp [hx])) (fun i j hj=>by
    unfold Sm at hj
    simp only [look]at hj
    split at hj
    ·rename_i e;subst e;exact hR j hj
    ·exact hC i j hj) A x B e
   refine⟨fun e he=>?_,k2,fun y hy=>k3 y ?_⟩
   ·rcases k1 e he with h|h
    ·exact .inl (by simp [h])
    ·rw [List.map_cons,List.mem_cons]at h
     rcases h with h|h
     ·exact .inl (by simp [h])
     ·exact .inr h
   ·rcases hy with hy|hy
    ·rcases List.mem_cons.1 hy with hy|hy
     ·subst hy;exact .inr (by simp)
     ·exact .inl hy
    ·exact .inr (by simp [hy])
theorem Sq {x:Nat×Oper}:∀{l:List Oper} {k:Nat},x∈Ie k l→∃j,l[j]?=some x.2∧x.1=k+j
 | [],k,h=>by cases h
 | o::l,k,h=>by
  rcases List.mem_cons.1 h with h|h
  ·subst h;exact⟨0,rfl,rfl⟩
  ·obtain⟨j,h1,h2⟩:=Sq h
   exact⟨j+1,by simpa using h1,by omega⟩
theorem LW {ops:Array Oper}{x:Nat×Oper}:∀{l:List Nat},x∈picked ops l→ops[x.1]?=some x.2
 | [],h=>by cases h
 | i::l,h=>by
  unfold picked at h
  cases e:ops[i]? with
  | none=>rw [e]at h;exact LW h
  | some o=>
   rw [e]at h
   rcases List.mem_cons.1 h with h|h
   ·subst h;exact e
   ·exact LW h
theorem ZI {ops:Array Oper}{b:List Nat×List (Nat×List Nat)}(h:XH ops b=true):acA ops b.2 (Bb ops b.1):=by
 unfold XH at h
 simp only [Bool.and_eq_true,decide_eq_true_eq]at h
 obtain⟨h1,h2,h3,h4⟩:=h
 have hm:∀x∈Bb ops b.1,ops[x.1]?=some x.2:=fun x hx=>by
  unfold Bb at hx
  split at hx
  ·obtain⟨j,k1,k2⟩:=Sq hx
   rw [k2,Nat.zero_add,←Array.getElem?_toList];exact k1
  ·exact LW hx
 refine⟨hm,fun i hi=>?_,h2,fun A x B e=>?_,fun z hz=>List.all_eq_true.1 h4 z hz⟩
 ·obtain⟨x,k1,k2⟩:=List.any_eq_true.1 (List.all_eq_true.1 h3 i (List.mem_range.2 hi))
  exact List.mem_map.2 ⟨x,k1,by simpa using k2⟩
 ·obtain⟨k1,k2,k3⟩:=Wj h1 hm (fun i j hj=>by simp [Sm,look]at hj) A x B e
  exact⟨fun e he=>(k1 e he).elim id (fun h=>by cases h),k2,fun y hy=>k3 y (.inl hy)⟩
theorem ahZ {ops:Array Oper}{ap:Bool}{l m:List (Nat×Oper)}(h:l.Sublist m):FT ops ap m=true→FT ops ap l=true:=by
 induction h with
 | slnil=>exact id
 | cons x _ ih=>intro k;unfold FT at k;rw [Bool.and_eq_true]at k;exact ih k.2
 | cons_cons x s ih=>
  intro k
  unfold FT at k⊢
  simp only [Bool.and_eq_true]at k⊢
  obtain⟨⟨⟨⟨⟨k1,k2⟩,k3⟩,k4⟩,k5⟩,k6⟩:=k
  exact⟨⟨⟨⟨⟨k1,k2⟩,k3⟩,k4⟩,List.all_eq_true.2 fun y hy=>List.all_eq_true.1 k5 y (s.subset hy)⟩,ih k6⟩
section
variable {P:Program} {G:List (FuncId×Bool×aN)} {ops:Array Oper} {bars:List (Nat×List Nat)} {c:Ctx}
def both (x:Pd):Nat×Oper:=(x.i,x.o)
theorem aeV (s:S)(d:Option Nat):s.put d (.fU [])=s.app d ⟨.fU [],[],[]⟩:=by cases d<;>rfl
theorem Ct.none (v:V)(s:S):Ct ⟨v,[],[]⟩ s:=⟨List.nodup_nil,(fun p h=>by cases h),List.nodup_nil,(fun p h=>by cases h)⟩
theorem collect:∀{l:List (Nat×Oper)} {s q:S},nZ P G ops bars l (.on s)=some (.on q)→
  ∃(pend:List Pd) (t:S) (l2:List (Nat×Oper)),l=pend.map both++l2∧Seg P G ops s pend t∧nZ P G ops bars l2 (.on t)=some (.on q)∧(∀x r,l2=x::r→look x.1 bars≠none)∧∀x∈pend,look x.i bars=none
 | [],s,q,h=>⟨[],s,[],rfl, .nil s,h,(fun x r e=>by cases e),fun x hx=>by cases hx⟩
 | o::l,s,q,h=>by
  cases hb:look o.1 bars with
  | some fl=>exact⟨[],s,o::l,rfl, .nil s,h,(fun x r e=>by injection e with e _;subst e;rw [hb];simp),fun x hx=>by cases hx⟩
  | none=>
   rw [LM]at h
   obtain⟨g,h1,h⟩:=aj h
   have key:∀(e:Eff),Sl P G ops s ⟨o.1,o.2,g,e⟩→nZ P G ops bars l (.on (s.app o.2.dst e))=some (.on q)→∃(pend:List Pd) (t:S) (l2:List (Nat×Oper)),o::l=pend.map both++l2∧Seg P G ops s pend t∧nZ P G ops bars l2 (.on t)=some (.on q)∧(∀x r,l2=x::r→look x.1 bars≠none)∧∀x∈pend,look x.i bars=none:=fun e he h=>by
    obtain⟨pend,t,l2,k1,k2,k3,k4,k5⟩:=collect h
    refine⟨⟨o.1,o.2,g,e⟩::pend,t,l2,by rw [k1];rfl, .cons he k2,k3,k4,fun x hx=>?_⟩
    rcases List.mem_cons.1 hx with hx|hx
    ·subst hx;exact hb
    ·exact k5 x hx
   cases g with
   | true=>
    rw [if_pos rfl]at h
    obtain⟨q1,h2,h⟩:=aj h
    rw [hb,afp]at h2
    unfold jW at h2
    cases hd:o.2.dst with
    | none=>rw [hd]at h2;cases h2
    | some d=>
     rw [hd,bq]at h2
     cases he:qj P G s d o.2.op with
     | none=>rw [he]at h2;cases h2
     | some e=>
      rw [he,bq]at h2
      by_cases hf:(jv s e.tree&&kF s e.box)=true
      ·rw [eB _ hf,nY]at h2;injection h2 with h2;subst h2
       exact key e ⟨h1,fun _=>⟨d,hd,he⟩,(fun h=>by cases h),Wd.1 hf⟩ (by rw [hd];exact h)
      ·unfold grd at h2;rw [if_neg hf]at h2;cases h2
   | false=>
    rw [if_neg (by simp)]at h
    obtain⟨q1,h2,h⟩:=aj h
    rw [nY]at h2;injection h2 with h2;subst h2
    exact key ⟨.fU [],[],[]⟩ ⟨h1,(fun h=>by cases h),fun _=>rfl, .none _ _⟩ (by rw [←aeV];exact h)
theorem ajP (hC:FM P G){s:S}{x:Pd}(h:Sl P G ops s x)(hi:ops[x.i]?=some x.o)(hd:fP c.n x.o.dst=true){a:Act}{w:World}(g:Good c s a w){Q1:Exit→Act→World→Prop}{K:Act→World→Prop}(k:∀a w,Good c (s.app x.o.dst x.e) a w→K a w):wpOp P ops Q1 x.i K a w:=by
 unfold wpOp
 rw [hi]
 simp only
 obtain⟨y,A⟩:=g
 rw [zW A h.wants]
 cases hg:x.g with
 | true=>
  rw [if_pos rfl]
  obtain⟨d,h1,h2⟩:=h.yes hg
  have hf:=Wd.2 h.new
  rw [Bool.and_eq_true]at hf
  rcases ahW h2 hf.1 hf.2 with h3|⟨cl,p,z,t,tx,el,new,r1,r2,r3,r4,r5,r6,r7,r8,r9,r10,MC,ME⟩
  ·exact .inl (Nb hC hd (s':=s.app x.o.dst x.e) (by rw [h1];exact h3) a w ⟨y,A⟩ _ _ k)
  ·exact .inl (XF (s':=s.app x.o.dst x.e) r1 r2 hd r3 r4 r5 r6 r7 r8 r9 r10 MC (by rw [h1];exact ME) a w ⟨y,A⟩ _ _ k)
 | false=>
  rw [if_neg (by simp)]
  refine k _ _ ?_
  rw [h.no hg,←aeV]
  exact⟨y,A.value (v:= .fU []) ⟨[],rfl,rfl⟩ hd⟩
theorem XI {l:List Oper}{L:Nat→Prop}(hL:∀i o,L i→l[i]?=some o→∀e∈qy o,L e){i j:Nat}(h:Reach l i j):(∀o,l[i]?=some o→∀e∈qy o,L e)→L j:=by
 induction h with
 | one h1 h2=>intro h;exact h _ h1 _ h2
 | tail h1 h2 _ ih=>intro h;exact ih fun o ho=>hL _ o (h _ h1 _ h2) ho
end
section
variable {P:Program} {G:List (FuncId×Bool×aN)} {s s':S} {e:List (Nat×V)}
theorem aeW (s:S)(e:List (Nat×V)):Nc (fun _=>True) (fun _=>True) s {s with env:=e}:=⟨fun _ _ h _=>h,fun _ _ h _=>h,fun _ _ h _=>h,rfl⟩
theorem vw:∀{cs:List V} {c:iN} {r:List V×iN},cZ s c cs=some r→cZ {s with env:=e} c cs=some r
 | [],c,r,h=>h
 | v::cs,c,r,h=>by
  have key:bnd (jV s c v) (fun x=>bnd (cZ s x.2 cs) fun y=>some (x.1::y.1,y.2))=some r→bnd (jV {s with env:=e} c v) (fun x=>bnd (cZ {s with env:=e} x.2 cs) fun y=>some (x.1::y.1,y.2))=some r:=fun h=>
   bD (fun _ h=>V8 (aeW s e) (Cq v) h) (fun _ _ h=>bD (fun _ h=>vw h) (fun _ _ h=>h) h) h
  cases v<;>try exact key h
  case own p=>
   simp only [cZ]at h⊢
   unfold Dc at h⊢
   split at h
   ·cases h
   ·exact bD (fun _ h=>vw h) (fun _ _ h=>h) h
   ·exact bD (fun _ h=>vw h) (fun _ _ h=>h) h
  case dead=>exact bD (fun _ h=>vw h) (fun _ _ h=>h) h
theorem La:∀{bs:List Nat} {c:iN} {r:List (List V)×iN},mP s c bs=some r→mP {s with env:=e} c bs=some r
 | [],c,r,h=>h
 | b::bs,c,r,h=>bD (fun _ h=>h) (fun _ _ h=>bD (fun _ h=>vw h) (fun _ _ h=>bD (fun _ h=>La h) (fun _ _ h=>h) h) h) h
theorem Ed {c:iN}{t:Nat}:∀{bs:List Nat} {css:List (List V)} {s s':S},iX c t bs css s=some s'→s'.env=s.env∧s'.dK=s.dK∧∀e,iX c t bs css {s with env:=e}=some {s' with env:=e}
 | [],[],s,s',h=>by simp only [iX]at h;injection h with h;subst h;exact⟨rfl,rfl,fun _=>rfl⟩
 | [],_::_,s,s',h=>by simp only [iX]at h;cases h
 | _::_,[],s,s',h=>by simp only [iX]at h;cases h
 | b::bs,cs::css,s,s',h=>by
  simp only [iX]at h
  obtain⟨l,h1,h⟩:=aj h
  obtain⟨k1,k2,k3⟩:=Ed h
  refine⟨k1,k2,fun e=>?_⟩
  simp only [iX,h1,bq]
  exact k3 e
theorem Bg {c:iN}{t:Nat}:∀{rt:List (Nat×List (List D))} {s s':S},jQ c t rt s=some s'→s'.env=s.env∧s'.dK=s.dK∧∀e,jQ c t rt {s with env:=e}=some {s' with env:=e}
 | [],s,s',h=>by simp only [jQ]at h;injection h with h;subst h;exact⟨rfl,rfl,fun _=>rfl⟩
 | (q,rows)::r,s,s',h=>by
  simp only [jQ]at h
  split at h
  ·rename_i hq
   obtain⟨k1,k2,k3⟩:=Bg h
   refine⟨k1,k2,fun e=>?_⟩
   simp only [jQ]
   rw [if_pos hq];exact k3 e
  ·rename_i hq
   obtain⟨h1,h⟩:=aB h
   obtain⟨k1,k2,k3⟩:=Bg h
   refine⟨k1,k2,fun e=>?_⟩
   simp only [jQ]
   have h1':fresh {s with env:=e} (gX c t q)=true∧gX c t q<1000000000:=h1
   rw [if_neg hq,eB _ h1'];exact k3 e
theorem afN {M:aN}{t:Nat}{args:List V}{x:Bar}(h:P7 M s t args=some x):P7 M {s with env:=e} t args=some x:=by
 unfold P7 at h⊢
 refine bD (fun _ h=>EG (aeW s e) (ED args) h) (fun _ _ h=>bD (fun _ h=>La h) (fun _ _ h=>xG (fun h=>bD (fun _ h=>h) (fun r _ h=>?_) h) h) h) h
 obtain⟨s1,h1,h⟩:=aj h
 obtain⟨s2,h2,h⟩:=aj h
 rw [(Ed h1).2.2 e,bq,(Bg h2).2.2 e,bq]
 exact h
theorem ah0 {M:aN}{d:Option Nat}{args:List V}{x:Bar}(h:P7 M s (d.getD 0) args=some x):wG false M s d args=some (s.iG d x):=by
 unfold P7 at h
 obtain⟨y,h1,h⟩:=aj h
 obtain⟨z,h2,h⟩:=aj h
 obtain⟨h3,h⟩:=aB h
 obtain⟨r,h4,h⟩:=aj h
 obtain⟨s1,h5,h⟩:=aj h
 obtain⟨s2,h6,h⟩:=aj h
 obtain⟨v,h7,h⟩:=aj h
 injection h with h;subst h
 rw [Bool.and_eq_true]at h3
 obtain⟨zl,src,box,tree⟩:=z
 have ht:tree= []:=by simpa using h3.1
 subst ht
 obtain⟨a1,a2,_⟩:=Ed h5
 obtain⟨b1,b2,_⟩:=Bg h6
 unfold wG PZ
 rw [if_neg (by simp),h1,bq,h2,bq]
 simp only [qA,bq]
 rw [eB _ h3.2,h4,bq]
 refine Zf ?_
 unfold S.back
 simp only [gV]
 rw [h5,bq,h6,bq,h7,bq]
 obtain⟨e2,bx2,t2,f2⟩:=s2
 have e1:e2=s.env:=b1.trans a1
 have f1:f2=s.dK:=b2.trans a2
 subst e1 f1
 cases d<;>rfl
theorem Sr:∀(l m:List Nat) (e:List (Nat×V)),qB (l++m) e=qB m (qB l e)
 | [],_,_=>rfl
 | p::l,m,e=>Sr l m (AX p e)
theorem II:∀{vs:List V} {s:S} {ds:List D} {s1:S},iT s vs=some (ds,s1)→s1.env=qB (owns vs) s.env∧s1.dK=s.dK∧∀e,iT {s with env:=e} vs=some (ds,{s1 with env:=qB (owns vs) e})
 | [],s,ds,s1,h=>by
  simp only [iT]at h;injection h with h;injection h with h1 h2;subst h1;subst h2
  exact⟨rfl,rfl,fun _=>rfl⟩
 | v::r,s,ds,s1,h=>by
  have triv:owns (v::r)=owns r→(∀s:S,iT s (v::r)=bnd (AV v) fun d=>bnd (iT s r) fun x=>some (d::x.1,x.2))→s1.env=qB (owns (v::r)) s.env∧s1.dK=s.dK∧∀e,iT {s with env:=e} (v::r)=some (ds,{s1 with env:=qB (owns (v::r)) e}):=by
   intro ho hp
   rw [hp]at h
   obtain⟨d,h1,h⟩:=aj h
   obtain⟨x,h2,h⟩:=aj h
   injection h with h;injection h with h3 h4;subst h3;subst h4
   obtain⟨k1,k2,k3⟩:=II (s1:=x.2) (ds:=x.1) h2
   rw [ho]
   exact⟨k1,k2,fun e=>by rw [hp,h1,bq,k3 e];rfl⟩
  cases v with
  | own p=>
   simp only [iT]at h
   obtain⟨rows,h1,h⟩:=aj h
   obtain⟨x,h2,h⟩:=aj h
   injection h with h;injection h with h3 h4;subst h3;subst h4
   obtain⟨k1,k2,k3⟩:=II (s1:=x.2) (ds:=x.1) h2
   refine⟨k1,k2,fun e=>?_⟩
   simp only [iT,h1,bq]
   have:=k3 (AX p e)
   rw [show (S.kill {s with env:=e} p)= {s.kill p with env:=AX p e}from rfl,this]
   rfl
  | _=>exact triv rfl fun _=>rfl
theorem FU:∀{vs:List V} {s:S} {rows:List (List D)} {s1:S},kC s vs=some (rows,s1)→s1.env=qB (MO vs) s.env∧s1.dK=s.dK∧∀e,kC {s with env:=e} vs=some (rows,{s1 with env:=qB (MO vs) e})
 | [],s,ds,s1,h=>by
  simp only [kC]at h;injection h with h;injection h with h1 h2;subst h1;subst h2
  exact⟨rfl,rfl,fun _=>rfl⟩
 | v::r,s,ds,s1,h=>by
  simp only [kC]at h
  obtain⟨x,h1,h⟩:=aj h
  obtain⟨z,h2,h⟩:=aj h
  injection h with h;injection h with h3 h4;subst h3;subst h4
  obtain⟨k1,k2,k3⟩:=II (s1:=x.2) (ds:=x.1) h1
  obtain⟨m1,m2,m3⟩:=FU (s1:=z.2) (rows:=z.1) h2
  simp only [MO,Sr]
  refine⟨by rw [m1,k1],m2.trans k2,fun e=>?_⟩
  simp only [kC,k3 e,bq,m3]
def LX:List Nat→V→V
 | [],v=>v
 | p::r,v=>LX r (if aP p v=true then .dead else v)
theorem Qn:∀(l:List Nat) (t:Nat) (e:List (Nat×V)),look t (qB l e)=(look t e).map (LX l)
 | [],t,e=>by
  show look t e=(look t e).map fun v=>v
  cases look t e<;>rfl
 | p::l,t,e=>by
  show look t (qB l (AX p e))=_
  rw [Qn l t,FK,Option.map_map];rfl
def ah1:List Nat→V→V
 | [],v=>v
 | p::r,v=>ah1 r (if kD p v=true then .dead else v)
theorem Sv:∀(l:List Nat) (t:Nat) (e:List (Nat×V)),look t (Ho l e)=(look t e).map (ah1 l)
 | [],t,e=>by
  show look t e=(look t e).map fun v=>v
  cases look t e<;>rfl
 | p::l,t,e=>by
  show look t (Ho l (QV p e))=_
  rw [Sv l t,OT,Option.map_map];rfl
def aeX (x:Bar)(v:V):V:=ah1 x.inn (LX x.kills v)
theorem acB {s:S}{p t:Nat}(h:fresh s t=true):fresh (s.kill p) t=true:=by
 unfold fresh at h⊢
 simp only [S.kill,rz,Bool.and_eq_true,Option.isNone_iff_eq_none]at h⊢
 exact⟨by split<;>first|rfl|exact h.1,h.2⟩
theorem aeY {d:Option Nat}{b:Builtin}{ats:Array TypeId}{args:List V}{x:Bar}(h:RI P s d b ats args=some x):kE P s d b ats args=some (s.iG d x):=by
 unfold RI at h
 split at h
 ·rename_i x0 y0
  obtain⟨t,h2,h⟩:=aj h
  obtain⟨t1,h3,h⟩:=aj h
  obtain⟨h4,h⟩:=aB h
  obtain⟨ds,h5,h⟩:=aj h
  obtain⟨e,h6,h⟩:=aj h
  obtain⟨new,h7,h⟩:=aj h
  simp only [kE,h2,h3,bq,eB _ h4,J7,h5,h6,FQ h7]
  by_cases hx:∃p i j k,x0= .inn p i j k
  ·obtain⟨p,i,j,k,rfl⟩:=hx
   simp only [yR]at h
   obtain⟨rows,k0,h⟩:=aj h
   obtain⟨k1,h⟩:=aB h
   obtain⟨rs,k4,h⟩:=aj h
   obtain⟨r,k5,h⟩:=aj h
   obtain⟨k6,h⟩:=aB h
   obtain⟨t0,k2,h⟩:=aj h
   obtain⟨k3,h⟩:=aB h
   injection h with h;subst h;subst k2
   have k7:∀rr,fresh (s.turned p rr) t0=true:=fun rr=>by
    unfold fresh at k3⊢
    simp only [S.turned,Bool.and_eq_true,Option.isNone_iff_eq_none]at k3⊢
    refine⟨?_,k3.2⟩
    cases e:look t0 (upd p rr s.tree)with
    | none=>rfl
    | some z=>
     have h1:t0∈(upd p rr s.tree).map (·.1):=List.mem_map.2 ⟨_,fI e,rfl⟩
     rw [oL]at h1
     exact absurd h1 (jX k3.1)
   simp only [rW,k0,bq,eB _ k1,S.Db,k4,k5,eB _ k6,S.newTree,eB _ (k7 _)]
   rfl
  cases x0<;>(try exact absurd ⟨_,_,_,_,rfl⟩ hx)<;>simp only [yR]at h<;>try (cases h;done)
  case nil=>
   obtain⟨k1,h⟩:=aB h
   obtain⟨t0,k2,h⟩:=aj h
   obtain⟨k3,h⟩:=aB h
   injection h with h;subst h;subst k2
   simp only [rW,eB _ k1,S.newTree,bq,eB _ k3]
   rfl
  case own p=>
   obtain⟨rows,k0,h⟩:=aj h
   obtain⟨k1,h⟩:=aB h
   obtain⟨t0,k2,h⟩:=aj h
   obtain⟨k3,h⟩:=aB h
   injection h with h;subst h;subst k2
   simp only [rW,k0,bq,eB _ k1,S.newTree,eB _ (acB k3)]
   rfl
 ·cases h
theorem ah2 {d:Option Nat}{b:Builtin}{ats:Array TypeId}{args:List V}{e:List (Nat×V)}{x:Bar}(h:RI P s d b ats args=some x):RI P {s with env:=e} d b ats args=some x:=by
 unfold RI at h⊢
 split at h
 ·rename_i x0 y0
  cases x0<;>cases y0<;>exact h
 ·cases h
theorem Wm {d:Option Nat}{op:Op}{x:Bar}(h:sJ P G s d op=some x):iR P G s d op=some (s.iG d x):=by
 cases op<;>simp only [sJ]at h<;>try (cases h;done)
 case store t p v=>
  obtain⟨vp,h1,h⟩:=aj h
  obtain⟨vv,h2,h⟩:=aj h
  obtain⟨⟨h3,h4,h5⟩,h8⟩:=aB h
  have hd:d=none:=by simpa using h5
  subst hd
  clear h h5
  by_cases hx:∃q k i off,vp= .pe (.own q) k i off
  ·obtain⟨q,k,i,off,rfl⟩:=hx
   simp only [Ev]at h8
   cases ha:vv.atom with
   | none=>rw [ha]at h8;simp only [BI]at h8;cases h8
   | some dd=>
    rw [ha]at h8
    simp only [BI]at h8
    obtain⟨rows,k1,h8⟩:=aj h8
    obtain⟨r,k2,h8⟩:=aj h8
    obtain⟨d0,k3,h8⟩:=aj h8
    obtain⟨k4,h8⟩:=aB h8
    injection h8 with h8;subst h8
    simp only [iR,h1,h2,bq,S.store,eB _ (And.intro h3 h4),ha,Cj,k1,k2,k3,eB _ k4]
    rfl
  have h8':∃b off cs,vp= .ref b off∧look b s.box=some cs∧(off+vv.cells.length≤cs.length∧vv.cells.all V.one=true)∧x=⟨.fU [],upd b (setAt cs off vv.cells) s.box,s.tree,[],[]⟩:=by
   unfold Ev at h8
   split at h8
   ·exact absurd ⟨_,_,_,_,rfl⟩ hx
   ·obtain⟨cs,h6,h8⟩:=aj h8
    obtain⟨h7,h8⟩:=aB h8
    injection h8 with h8
    exact⟨_,_,cs,rfl,h6,h7,h8.symm⟩
   ·cases h8
  obtain⟨b0,aC4,cs,rfl,h6,h7,rfl⟩:=h8'
  simp only [iR,h1,h2,bq,S.store,eB _ (And.intro h3 h4),h6,eB _ h7]
  rfl
 case call c=>
  obtain⟨args,h1,h⟩:=aj h
  simp only [iR,h1,bq]
  unfold LG
  unfold yS at h
  split at h
  ·rename_i b hcl
   first|exact aeY h|(rw [hcl];exact aeY h)|(trace_state;fail)
  ·rename_i f hcl
   obtain⟨fv,h2,h⟩:=aj h
   obtain⟨g,h3,h⟩:=aj h
   obtain⟨M,h4,h⟩:=aj h
   obtain⟨h5,h⟩:=aB h
   simp only [hcl,h2,h3,h4,bq,h5,Ql]
   exact ah0 h
  ·cases h
 case buildSlice t n ps=>
  obtain⟨dd,h1,h⟩:=aj h
  obtain⟨e,h2,h⟩:=aj h
  obtain⟨vs,h3,h⟩:=aj h
  obtain⟨h4,h⟩:=aB h
  obtain⟨z,h5,h⟩:=aj h
  unfold Rm at h
  obtain⟨t0,h6,h⟩:=aj h
  obtain⟨h7,h⟩:=aB h
  injection h with h;subst h;subst h6
  obtain⟨k1,k2,_⟩:=FU (s1:=z.2) (rows:=z.1) h5
  simp only [iR,h1,h2,h3,bq]
  rw [eB _ h4,h5,bq]
  unfold S.newTree
  rw [bq,eB _ h7]
  simp only [S.iG,S.put,Ho,k1,k2]
theorem acC {d:Option Nat}{op:Op}{x:Bar}(E:∀z∈op.operands.toList,∀v,s.ev z=some v→S.ev {s with env:=e} z=some v)(h:sJ P G s d op=some x):sJ P G {s with env:=e} d op=some x:=by
 have E':∀z∈op.operands.toList,FN (fun _=>True) (fun _=>True) s {s with env:=e} z:=fun z hz v hv=>⟨E z hz v hv,Cq v⟩
 cases op<;>simp only [sJ]at h⊢<;>try (cases h;done)
 case store t p v=>
  refine bD (fun v h=>E _ (by simp [Op.operands]) v h) (fun vp _ h=>bD (fun v h=>E _ (by simp [Op.operands]) v h) (fun vv _ h=>xG (fun h=>?_) h) h) h
  cases vp<;>first|exact h|(rename_i b0 _ _ _;cases b0<;>exact h)
 case call c=>
  obtain⟨args,h1,h⟩:=aj h
  have hmem:∀x∈c.args.toList,FN (fun _=>True) (fun _=>True) s {s with env:=e} x:=fun x hx=>E' x (by simp only [Op.operands,Call.operands,Array.toList_append];exact List.mem_append_right _ hx)
  obtain⟨k1,k2⟩:=EF hmem h1
  rw [k1,bq]
  unfold yS at h⊢
  split at h
  ·rename_i b hcl
   exact ah2 h
  ·rename_i f hcl
   exact bD (fun v h=>E f (by simp only [Op.operands,Call.operands,hcl];simp) v h) (fun _ _ h=>bD (fun _ h=>h) (fun _ _ h=>bD (fun _ h=>h) (fun _ _ h=>xG (fun h=>afN h) h) h) h) h
  ·cases h
 case buildSlice t n ps=>
  refine bD (fun _ h=>h) (fun _ _ h=>bD (fun _ h=>h) (fun _ _ h=>bD (fun _ h=>FP (fun x hx=>E' x.2 (by simp only [Op.operands];exact List.mem_map.2 ⟨x,hx,rfl⟩)) h) (fun vs _ h=>xG (fun h=>?_) h) h) h) h
  obtain⟨z,h5,h⟩:=aj h
  obtain⟨_,_,k3⟩:=FU (s1:=z.2) (rows:=z.1) h5
  rw [k3 e,bq]
  exact h
theorem tH {d:Option Nat}{x:Bar}(r:Nat):look r (s.iG d x).env=if some r=d then some x.val else(look r s.env).map (aeX x):=by
 have e:(look r s.env).map (aeX x)=look r (Ho x.inn (qB x.kills s.env)):=by
  rw [Sv,Qn,Option.map_map];rfl
 rw [e];exact Wi (s:= {s with env:=Ho x.inn (qB x.kills s.env)}) r
end
section
variable {P:Program} {G:List (FuncId×Bool×aN)} {ops:Array Oper}
theorem Seg.nd {l:List Pd}:∀{s t:S},Seg P G ops s l t→Nd s→Nd t:=by
 induction l with
 | nil=>intro s t h n;cases h;exact n
 | cons x l ih=>intro s t h n;cases h with|cons h1 h2=>exact ih h2 (h1.new.nd n _)
theorem Seg.append {l m:List Pd}{u:S}:∀{s t:S},Seg P G ops s l t→Seg P G ops t m u→Seg P G ops s (l++m) u:=by
 induction l with
 | nil=>intro s t h k;cases h;exact k
 | cons x l ih=>intro s t h k;cases h with|cons h1 h2=>exact .cons h1 (ih h2 k)
theorem aeZ {s:S}{b:Builtin}{ats:Array TypeId}{args:List V}(h:b= .max∨b= .min):C9 P s b ats args=ML b args:=by
 rcases h with rfl|rfl<;>(unfold C9 ML;split<;>first|rfl|simp_all)
theorem Wn {s:S}{d:Nat}{op:Op}(h:isVal op=true):qj P G s d op=bnd (jl P s op) fun v=>some ⟨v,[],[]⟩:=by
 cases op
 case call c=>
  simp only [isVal]at h
  have hb:c.callee= .builtin .max∨c.callee= .builtin .min:=by
   unfold amr at h;split at h
   ·exact .inl ‹_›
   ·exact .inr ‹_›
   ·cases h
  have e1:qj P G s d (.call c)=bnd (bK s.ev c.args.toList) fun args=>yQ P G s d c.argTypes args c.callee:=rfl
  have e2:jl P s (.call c)=bnd (bK s.ev c.args.toList) fun args=>MN args c.callee:=rfl
  rw [e1,e2,iY]
  congr 1;funext args
  rcases hb with hb|hb<;>rw [hb]
  ·show bnd (C9 P s .max c.argTypes args) _=bnd (ML .max args) _
   rw [aeZ (.inl rfl)]
  ·show bnd (C9 P s .min c.argTypes args) _=bnd (ML .min args) _
   rw [aeZ (.inr rfl)]
 all_goals first|rfl|cases h
theorem Kj {ap:Bool}{x:Nat×Oper}{r:List (Nat×Oper)}(h:FT ops ap (x::r)=true):(ap=true∨isVal x.2.op=true)∧x.2.guard=none∧(∃d,x.2.dst=some d)∧(∀d,x.2.dst=some d→d∉x.2.looksAt ops)∧(∀y∈r,(∀d,y.2.dst=some d→d∉x.2.looksAt ops)∧x.2.dst≠y.2.dst)∧FT ops ap r=true:=by
 unfold FT at h
 simp only [Bool.and_eq_true]at h
 obtain⟨⟨⟨⟨⟨k1,k2⟩,k3⟩,k4⟩,k5⟩,k6⟩:=h
 have aw:∀{a b:Oper},away ops a b=true→∀d,b.dst=some d→d∉a.looksAt ops:=fun h d hd=>by
  unfold away at h;rw [hd]at h;simpa using h
 refine⟨by simpa using k1,by simpa using k2,Option.isSome_iff_exists.1 k3,aw k4,fun y hy=>?_,k6⟩
 have:=List.all_eq_true.1 k5 y hy
 rw [Bool.and_eq_true]at this
 exact⟨aw this.1,by simpa using this.2⟩
theorem Sl.val {s:S}{x:Pd}(h:Sl P G ops s x)(hv:isVal x.o.op=true)(hg:x.o.guard=none):x.g=true∧(∃v,x.e=⟨v,[],[]⟩):=by
 have h1:=h.wants
 rw [hg]at h1
 simp only [S.wants]at h1
 injection h1 with h1
 refine⟨h1.symm,?_⟩
 obtain⟨d,_,h2⟩:=h.yes h1.symm
 rw [Wn hv]at h2
 obtain⟨v,_,h2⟩:=aj h2
 injection h2 with h2
 exact⟨v,h2.symm⟩
theorem Seg.vals {l:List Pd}:∀{s t:S},Seg P G ops s l t→FT ops false (l.map both)=true→t.box=s.box∧t.tree=s.tree∧t.dK=s.dK∧∀r,(∀y∈l,y.o.dst≠some r)→look r t.env=look r s.env:=by
 induction l with
 | nil=>intro s t h _;cases h;exact⟨rfl,rfl,rfl,fun _ _=>rfl⟩
 | cons x l ih=>
  intro s t h hf
  cases h with
  | cons h1 h2=>
   obtain⟨f1,f2,_,_,_,f6⟩:=Kj (x:=both x) (r:=l.map both) hf
   have f1:isVal (both x).2.op=true:=f1.elim (fun h=>by cases h) _root_.id
   obtain⟨_,v,hv⟩:=h1.val f1 f2
   obtain⟨k1,k2,k3,k4⟩:=ih h2 f6
   refine⟨by rw [k1];simp [S.app,hv],by rw [k2];simp [S.app,hv],by rw [k3];rfl,fun r hr=>?_⟩
   rw [k4 r fun y hy=>hr y (by simp [hy]),mU,if_neg fun e=>hr x (by simp) e.symm]
theorem Seg.bar {dst:Option Nat}{x0:Bar}{T1:S}{l:List Pd}:∀{s t:S},Seg P G ops s l t→FT ops false (l.map both)=true→
  (∀y∈l,∀d,dst=some d→d∉y.o.looksAt ops∧y.o.dst≠some d)→T1.box=x0.box→T1.tree=x0.tree→T1.dK=s.dK→(∀r,look r T1.env=look r (t.iG dst x0).env)→
  (∀y∈l,∃d v,y.o.dst=some d∧look d T1.env=some v∧jl P T1 y.o.op=some v∧look d t.env=some v)→Nd (s.iG dst x0)→∃t2,Seg P G ops (s.iG dst x0) l t2∧HZ t2 T1:=by
 induction l with
 | nil=>
  intro s t h _ _ k1 k2 k3 k4 _ _
  cases h
  exact⟨_, .nil _,⟨k4,by rw [k1];exact .refl _,by rw [k2];exact .refl _,k3⟩⟩
 | cons x l ih=>
  intro s t h hf ha k1 k2 k3 k4 hv n
  cases h with
  | cons h1 h2=>
   obtain⟨f1,f2,⟨d,f3⟩,f4,f5,f6⟩:=Kj (x:=both x) (r:=l.map both) hf
   have f1:isVal (both x).2.op=true:=f1.elim (fun h=>by cases h) _root_.id
   have f3:x.o.dst=some d:=f3
   obtain⟨g1,v,g2⟩:=h1.val f1 f2
   obtain⟨b1,b2,b3,b4⟩:=h2.vals f6
   have nx:Nd ((s.app x.o.dst x.e).iG dst x0):=n
   obtain⟨t2,c1,c2⟩:=ih h2 f6 (fun y hy=>ha y (by simp [hy])) k1 k2 k3 k4 (fun y hy=>hv y (by simp [hy])) nx
   have hx:=ha x (by simp)
   obtain⟨d',v',w1,w2,w3,w4⟩:=hv x (by simp)
   rw [f3]at w1;injection w1 with w1;subst w1
   have hvv:v'=v:=by
    rw [b4 d (fun y hy e=>(f5 (both y) (List.mem_map.2 ⟨y,hy,rfl⟩)).2 (f3.trans e.symm)),mU,if_pos f3.symm,g2]at w4
    injection w4 with w4;exact w4.symm
   have hkv:aeX x0 v=v:=by
    rw [k4,tH,if_neg (fun e=>(hx d e.symm).2 f3),b4 d (fun y hy e=>(f5 (both y) (List.mem_map.2 ⟨y,hy,rfl⟩)).2 (f3.trans e.symm)),mU,if_pos f3.symm,g2,Option.map_some]at w2
    injection w2 with w2;rw [w2,hvv]
   have E:HZ ((s.app x.o.dst x.e).iG dst x0) ((s.iG dst x0).app x.o.dst x.e):=by
    refine⟨fun r=>?_,?_,?_,rfl⟩
    ·rw [mU,tH,tH,mU]
     by_cases e1:some r=x.o.dst
     ·rw [if_pos e1]
      by_cases e2:some r=dst
      ·exact absurd e1.symm (hx r e2.symm).2
      ·rw [if_neg e2,if_pos e1,Option.map_some,g2]
       exact congrArg some hkv.symm
     ·rw [if_neg e1,if_neg e1]
    ·rw [g2];exact .refl _
    ·rw [g2];exact .refl _
   obtain⟨t3,c3,c4⟩:=c1.eqv E nx
   refine⟨t3, .cons ⟨by rw [show x.o.guard=none from f2,g1];rfl,fun _=>⟨d,f3,?_⟩,(fun h=>by rw [g1]at h;cases h),by rw [g2];exact .none _ _⟩ c3,c4.symm.trans c2⟩
   have hl:∀r∈x.o.looksAt ops,look r (s.iG dst x0).env=look r T1.env:=fun r hr=>by
    rw [k4,tH,tH]
    by_cases e2:some r=dst
    ·rw [if_pos e2,if_pos e2]
    ·rw [if_neg e2,if_neg e2,b4 r fun y hy e=>(f5 (both y) (List.mem_map.2 ⟨y,hy,rfl⟩)).1 r e hr,mU,if_neg fun e=>f4 r e.symm hr]
   have A:Nc (fun _=>True) (fun _=>True) T1 (s.iG dst x0):=⟨fun b cs h _=>by rw [k1]at h;exact h,fun p r h _=>by
    simp only [S.rows]at h⊢;rw [k2,k3]at h;exact h,fun p r h _=>by rw [k2]at h;exact h,k3.symm⟩
   have hval:jl P (s.iG dst x0) x.o.op=some v':=V7 A (fun z hz u hu=>by
    refine⟨?_,Cq u⟩
    cases z with
    | tmp t=>
     have ht:t∈x.o.looksAt ops:=List.mem_append_left _ (List.mem_filterMap.2 ⟨.tmp t,hz,rfl⟩)
     show look t (s.iG dst x0).env=some u
     rw [hl t ht];exact hu
    | const c=>exact hu
    | func f=>exact hu
    | global g=>cases hu) w3
   rw [Wn (op:=x.o.op) f1,hval,bq,g2,hvv]
mutual
theorem Sw {ks:List Nat}:∀{v:V},(∀p∈ks,aP p v=false)→Qk (fun _=>True) (· ∉ks) v
 | .own q,h=>fun hq=>by have:=h q hq;simp [aP]at this
 | .inn q _ _ _,h=>fun hq=>by have:=h q hq;simp [aP]at this
 | .ref _ _,_=>trivial
 | .pe base _ _ _,h=>Sw (v:=base) fun p hp=>by simpa [aP] using h p hp
 | .agg cs,h=>Kk (vs:=cs) fun p hp=>by simpa [aP] using h p hp
 | .fU cs,h=>Kk (vs:=cs) fun p hp=>by simpa [aP] using h p hp
 | .fn _ cs,h=>Kk (vs:=cs) fun p hp=>by simpa [aP] using h p hp
 | .v _,_=>trivial
 | .nil,_=>trivial
 | .aL _ _,_=>trivial
 | .fz _,_=>trivial
 | .mp _,_=>trivial
 | .dead,_=>trivial
theorem Kk {ks:List Nat}:∀{vs:List V},(∀p∈ks,aP.any p vs=false)→Ec (fun _=>True) (· ∉ks) vs
 | [],_=>trivial
 | v::r,h=>⟨Sw fun p hp=>by have:=h p hp;simp only [aP.any,Bool.or_eq_false_iff]at this;exact this.1,Kk fun p hp=>by have:=h p hp;simp only [aP.any,Bool.or_eq_false_iff]at this;exact this.2⟩
end
theorem OX {ks:List Nat}{v:V}:Ew ks v=true↔∀p∈ks,aP p v=false:=by
 unfold Ew
 simp [List.all_eq_true]
theorem Dh:∀{ks:List Nat} {v:V},Ew ks v=true→LX ks v=v
 | [],_,_=>rfl
 | p::r,v,h=>by
  have h1:=OX.1 h
  show LX r (if aP p v=true then .dead else v)=v
  rw [if_neg (by rw [h1 p (by simp)];simp)]
  exact Dh (OX.2 fun q hq=>h1 q (by simp [hq]))
def nG {α:Type}:List Nat→List (Nat×α)→List (Nat×α)
 | [],l=>l
 | p::r,l=>nG r (drop1 p l)
theorem IJ {α:Type}:∀{ks:List Nat} {l:List (Nat×α)} {p:Nat},p∉ks→look p (nG ks l)=look p l
 | [],_,_,_=>rfl
 | q::r,l,p,h=>by
  rw [List.mem_cons,not_or]at h
  show look p (nG r (drop1 q l))=_
  rw [IJ h.2,rz,if_neg h.1]
theorem Di {α:Type}{k:Nat}:∀{l:List (Nat×α)} {q:Nat},q∈(drop1 k l).map (·.1)→q∈l.map (·.1)
 | [],_,h=>h
 | (j,y)::l,q,h=>by
  simp only [drop1]at h
  split at h
  ·exact List.mem_cons_of_mem _ (Di h)
  ·rw [List.map_cons,List.mem_cons]at h⊢
   exact h.imp _root_.id Di
theorem Ee {α:Type}{k:Nat}:∀{l:List (Nat×α)},(l.map (·.1)).Nodup→((drop1 k l).map (·.1)).Nodup
 | [],h=>h
 | (j,y)::l,h=>by
  rw [List.map_cons]at h
  obtain⟨h1,h2⟩:=List.nodup_cons.1 h
  simp only [drop1]
  split
  ·exact Ee h2
  ·rw [List.map_cons]
   exact List.nodup_cons.2 ⟨fun hm=>h1 (Di hm),Ee h2⟩
theorem FV {α:Type}:∀{ks:List Nat} {l:List (Nat×α)} {p:Nat},p∈(nG ks l).map (·.1)→p∈l.map (·.1)
 | [],_,_,h=>h
 | q::r,l,p,h=>Di (FV (ks:=r) h)
theorem Wo {α:Type}{k:Nat}:∀{l:List (Nat×α)},k∉l.map (·.1)→drop1 k l=l
 | [],_=>rfl
 | y::l,h=>by
  obtain⟨j,y⟩:=y
  simp only [List.map_cons,List.mem_cons,not_or]at h
  unfold drop1;rw [if_neg h.1,Wo h.2]
theorem FW {α:Type}{k:Nat}:∀(l m:List (Nat×α)),drop1 k (l++m)=drop1 k l++drop1 k m
 | [],_=>rfl
 | y::l,m=>by
  obtain⟨j,y⟩:=y
  simp only [List.cons_append,drop1]
  split
  ·exact FW l m
  ·rw [FW l m];rfl
theorem Lc {α:Type}:∀(ks:List Nat) (l m:List (Nat×α)),nG ks (l++m)=nG ks l++nG ks m
 | [],_,_=>rfl
 | p::r,l,m=>by show nG r (drop1 p (l++m))=_;rw [FW,Lc r];rfl
theorem Sy {α:Type}:∀{ks:List Nat} {l:List (Nat×α)},(∀p∈ks,p∉l.map (·.1))→nG ks l=l
 | [],_,_=>rfl
 | p::r,l,h=>by
  show nG r (drop1 p l)=l
  rw [Wo (h p (by simp))]
  exact Sy fun q hq=>h q (by simp [hq])
theorem Ni {α:Type}:∀{ks:List Nat} {l:List (Nat×α)},(l.map (·.1)).Nodup→((nG ks l).map (·.1)).Nodup
 | [],_,h=>h
 | p::r,l,h=>Ni (ks:=r) (Ee h)
def S.grown (s:S)(t0:Nat)(R:List (List D))(ks:List Nat):S:=s.iG (some t0) ⟨.own t0,s.box,(t0,R)::nG ks s.tree,ks,[]⟩
theorem BM {s:S}{t0:Nat}{R:List (List D)}{ks:List Nat}(r:Nat):look r (s.grown t0 R ks).env=if r=t0 then some (.own t0)else(look r s.env).map (LX ks):=by
 unfold S.grown;rw [tH]
 have hb:aeX ⟨.own t0,s.box,(t0,R)::nG ks s.tree,ks,[]⟩=LX ks:=rfl
 rw [hb]
 by_cases h:r=t0
 ·rw [if_pos h,if_pos (by rw [h])]
 ·rw [if_neg h,if_neg (by intro e;injection e with e;exact h e)]
theorem ZJ {s:S}{t0:Nat}{R:List (List D)}{ks:List Nat}{p:Nat}(h:p∈iO (s.grown t0 R ks)):p=t0∨p∈iO s:=by
 unfold iO S.grown S.iG at h
 simp only [List.map_append,List.map_cons,List.mem_append,List.mem_cons,List.cons_append]at h
 unfold iO
 rw [List.map_append,List.mem_append]
 rcases h with h|h|h
 ·exact .inl h
 ·exact .inr (.inl (FV h))
 ·exact .inr (.inr h)
theorem ah3 {s:S}{t0:Nat}{R:List (List D)}{ks:List Nat}(n:Nd s)(h:t0∉iO s):Nd (s.grown t0 R ks):=by
 refine⟨n.1,?_⟩
 have h2:=n.2
 unfold iO at h h2⊢
 unfold S.grown S.iG
 rw [List.map_append,List.nodup_append]at h2
 rw [List.map_append,List.mem_append,not_or]at h
 simp only [List.cons_append,List.map_cons,List.map_append]
 refine List.nodup_cons.2 ⟨fun hm=>?_,List.nodup_append.2 ⟨Ni h2.1,h2.2.1,fun a ha b hb=>h2.2.2 a (FV ha) b hb⟩⟩
 rcases List.mem_append.1 hm with hm|hm
 ·exact h.1 (FV hm)
 ·exact h.2 hm
theorem Seg.env {l:List Pd}{r:Nat}:∀{s t:S},Seg P G ops s l t→(∀y∈l,y.o.dst≠some r)→look r t.env=look r s.env:=by
 induction l with
 | nil=>intro s t h _;cases h;rfl
 | cons x l ih=>
  intro s t h hr
  cases h with
  | cons h1 h2=>rw [ih h2 fun y hy=>hr y (by simp [hy]),mU,if_neg fun e=>hr x (by simp) e.symm]
theorem Seg.wide {l:List Pd}:∀{s t:S},Seg P G ops s l t→Cr s t:=by
 induction l with
 | nil=>intro s t h;cases h;exact .refl _
 | cons x l ih=>
  intro s t h
  cases h with
  | cons h1 h2=>exact(h1.new.wide _).trans (ih h2)
theorem Seg.past {t0:Nat}{R:List (List D)}{ks:List Nat}{l:List Pd}:∀{s t:S},Seg P G ops s l t→FT ops true (l.map both)=true→(∀y∈l,t0∉y.o.looksAt ops∧y.o.dst≠some t0)→
  (∀y∈l,(∃d v,y.o.dst=some d∧look d t.env=some v∧Ew ks v=true)∧∀r∈y.o.looksAt ops,∀v,look r t.env=some v→Ew ks v=true)→(∀p∈ks,p∈iO s)→t0∉iO t→Nd s→
  ∃t2,Seg P G ops (s.grown t0 R ks) l t2∧HZ (t.grown t0 R ks) t2:=by
 induction l with
 | nil=>intro s t h _ _ _ _ _ _;cases h;exact⟨_, .nil _, .refl _⟩
 | cons x l ih=>
  intro s t h hf ha hv hk h0 n
  have hW:=h.wide
  cases h with
  | cons h1 h2=>
   obtain⟨f1,f2,⟨d,f3⟩,f4,f5,f6⟩:=Kj (x:=both x) (r:=l.map both) hf
   have f3:x.o.dst=some d:=f3
   have n1:Nd (s.app x.o.dst x.e):=h1.new.nd n _
   have hW2:=h2.wide
   obtain⟨t2,c1,c2⟩:=ih h2 f6 (fun y hy=>ha y (by simp [hy])) (fun y hy=>hv y (by simp [hy])) (fun p hp=>EH.2 (.inr (hk p hp))) h0 n1
   obtain⟨⟨d',v,w1,w2,w3⟩,w4⟩:=hv x (by simp)
   rw [f3]at w1;injection w1 with w1;subst w1
   have hval:v=x.e.val:=by
    rw [h2.env (fun y hy e=>(f5 (both y) (List.mem_map.2 ⟨y,hy,rfl⟩)).2 (f3.trans e.symm)),mU,if_pos f3.symm]at w2
    injection w2 with w2;exact w2.symm
   have h0s:t0∉iO s:=fun h=>h0 (hW.iO h)
   have h0e:t0∉x.e.tree.map (·.1):=fun h=>h0 (hW2.iO (EH.2 (.inl h)))
   have hke:∀p∈ks,p∉x.e.tree.map (·.1):=fun p hp h=>(h1.new.t p h).1 (hk p hp)
   have E:HZ ((s.app x.o.dst x.e).grown t0 R ks) ((s.grown t0 R ks).app x.o.dst x.e):=by
    refine⟨fun r=>?_, .refl _,?_,rfl⟩
    ·rw [mU,BM,BM,mU]
     by_cases e1:some r=x.o.dst
     ·have:r≠t0:=fun e2=>(ha x (by simp)).2 (by rw [←e1,e2])
      rw [if_pos e1,if_neg this,if_pos e1,Option.map_some,←hval,Dh w3]
     ·rw [if_neg e1,if_neg e1]
    ·show(x.e.tree.reverse++((t0,R)::nG ks s.tree)).Perm ((t0,R)::nG ks (x.e.tree.reverse++s.tree))
     rw [Lc,Sy (l:=x.e.tree.reverse) (fun p hp h=>hke p hp (by simpa using h))]
     exact List.perm_middle
   obtain⟨t3,c3,c4⟩:=c1.eqv E (ah3 n1 fun h=>(EH.1 h).elim h0e h0s)
   refine⟨t3, .cons (h1.move (oB:=fun _=>True) (oT:=(· ∉ks)) ⟨fun b cs h _=>h,fun p rows h hp=>?_,fun p rows h hp=>?_,rfl⟩ (fun r hr=>?_) (fun r hr u hu=>?_) ⟨h1.new.nt,fun p hp=>⟨fun h=>?_,(h1.new.t p hp).2⟩,h1.new.nb,h1.new.b⟩) c3,c2.trans c4⟩
   ·have hp0:p≠t0:=fun e=>by
     subst e
     simp only [S.rows]at h
     have:∀z:Option (List (List D)),look p s.tree=none→look p s.dK=none→lY (look p s.tree) (look p s.dK)=some rows→False:=fun _ a b c=>by rw [a,b]at c;cases c
     refine this none ?_ ?_ h
     ·cases e:look p s.tree with
      | none=>rfl
      | some z=>exact absurd (by unfold iO;rw [List.map_append,List.mem_append];exact .inl (List.mem_map.2 ⟨_,fI e,rfl⟩)) h0s
     ·cases e:look p s.dK with
      | none=>rfl
      | some z=>exact absurd (by unfold iO;rw [List.map_append,List.mem_append];exact .inr (List.mem_map.2 ⟨_,fI e,rfl⟩)) h0s
    simp only [S.rows]at h⊢
    show lY (look p ((t0,R)::nG ks s.tree)) (look p s.dK)=some rows
    simp only [look,if_neg hp0]
    rw [IJ hp];exact h
   ·have hp0:p≠t0:=fun e=>h0s (by subst e;unfold iO;rw [List.map_append,List.mem_append];exact .inl (List.mem_map.2 ⟨_,fI h,rfl⟩))
    show look p ((t0,R)::nG ks s.tree)=some rows
    simp only [look,if_neg hp0]
    rw [IJ hp];exact h
   ·have hr0:r≠t0:=fun e=>(ha x (by simp)).1 (e▸hr)
    rw [BM,if_neg hr0]
    have hl:look r t.env=look r s.env:=by
     rw [h2.env (fun y hy e=>(f5 (both y) (List.mem_map.2 ⟨y,hy,rfl⟩)).1 r e hr),mU,if_neg fun e=>f4 r e.symm hr]
    cases e:look r s.env with
    | none=>rfl
    | some u=>rw [Option.map_some,Dh (w4 r hr u (hl.trans e))]
   ·have hr0:r≠t0:=fun e=>(ha x (by simp)).1 (e▸hr)
    rw [BM,if_neg hr0]at hu
    have hl:look r t.env=look r s.env:=by
     rw [h2.env (fun y hy e=>(f5 (both y) (List.mem_map.2 ⟨y,hy,rfl⟩)).1 r e hr),mU,if_neg fun e=>f4 r e.symm hr]
    cases e:look r s.env with
    | none=>rw [e]at hu;cases hu
    | some u'=>
     have hfr:=w4 r hr u' (hl.trans e)
     rw [e,Option.map_some,Dh hfr]at hu
     injection hu with hu;subst hu
     exact Sw (OX.1 hfr)
   ·rcases ZJ h with h|h
    ·subst h;exact h0e hp
    ·exact(h1.new.t p hp).1 h
theorem Sz {s:S}{ks:List Nat}:∀{fl:List Nat} {i:Nat},D8 ops s ks fl=some ()→i∈fl→∃o d v,ops[i]?=some o∧o.dst=some d∧look d s.env=some v∧Ew ks v=true∧fA ks s o.op=true
 | j::fl,i,h,hi=>by
  simp only [D8]at h
  obtain⟨o,h1,h⟩:=aj h
  obtain⟨d,h2,h⟩:=aj h
  obtain⟨v,h3,h⟩:=aj h
  obtain⟨h4,h⟩:=aB h
  rw [Bool.and_eq_true]at h4
  rcases List.mem_cons.1 hi with rfl|hi
  ·exact⟨o,d,v,h1,h2,h3,h4.1,h4.2⟩
  ·exact Sz h hi
theorem afO {oB oT:Nat→Prop}{s s':S}(A:Nc oB oT s s'){d:Option Nat}{b:Builtin}{ats:Array TypeId}{args:List V}{x:Bar}(i:Ec oB oT args)(hfr:∀t,fresh s t=true→fresh s' t=true)(hin:x.inn= [])(h:RI P s d b ats args=some x):
  ∃t0 R,d=some t0∧fresh s t0=true∧x.val= .own t0∧x.tree=(t0,R)::nG x.kills s.tree∧(∀p∈x.kills,∃rows,look p s'.tree=some rows)∧(∀p∈x.kills,x.box=oH p s.box)∧(x.kills= []→x.box=s.box)∧(x.kills= []∨∃p,x.kills= [p])∧
   RI P s' d b ats args=some ⟨.own t0,(match x.kills with| []=>s'.box|p::_=>oH p s'.box),(t0,R)::nG x.kills s'.tree,x.kills,[]⟩:=by
 unfold RI at h⊢
 split at h
 ·rename_i x0 y0
  obtain⟨t,h2,h⟩:=aj h
  obtain⟨t1,h3,h⟩:=aj h
  obtain⟨h4,h⟩:=aB h
  obtain⟨ds,h5,h⟩:=aj h
  obtain⟨e,h6,h⟩:=aj h
  obtain⟨new,h7,h⟩:=aj h
  simp only [h2,h3,bq,eB _ h4,h5,h6,Ng A i.2.1 h7]
  cases x0 with
  | nil=>
   simp only [yR]at h
   obtain⟨k1,h⟩:=aB h
   obtain⟨t0,k2,h⟩:=aj h
   obtain⟨k3,h⟩:=aB h
   injection h with h;subst h
   refine⟨t0,new,k2,k3,rfl,rfl,(fun p hp=>by cases hp),(fun p hp=>by cases hp),(fun _=>rfl), .inl rfl,?_⟩
   simp only [yR,eB _ k1,k2,bq,eB _ (hfr _ k3)]
   rfl
  | own p=>
   simp only [yR]at h
   obtain⟨rows,k0,h⟩:=aj h
   obtain⟨k1,h⟩:=aB h
   obtain⟨t0,k2,h⟩:=aj h
   obtain⟨k3,h⟩:=aB h
   injection h with h;subst h
   have k4:=A.tree p rows k0 i.1
   refine⟨t0,rows++new,k2,k3,rfl,rfl,(fun q hq=>by simp at hq;subst hq;exact⟨rows,k4⟩),(fun q hq=>by simp at hq;subst hq;rfl),(fun h=>by cases h), .inr ⟨p,rfl⟩,?_⟩
   simp only [yR,k4,eB _ k1,k2,bq,eB _ (hfr _ k3)]
   rfl
  | inn p i j k=>
   simp only [yR]at h
   obtain⟨_,_,h⟩:=aj h
   obtain⟨_,h⟩:=aB h
   obtain⟨_,_,h⟩:=aj h
   obtain⟨_,_,h⟩:=aj h
   obtain⟨_,h⟩:=aB h
   obtain⟨_,_,h⟩:=aj h
   obtain⟨_,h⟩:=aB h
   injection h with h;subst h;cases hin
  | _=>simp only [yR]at h;cases h
 ·cases h
theorem Wp {ap:Bool}:∀{l:List (Nat×Oper)},FT ops ap l=true→(∀y∈l,isVal y.2.op=true)→FT ops false l=true
 | [],_,_=>rfl
 | x::r,h,hv=>by
  unfold FT at h⊢
  simp only [Bool.and_eq_true]at h⊢
  obtain⟨⟨⟨⟨⟨k1,k2⟩,k3⟩,k4⟩,k5⟩,k6⟩:=h
  exact⟨⟨⟨⟨⟨by rw [hv x (by simp)];rfl,k2⟩,k3⟩,k4⟩,k5⟩,Wp k6 fun y hy=>hv y (by simp [hy])⟩
theorem Nj {s0 s:S}:∀{fl:List Nat} {i:Nat},oK P ops s0 s fl=some ()→i∈fl→∃o d v,ops[i]?=some o∧o.dst=some d∧look d s.env=some v∧jl P s o.op=some v∧look d s0.env=some v
 | j::fl,i,h,hi=>by
  simp only [oK]at h
  obtain⟨o,h1,h⟩:=aj h
  obtain⟨d,h2,h⟩:=aj h
  obtain⟨v,h3,h⟩:=aj h
  obtain⟨u,h4,h⟩:=aj h
  obtain⟨h5,h6⟩:=yT h
  clear h
  subst h5
  obtain⟨v0,h7,h8⟩:=aj h6
  obtain⟨h9,h10⟩:=yT h8
  clear h6 h8
  subst h9
  rcases List.mem_cons.1 hi with hi|hi
  ·subst hi;exact⟨o,d,v0,h1,h2,h3,h4,h7⟩
  ·exact Nj h10 hi
end
end Go.Proofs.YtlpdjhiggpblcaaGreat
