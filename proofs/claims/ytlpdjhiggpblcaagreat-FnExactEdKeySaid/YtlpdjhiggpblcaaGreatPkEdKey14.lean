/- Part 14 of a proof in several texts (an abstract evaluator, what the functions compute). -/
import Derived.Test.YtlpdjhiggpblcaaGreatPkEdKey13
import Derived.Lib.IndexBytes
open Go.Proofs.Tryz
namespace Go.Proofs.YtlpdjhiggpblcaaGreat
open Go.ChangeShapes Go.WideShapes Go.ChangeAt Go.RowKit Go.Deep
set_option linter.unusedSimpArgs false
set_option linter.unusedVariables false
def wfV:Value→Bool
 | .int k n=>(Lit.int k n).wf
 | .string s=>decide (s.size≤9223372036854775807)
 | _=>true
mutual
def okD:D→Bool
 | .a v=>wfV v
 | .l rows=>decide (rows.length≤9223372036854775807)&&okT rows
 | .gone=>false
def Ao:List D→Bool
 | []=>true
 | d::r=>okD d&&Ao r
def okT:List (List D)→Bool
 | []=>true
 | r::rows=>Ao r&&okT rows
end
mutual
theorem ah7:∀(d:D),okD d=true→bnD 9223372036854775807 d=true
 | .a _,_=>rfl
 | .l rows,h=>by
  have h:(decide (rows.length≤9223372036854775807)&&okT rows)=true:=h
  rw [Bool.and_eq_true]at h
  show(decide (rows.length≤9223372036854775807)&&bnT 9223372036854775807 rows)=true
  rw [h.1,ah8 rows h.2];rfl
 | .gone,h=>by cases h
theorem ah9:∀(r:List D),Ao r=true→bnR 9223372036854775807 r=true
 | [],_=>rfl
 | d::r,h=>by
  have h:(okD d&&Ao r)=true:=h
  rw [Bool.and_eq_true]at h
  show(bnD _ d&&bnR _ r)=true
  rw [ah7 d h.1,ah9 r h.2];rfl
theorem ah8:∀(rows:List (List D)),okT rows=true→bnT 9223372036854775807 rows=true
 | [],_=>rfl
 | r::rows,h=>by
  have h:(Ao r&&okT rows)=true:=h
  rw [Bool.and_eq_true]at h
  show(bnR _ r&&bnT _ rows)=true
  rw [ah9 r h.1,ah8 rows h.2];rfl
end
theorem jL:∀{r q:List D},Ao r=true→Ao q=true→Ao (r++q)=true
 | [],q,_,k=>k
 | d::r,q,h,k=>by
  have h:(okD d&&Ao r)=true:=h
  rw [Bool.and_eq_true]at h
  show(okD d&&Ao (r++q))=true
  rw [h.1,jL h.2 k];rfl
theorem jM {d:D}{r:List D}(h:Ao (d::r)=true):okD d=true∧Ao r=true:=by
 have h:(okD d&&Ao r)=true:=h
 rwa [Bool.and_eq_true]at h
theorem LC {rows:List (List D)}(h:okD (.l rows)=true):lgL rows=true:=ah7 _ h
theorem aia:∀{rows:List (List D)},(∀r∈rows,Ao r=true)→okT rows=true
 | [],_=>rfl
 | r::rows,h=>by
  show(Ao r&&okT rows)=true
  rw [h r (by simp),aia fun q hq=>h q (by simp [hq])];rfl
inductive uK (G:Nat→Obj→Prop):List Value→List D→Prop
 | nil:uK G [] []
 | cons {v:Value} {d:D} {vs:List Value} {ds:List D}:sw G d v→uK G vs ds→uK G (v::vs) (d::ds)
theorem uK.app {G:Nat→Obj→Prop}:∀{us vs:List Value} {ds es:List D},uK G us ds→uK G vs es→uK G (us++vs) (ds++es)
 | _,_,_,_, .nil,h=>h
 | _,_,_,_, .cons a b,h=> .cons a (b.app h)
theorem uK.part {G:Nat→Obj→Prop}{cs:List Value}(o c:Nat){ds es:List D}(h:uK G ((cs.drop o).take c) ds)(k:uK G (cs.drop (o+c)) es):uK G (cs.drop o) (ds++es):=by
 have:=h.app k
 rwa [←List.drop_drop,List.take_append_drop]at this
theorem uK.one {G:Nat→Obj→Prop}{v:Value}{d:D}(h:uK G [v] [d]):sw G d v:=by cases h;assumption
theorem uK.fQ {G:Nat→Obj→Prop}{cs:List Value}{d:D}{ds:List D}(h:uK G cs (d::ds)):∃v vs,cs=v::vs∧sw G d v∧uK G vs ds:=by cases h with|cons a b=>exact⟨_,_,rfl,a,b⟩
theorem uK.aib {G:Nat→Obj→Prop}{cs:List Value}(h:uK G cs []):cs= []:=by cases h;rfl
theorem uK.get {G:Nat→Obj→Prop}:∀{vs:List Value} {ds:List D} {i:Nat} {d:D},uK G vs ds→ds[i]?=some d→∃u,vs[i]?=some u∧sw G d u
 | _,_,i,d, .nil,e=>by simp at e
 | _,_,0,d, .cons a _,e=>by simp at e;subst e;exact⟨_,rfl,a⟩
 | _,_,i+1,d, .cons _ b,e=>by simpa using b.get (i:=i) (by simpa using e)
theorem Ww {W:World}{b o:Nat}{u:Value}(h:W.cell? ⟨b,o,none⟩=some u):∃cs T fr,W.heap[b]?=some (.cells cs T fr)∧cs[o]?=some u:=by
 unfold World.cell? at h
 split at h
 ·rename_i cs T fr e
  exact⟨cs,T,fr,e,by simpa using h⟩
 ·cases h
theorem KQ {α:Type}(C:yh α)(l:List α):(C.rows l).flatten.length=l.length*C.k:=by
 have:=ji (k:=C.k) (C.rows l) (fun r hr=>by obtain⟨x,_,rfl⟩:=List.mem_map.1 hr;exact C.len x)
 rw [this,C.BM]
section
variable {H:Type} {enc:TypeId×Value→H} {W:World} {fuel:Nat} {cs:List Value} {x:DataW H×List MemPlace}
set_option maxRecDepth 100000 in
theorem Kg {t e:TypeId}{α:Type} [Inhabited α](C:yh α)(h0:0<C.k)(ht:prog.underlying t=some (.slice e))(hc:prog.cellsOf e=C.k)
  (he:∀{fuel cs x},DataW.trod enc prog W 0 (fun _=>true) true fuel e cs=some x→∃a:α,Ao (C.enc a)=true∧uK (eG W) cs (C.enc a))
  (h:DataW.trod enc prog W 0 (fun _=>true) true fuel t cs=some x):∃l:List α,okD (.l (C.rows l))=true∧uK (eG W) cs [.l (C.rows l)]:=by
 rcases open_slice ht h with⟨rfl,_⟩|⟨a,len,cap,m,n,D',Pl,rfl,hb,hl,hm,hmm,rfl,hx⟩
 ·exact⟨[],rfl, .cons (.nil none 0 (by omega) (fun _=>rfl)) .nil⟩
 have hlm:len≤m:=by rw [hmm];split<;>omega
 rw [hc]at hx
 obtain⟨g,hg⟩:=choose_lt (α:=α) (p:=fun i y=>Ao (C.enc y)=true∧∀j d,(C.enc y)[j]?=some d→∃u,W.cell? (a.add (i*C.k+j))=some u∧sw (eG W) d u) (n:=m) (fun i hi=>by
  obtain⟨cs',h1,h2⟩:=hx i hi
  obtain⟨_,hlen,hcell⟩:=World.cells?_some h1
  obtain⟨y,hp,hy⟩:=he h2
  refine⟨y,hp,fun j d e=>?_⟩
  obtain⟨u,e1,e2⟩:=hy.get e
  have hj:j<C.k:=by rw [←C.len y];exact(List.getElem?_eq_some_iff.1 e).1
  refine⟨u,?_,e2⟩
  rw [←e1,←hcell j hj,add_add])
 have hlen:(C.rows ((List.range len).map g)).length=len:=by rw [C.BM];simp
 unfold maxLen at hm
 refine⟨(List.range len).map g,?_, .cons ?_ .nil⟩
 ·show(decide _&&okT _)=true
  rw [hlen,decide_eq_true (by omega),Bool.true_and]
  refine aia fun r hr=>?_
  obtain⟨z,hz,rfl⟩:=List.mem_map.1 hr
  obtain⟨i,hi,rfl⟩:=List.mem_map.1 hz
  exact(hg i (by have:=List.mem_range.1 hi;omega)).1
 have hu:∀r∈C.rows ((List.range len).map g),r.length=C.k:=fun r hr=>by obtain⟨z,_,rfl⟩:=List.mem_map.1 hr;exact C.len z
 have key:∀i d,(C.rows ((List.range len).map g)).flatten[i]?=some d→∃u,W.cell? (a.add i)=some u∧sw (eG W) d u:=by
  intro i d e
  have hi:i<len*C.k:=by
   have:=(List.getElem?_eq_some_iff.1 e).1
   rw [KQ,List.length_map,List.length_range]at this;exact this
  have e1:i / C.k*C.k+i%C.k=i:=by rw [Nat.mul_comm];exact Nat.div_add_mod i C.k
  have h1:i / C.k<len:=Nat.div_lt_of_lt_mul (by rw [Nat.mul_comm];exact hi)
  have hlt:i%C.k<(C.enc (g (i / C.k))).length:=by rw [C.len];exact Nat.mod_lt _ h0
  have e2:=flat_get (k:=C.k) (C.rows ((List.range len).map g)) (i / C.k) (i%C.k) (C.enc (g (i / C.k))) _ hu (by
   unfold yh.rows
   rw [List.getElem?_map,List.getElem?_map,List.getElem?_range h1];rfl) (List.getElem?_eq_getElem hlt)
  rw [e1,e]at e2
  obtain⟨u,h2,h3⟩:=(hg (i / C.k) (by omega)).2 (i%C.k) d (by rw [List.getElem?_eq_getElem hlt];exact e2.symm)
  rw [e1]at h2
  exact⟨u,h2,h3⟩
 rcases Nat.eq_zero_or_pos len with h1|h1
 ·subst h1
  exact .nil _ _ (by omega) (fun h=>nomatch h)
 have hpos:0<(C.rows ((List.range len).map g)).flatten.length:=by rw [KQ,List.length_map,List.length_range];exact Nat.mul_pos h1 h0
 obtain⟨b,o,spot⟩:=a
 obtain⟨u0,h2, -⟩:=key 0 _ (List.getElem?_eq_getElem hpos)
 have hs:spot=none:=by simpa [Addr.add] using World.cell?_spot h2
 subst hs
 rw [Addr.add_lit]at h2
 obtain⟨hcs,T,fr,hh, -⟩:=Ww h2
 refine .l _ len cap b o C.k T fr hcs (fun i=>(W.cell? ⟨b,o+i,none⟩).getD undef) hlen h1 hl (by omega) h0 hu hh (fun i d e=>?_) (fun i d e=>?_)
 ·obtain⟨u,h3, -⟩:=key i d e
  rw [Addr.add_lit]at h3
  rw [h3]
  obtain⟨cs2,T2,fr2,hh2,h4⟩:=Ww h3
  rw [hh]at hh2
  injection hh2 with hh2;injection hh2 with q1 q2 q3
  rw [q1];exact h4
 ·obtain⟨u,h3,h4⟩:=key i d e
  rw [Addr.add_lit]at h3
  rw [h3];exact h4
set_option maxRecDepth 100000 in
theorem rC (h:DataW.trod enc prog W 0 (fun _=>true) true fuel 3 cs=some x):∃a:Int,Ao [.a (.int .i64 a)]=true∧uK (eG W) cs [.a (.int .i64 a)]:=by
 obtain⟨n,rfl,_,wf⟩:=DataW.trod_int underlying3 h
 exact⟨n,by show(_&&true)=true;rw [Bool.and_true];exact wf, .cons (.a _) .nil⟩
set_option maxRecDepth 100000 in
theorem aic (h:DataW.trod enc prog W 0 (fun _=>true) true fuel 4 cs=some x):∃a:Bool,Ao [.a (.bool a)]=true∧uK (eG W) cs [.a (.bool a)]:=by
 obtain⟨n,rfl,_⟩:=DataW.trod_bool underlying4 h
 exact⟨n,rfl, .cons (.a _) .nil⟩
set_option maxRecDepth 100000 in
theorem adp (h:DataW.trod enc prog W 0 (fun _=>true) true fuel 9 cs=some x):∃a:ByteArray,Ao [.a (.string a)]=true∧uK (eG W) cs [.a (.string a)]:=by
 obtain⟨s,rfl,_,wf⟩:=DataW.trod_string underlying9 h
 exact⟨s,by show(decide _&&true)=true;rw [Bool.and_true];unfold maxLen at wf;exact decide_eq_true (by omega), .cons (.a _) .nil⟩
theorem rD:prog.cellsOf 3=1:=by kernel_rfl
theorem aie:prog.cellsOf 4=1:=by kernel_rfl
theorem adq:prog.cellsOf 9=1:=by kernel_rfl
theorem TI:prog.cellsOf 23=1:=by kernel_rfl
theorem TJ (h:DataW.trod enc prog W 0 (fun _=>true) true fuel 23 cs=some x):∃l:List Int,Ao [.l (ints l)]=true∧uK (eG W) cs [.l (ints l)]:=by
 obtain⟨l,a,b⟩:=Kg qm (by decide) underlying23 rD rC h
 exact⟨l,by show(_&&true)=true;rw [Bool.and_true];exact a,b⟩
theorem aif:prog.cellsOf 34=1:=by kernel_rfl
theorem aii (h:DataW.trod enc prog W 0 (fun _=>true) true fuel 34 cs=some x):∃l:List ByteArray,Ao [.l (strs l)]=true∧uK (eG W) cs [.l (strs l)]:=by
 obtain⟨l,a,b⟩:=Kg sJ (by decide) underlying34 adq adp h
 exact⟨l,by show(_&&true)=true;rw [Bool.and_true];exact a,b⟩
end
end Go.Proofs.YtlpdjhiggpblcaaGreat
namespace Go.Proofs.YtlpdjhiggpblcaaGreat
set_option linter.unusedSectionVars false
set_option linter.unusedSimpArgs false
set_option linter.unusedVariables false
open Go.ChangeShapes Go.WideShapes Go.ChangeAt Go.RowKit Go.Deep
section
variable {H:Type} {enc:TypeId×Value→H} {W:World} {fuel:Nat} {cs:List Value} {x:DataW H×List MemPlace}
instance:Inhabited abE:=⟨alB⟩
theorem ajv:prog.cellsOf 55=2:=by kernel_rfl
set_option maxRecDepth 100000 in
theorem ajw (h:DataW.trod enc prog W 0 (fun _=>true) true fuel 55 cs=some x):∃a:abE,Ao (Mh.enc a)=true∧uK (eG W) cs (Mh.enc a):=by
 obtain⟨ys,m,_,_,hlen,hyl,hf⟩:=DataW.trod_struct underlying55 h
 rw [ajv]at hlen
 have e0:DataW.trod enc prog W 0 (fun _=>true) true m 3 ((cs.drop 0).take 1)=ys[0]?:=by
  have g:=hf 0 _ rfl
  exact(congrArg (fun z=>DataW.trod enc prog W 0 (fun _=>true) true m 3 ((cs.drop 0).take z)) rD).symm.trans g
 rw [List.getElem?_eq_getElem (show 0<ys.length by rw [hyl];exact Nat.le_of_ble_eq_true rfl)]at e0
 obtain⟨a0,g0,r0⟩:=rC e0
 have e1:DataW.trod enc prog W 0 (fun _=>true) true m 3 ((cs.drop 1).take 1)=ys[1]?:=by
  have g:=hf 1 _ rfl
  exact(congrArg (fun z=>DataW.trod enc prog W 0 (fun _=>true) true m 3 ((cs.drop 1).take z)) rD).symm.trans g
 rw [List.getElem?_eq_getElem (show 1<ys.length by rw [hyl];exact Nat.le_of_ble_eq_true rfl)]at e1
 obtain⟨a1,g1,r1⟩:=rC e1
 have z2:uK (eG W) (cs.drop 2) []:=by rw [List.drop_eq_nil_of_le (by omega)];exact .nil
 have y2:Ao []=true:=rfl
 have z1:=uK.part 1 1 r1 z2
 have y1:=jL g1 y2
 have z0:=uK.part 0 1 r0 z1
 have y0:=jL g0 y1
 exact⟨⟨a0,a1⟩,y0,z0⟩
set_option maxRecDepth 100000 in
theorem aaW {base:Nat}{v:Value}{d:DataW H}{ps:List MemPlace}(hv:Value.okWide prog W .any base 55 v)(h:DataW.Trod enc prog W 0 (fun _=>true) true 55 v d ps):
  ∃(y:abE),v= .agg #[.int .i64 y.Kind, .int .i64 y.R]∧Ao (Mh.enc y)=true:=by
 obtain⟨cs,rfl,hsz⟩:=okWide_struct underlying55 hv
 obtain⟨f,hf⟩:=h
 obtain⟨a,g,r0⟩:=ajw hf
 obtain⟨v0,w0,e0,q0,r1⟩:=r0.fQ
 obtain⟨v1,w1,e1,q1,r2⟩:=r1.fQ
 have e2:=r2.aib
 have u0:=q0.atom
 have u1:=q1.atom
 have e0:cs.toList=v0::w0:=e0
 refine⟨a,?_,g⟩
 apply congrArg Value.agg
 apply Array.toList_inj.1
 show cs.toList= [.int .i64 a.Kind, .int .i64 a.R]
 rw [e0,e1,e2]
 rw [u0]
 rw [u1]
instance:Inhabited fH:=⟨ajN⟩
theorem Jv:prog.cellsOf 45=2:=by kernel_rfl
set_option maxRecDepth 100000 in
theorem Nw (h:DataW.trod enc prog W 0 (fun _=>true) true fuel 45 cs=some x):∃a:fH,Ao (kG.enc a)=true∧uK (eG W) cs (kG.enc a):=by
 obtain⟨ys,m,_,_,hlen,hyl,hf⟩:=DataW.trod_struct underlying45 h
 rw [Jv]at hlen
 have e0:DataW.trod enc prog W 0 (fun _=>true) true m 23 ((cs.drop 0).take 1)=ys[0]?:=by
  have g:=hf 0 _ rfl
  exact(congrArg (fun z=>DataW.trod enc prog W 0 (fun _=>true) true m 23 ((cs.drop 0).take z)) TI).symm.trans g
 rw [List.getElem?_eq_getElem (show 0<ys.length by rw [hyl];exact Nat.le_of_ble_eq_true rfl)]at e0
 obtain⟨a0,g0,r0⟩:=TJ e0
 have e1:DataW.trod enc prog W 0 (fun _=>true) true m 3 ((cs.drop 1).take 1)=ys[1]?:=by
  have g:=hf 1 _ rfl
  exact(congrArg (fun z=>DataW.trod enc prog W 0 (fun _=>true) true m 3 ((cs.drop 1).take z)) rD).symm.trans g
 rw [List.getElem?_eq_getElem (show 1<ys.length by rw [hyl];exact Nat.le_of_ble_eq_true rfl)]at e1
 obtain⟨a1,g1,r1⟩:=rC e1
 have z2:uK (eG W) (cs.drop 2) []:=by rw [List.drop_eq_nil_of_le (by omega)];exact .nil
 have y2:Ao []=true:=rfl
 have z1:=uK.part 1 1 r1 z2
 have y1:=jL g1 y2
 have z0:=uK.part 0 1 r0 z1
 have y0:=jL g0 y1
 exact⟨⟨a0,a1⟩,y0,z0⟩
theorem adr:prog.cellsOf 49=1:=by kernel_rfl
theorem ads (h:DataW.trod enc prog W 0 (fun _=>true) true fuel 49 cs=some x):∃l:List fH,Ao [.l (aG l)]=true∧uK (eG W) cs [.l (aG l)]:=by
 obtain⟨l,a,b⟩:=Kg kG (Nat.le_of_ble_eq_true rfl) underlying49 Jv Nw h
 exact⟨l,by show(_&&true)=true;rw [Bool.and_true];exact a,b⟩
instance:Inhabited dL:=⟨agM⟩
theorem Wx:prog.cellsOf 183=1:=by kernel_rfl
set_option maxRecDepth 100000 in
theorem afZ (h:DataW.trod enc prog W 0 (fun _=>true) true fuel 183 cs=some x):∃a:dL,Ao (jF.enc a)=true∧uK (eG W) cs (jF.enc a):=by
 obtain⟨ys,m,_,_,hlen,hyl,hf⟩:=DataW.trod_struct underlying183 h
 rw [Wx]at hlen
 have e0:DataW.trod enc prog W 0 (fun _=>true) true m 23 ((cs.drop 0).take 1)=ys[0]?:=by
  have g:=hf 0 _ rfl
  exact(congrArg (fun z=>DataW.trod enc prog W 0 (fun _=>true) true m 23 ((cs.drop 0).take z)) TI).symm.trans g
 rw [List.getElem?_eq_getElem (show 0<ys.length by rw [hyl];exact Nat.le_of_ble_eq_true rfl)]at e0
 obtain⟨a0,g0,r0⟩:=TJ e0
 have z1:uK (eG W) (cs.drop 1) []:=by rw [List.drop_eq_nil_of_le (by omega)];exact .nil
 have y1:Ao []=true:=rfl
 have z0:=uK.part 0 1 r0 z1
 have y0:=jL g0 y1
 exact⟨⟨a0⟩,y0,z0⟩
theorem aaX:prog.cellsOf 46=1:=by kernel_rfl
theorem aaY (h:DataW.trod enc prog W 0 (fun _=>true) true fuel 46 cs=some x):∃l:List dL,Ao [.l (aC l)]=true∧uK (eG W) cs [.l (aC l)]:=by
 obtain⟨l,a,b⟩:=Kg jF (Nat.le_of_ble_eq_true rfl) underlying46 Wx afZ h
 exact⟨l,by show(_&&true)=true;rw [Bool.and_true];exact a,b⟩
instance:Inhabited YP:=⟨ajT⟩
theorem aaZ:prog.cellsOf 48=1:=by kernel_rfl
set_option maxRecDepth 100000 in
theorem aij (h:DataW.trod enc prog W 0 (fun _=>true) true fuel 48 cs=some x):∃a:YP,Ao (YQ.enc a)=true∧uK (eG W) cs (YQ.enc a):=by
 obtain⟨ys,m,_,_,hlen,hyl,hf⟩:=DataW.trod_struct underlying48 h
 rw [aaZ]at hlen
 have e0:DataW.trod enc prog W 0 (fun _=>true) true m 46 ((cs.drop 0).take 1)=ys[0]?:=by
  have g:=hf 0 _ rfl
  exact(congrArg (fun z=>DataW.trod enc prog W 0 (fun _=>true) true m 46 ((cs.drop 0).take z)) aaX).symm.trans g
 rw [List.getElem?_eq_getElem (show 0<ys.length by rw [hyl];exact Nat.le_of_ble_eq_true rfl)]at e0
 obtain⟨a0,g0,r0⟩:=aaY e0
 have z1:uK (eG W) (cs.drop 1) []:=by rw [List.drop_eq_nil_of_le (by omega)];exact .nil
 have y1:Ao []=true:=rfl
 have z0:=uK.part 0 1 r0 z1
 have y0:=jL g0 y1
 exact⟨⟨a0⟩,y0,z0⟩
instance:Inhabited YR:=⟨ajU⟩
theorem aa0:prog.cellsOf 51=1:=by kernel_rfl
set_option maxRecDepth 100000 in
theorem aik (h:DataW.trod enc prog W 0 (fun _=>true) true fuel 51 cs=some x):∃a:YR,Ao (YS.enc a)=true∧uK (eG W) cs (YS.enc a):=by
 obtain⟨ys,m,_,_,hlen,hyl,hf⟩:=DataW.trod_struct underlying51 h
 rw [aa0]at hlen
 have e0:DataW.trod enc prog W 0 (fun _=>true) true m 49 ((cs.drop 0).take 1)=ys[0]?:=by
  have g:=hf 0 _ rfl
  exact(congrArg (fun z=>DataW.trod enc prog W 0 (fun _=>true) true m 49 ((cs.drop 0).take z)) adr).symm.trans g
 rw [List.getElem?_eq_getElem (show 0<ys.length by rw [hyl];exact Nat.le_of_ble_eq_true rfl)]at e0
 obtain⟨a0,g0,r0⟩:=ads e0
 have z1:uK (eG W) (cs.drop 1) []:=by rw [List.drop_eq_nil_of_le (by omega)];exact .nil
 have y1:Ao []=true:=rfl
 have z0:=uK.part 0 1 r0 z1
 have y0:=jL g0 y1
 exact⟨⟨a0⟩,y0,z0⟩
instance:Inhabited Pf:=⟨ajV⟩
theorem ail:prog.cellsOf 54=2:=by kernel_rfl
set_option maxRecDepth 100000 in
theorem ain (h:DataW.trod enc prog W 0 (fun _=>true) true fuel 54 cs=some x):∃a:Pf,Ao (Ef.enc a)=true∧uK (eG W) cs (Ef.enc a):=by
 obtain⟨ys,m,_,_,hlen,hyl,hf⟩:=DataW.trod_struct underlying54 h
 rw [ail]at hlen
 have e0:DataW.trod enc prog W 0 (fun _=>true) true m 3 ((cs.drop 0).take 1)=ys[0]?:=by
  have g:=hf 0 _ rfl
  exact(congrArg (fun z=>DataW.trod enc prog W 0 (fun _=>true) true m 3 ((cs.drop 0).take z)) rD).symm.trans g
 rw [List.getElem?_eq_getElem (show 0<ys.length by rw [hyl];exact Nat.le_of_ble_eq_true rfl)]at e0
 obtain⟨a0,g0,r0⟩:=rC e0
 have e1:DataW.trod enc prog W 0 (fun _=>true) true m 34 ((cs.drop 1).take 1)=ys[1]?:=by
  have g:=hf 1 _ rfl
  exact(congrArg (fun z=>DataW.trod enc prog W 0 (fun _=>true) true m 34 ((cs.drop 1).take z)) aif).symm.trans g
 rw [List.getElem?_eq_getElem (show 1<ys.length by rw [hyl];exact Nat.le_of_ble_eq_true rfl)]at e1
 obtain⟨a1,g1,r1⟩:=aii e1
 have z2:uK (eG W) (cs.drop 2) []:=by rw [List.drop_eq_nil_of_le (by omega)];exact .nil
 have y2:Ao []=true:=rfl
 have z1:=uK.part 1 1 r1 z2
 have y1:=jL g1 y2
 have z0:=uK.part 0 1 r0 z1
 have y0:=jL g0 y1
 exact⟨⟨a0,a1⟩,y0,z0⟩
set_option maxRecDepth 100000 in
theorem Yd {base:Nat}{v:Value}{d:DataW H}{ps:List MemPlace}(hv:Value.okWide prog W .any base 54 v)(h:DataW.Trod enc prog W 0 (fun _=>true) true 54 v d ps):
  ∃(y:Pf) (p0:Value),v= .agg #[.int .i64 y.First,p0]∧Ao (Ef.enc y)=true∧sw (eG W) (.l (strs y.bT)) p0:=by
 obtain⟨cs,rfl,hsz⟩:=okWide_struct underlying54 hv
 obtain⟨f,hf⟩:=h
 obtain⟨a,g,r0⟩:=ain hf
 obtain⟨v0,w0,e0,q0,r1⟩:=r0.fQ
 obtain⟨v1,w1,e1,q1,r2⟩:=r1.fQ
 have e2:=r2.aib
 have u0:=q0.atom
 have e0:cs.toList=v0::w0:=e0
 refine⟨a,v1,?_,g,q1⟩
 apply congrArg Value.agg
 apply Array.toList_inj.1
 show cs.toList= [.int .i64 a.First,v1]
 rw [e0,e1,e2]
 rw [u0]
theorem aio {y:Pf}(h0:Ao (Ef.enc y)=true):okD (.a (.int .i64 y.First))=true∧okD (.l (strs y.bT))=true:=by
 obtain⟨k0,h1⟩:=jM h0
 obtain⟨k1,h2⟩:=jM h1
 exact⟨k0,k1⟩
instance:Inhabited dF:=⟨vC⟩
theorem akG:prog.cellsOf 53=20:=by kernel_rfl
set_option maxRecDepth 100000 in
theorem akH (h:DataW.trod enc prog W 0 (fun _=>true) true fuel 53 cs=some x):∃a:dF,Ao (N9.enc a)=true∧uK (eG W) cs (N9.enc a):=by
 obtain⟨ys,m,_,_,hlen,hyl,hf⟩:=DataW.trod_struct underlying53 h
 rw [akG]at hlen
 have e0:DataW.trod enc prog W 0 (fun _=>true) true m 4 ((cs.drop 0).take 1)=ys[0]?:=by
  have g:=hf 0 _ rfl
  exact(congrArg (fun z=>DataW.trod enc prog W 0 (fun _=>true) true m 4 ((cs.drop 0).take z)) aie).symm.trans g
 rw [List.getElem?_eq_getElem (show 0<ys.length by rw [hyl];exact Nat.le_of_ble_eq_true rfl)]at e0
 obtain⟨a0,g0,r0⟩:=aic e0
 have e1:DataW.trod enc prog W 0 (fun _=>true) true m 3 ((cs.drop 1).take 1)=ys[1]?:=by
  have g:=hf 1 _ rfl
  exact(congrArg (fun z=>DataW.trod enc prog W 0 (fun _=>true) true m 3 ((cs.drop 1).take z)) rD).symm.trans g
 rw [List.getElem?_eq_getElem (show 1<ys.length by rw [hyl];exact Nat.le_of_ble_eq_true rfl)]at e1
 obtain⟨a1,g1,r1⟩:=rC e1
 have e2:DataW.trod enc prog W 0 (fun _=>true) true m 45 ((cs.drop 2).take 2)=ys[2]?:=by
  have g:=hf 2 _ rfl
  exact(congrArg (fun z=>DataW.trod enc prog W 0 (fun _=>true) true m 45 ((cs.drop 2).take z)) Jv).symm.trans g
 rw [List.getElem?_eq_getElem (show 2<ys.length by rw [hyl];exact Nat.le_of_ble_eq_true rfl)]at e2
 obtain⟨a2,g2,r2⟩:=Nw e2
 have e3:DataW.trod enc prog W 0 (fun _=>true) true m 3 ((cs.drop 4).take 1)=ys[3]?:=by
  have g:=hf 3 _ rfl
  exact(congrArg (fun z=>DataW.trod enc prog W 0 (fun _=>true) true m 3 ((cs.drop 4).take z)) rD).symm.trans g
 rw [List.getElem?_eq_getElem (show 3<ys.length by rw [hyl];exact Nat.le_of_ble_eq_true rfl)]at e3
 obtain⟨a3,g3,r3⟩:=rC e3
 have e4:DataW.trod enc prog W 0 (fun _=>true) true m 3 ((cs.drop 5).take 1)=ys[4]?:=by
  have g:=hf 4 _ rfl
  exact(congrArg (fun z=>DataW.trod enc prog W 0 (fun _=>true) true m 3 ((cs.drop 5).take z)) rD).symm.trans g
 rw [List.getElem?_eq_getElem (show 4<ys.length by rw [hyl];exact Nat.le_of_ble_eq_true rfl)]at e4
 obtain⟨a4,g4,r4⟩:=rC e4
 have e5:DataW.trod enc prog W 0 (fun _=>true) true m 3 ((cs.drop 6).take 1)=ys[5]?:=by
  have g:=hf 5 _ rfl
  exact(congrArg (fun z=>DataW.trod enc prog W 0 (fun _=>true) true m 3 ((cs.drop 6).take z)) rD).symm.trans g
 rw [List.getElem?_eq_getElem (show 5<ys.length by rw [hyl];exact Nat.le_of_ble_eq_true rfl)]at e5
 obtain⟨a5,g5,r5⟩:=rC e5
 have e6:DataW.trod enc prog W 0 (fun _=>true) true m 3 ((cs.drop 7).take 1)=ys[6]?:=by
  have g:=hf 6 _ rfl
  exact(congrArg (fun z=>DataW.trod enc prog W 0 (fun _=>true) true m 3 ((cs.drop 7).take z)) rD).symm.trans g
 rw [List.getElem?_eq_getElem (show 6<ys.length by rw [hyl];exact Nat.le_of_ble_eq_true rfl)]at e6
 obtain⟨a6,g6,r6⟩:=rC e6
 have e7:DataW.trod enc prog W 0 (fun _=>true) true m 3 ((cs.drop 8).take 1)=ys[7]?:=by
  have g:=hf 7 _ rfl
  exact(congrArg (fun z=>DataW.trod enc prog W 0 (fun _=>true) true m 3 ((cs.drop 8).take z)) rD).symm.trans g
 rw [List.getElem?_eq_getElem (show 7<ys.length by rw [hyl];exact Nat.le_of_ble_eq_true rfl)]at e7
 obtain⟨a7,g7,r7⟩:=rC e7
 have e8:DataW.trod enc prog W 0 (fun _=>true) true m 3 ((cs.drop 9).take 1)=ys[8]?:=by
  have g:=hf 8 _ rfl
  exact(congrArg (fun z=>DataW.trod enc prog W 0 (fun _=>true) true m 3 ((cs.drop 9).take z)) rD).symm.trans g
 rw [List.getElem?_eq_getElem (show 8<ys.length by rw [hyl];exact Nat.le_of_ble_eq_true rfl)]at e8
 obtain⟨a8,g8,r8⟩:=rC e8
 have e9:DataW.trod enc prog W 0 (fun _=>true) true m 3 ((cs.drop 10).take 1)=ys[9]?:=by
  have g:=hf 9 _ rfl
  exact(congrArg (fun z=>DataW.trod enc prog W 0 (fun _=>true) true m 3 ((cs.drop 10).take z)) rD).symm.trans g
 rw [List.getElem?_eq_getElem (show 9<ys.length by rw [hyl];exact Nat.le_of_ble_eq_true rfl)]at e9
 obtain⟨a9,g9,r9⟩:=rC e9
 have e10:DataW.trod enc prog W 0 (fun _=>true) true m 48 ((cs.drop 11).take 1)=ys[10]?:=by
  have g:=hf 10 _ rfl
  exact(congrArg (fun z=>DataW.trod enc prog W 0 (fun _=>true) true m 48 ((cs.drop 11).take z)) aaZ).symm.trans g
 rw [List.getElem?_eq_getElem (show 10<ys.length by rw [hyl];exact Nat.le_of_ble_eq_true rfl)]at e10
 obtain⟨a10,g10,r10⟩:=aij e10
 have e11:DataW.trod enc prog W 0 (fun _=>true) true m 51 ((cs.drop 12).take 1)=ys[11]?:=by
  have g:=hf 11 _ rfl
  exact(congrArg (fun z=>DataW.trod enc prog W 0 (fun _=>true) true m 51 ((cs.drop 12).take z)) aa0).symm.trans g
 rw [List.getElem?_eq_getElem (show 11<ys.length by rw [hyl];exact Nat.le_of_ble_eq_true rfl)]at e11
 obtain⟨a11,g11,LJ⟩:=aik e11
 have e12:DataW.trod enc prog W 0 (fun _=>true) true m 3 ((cs.drop 13).take 1)=ys[12]?:=by
  have g:=hf 12 _ rfl
  exact(congrArg (fun z=>DataW.trod enc prog W 0 (fun _=>true) true m 3 ((cs.drop 13).take z)) rD).symm.trans g
 rw [List.getElem?_eq_getElem (show 12<ys.length by rw [hyl];exact Nat.le_of_ble_eq_true rfl)]at e12
 obtain⟨a12,g12,LK⟩:=rC e12
 have e13:DataW.trod enc prog W 0 (fun _=>true) true m 45 ((cs.drop 14).take 2)=ys[13]?:=by
  have g:=hf 13 _ rfl
  exact(congrArg (fun z=>DataW.trod enc prog W 0 (fun _=>true) true m 45 ((cs.drop 14).take z)) Jv).symm.trans g
 rw [List.getElem?_eq_getElem (show 13<ys.length by rw [hyl];exact Nat.le_of_ble_eq_true rfl)]at e13
 obtain⟨a13,g13,r13⟩:=Nw e13
 have e14:DataW.trod enc prog W 0 (fun _=>true) true m 23 ((cs.drop 16).take 1)=ys[14]?:=by
  have g:=hf 14 _ rfl
  exact(congrArg (fun z=>DataW.trod enc prog W 0 (fun _=>true) true m 23 ((cs.drop 16).take z)) TI).symm.trans g
 rw [List.getElem?_eq_getElem (show 14<ys.length by rw [hyl];exact Nat.le_of_ble_eq_true rfl)]at e14
 obtain⟨a14,g14,NJ⟩:=TJ e14
 have e15:DataW.trod enc prog W 0 (fun _=>true) true m 3 ((cs.drop 17).take 1)=ys[15]?:=by
  have g:=hf 15 _ rfl
  exact(congrArg (fun z=>DataW.trod enc prog W 0 (fun _=>true) true m 3 ((cs.drop 17).take z)) rD).symm.trans g
 rw [List.getElem?_eq_getElem (show 15<ys.length by rw [hyl];exact Nat.le_of_ble_eq_true rfl)]at e15
 obtain⟨a15,g15,r15⟩:=rC e15
 have e16:DataW.trod enc prog W 0 (fun _=>true) true m 45 ((cs.drop 18).take 2)=ys[16]?:=by
  have g:=hf 16 _ rfl
  exact(congrArg (fun z=>DataW.trod enc prog W 0 (fun _=>true) true m 45 ((cs.drop 18).take z)) Jv).symm.trans g
 rw [List.getElem?_eq_getElem (show 16<ys.length by rw [hyl];exact Nat.le_of_ble_eq_true rfl)]at e16
 obtain⟨a16,g16,r16⟩:=Nw e16
 have z17:uK (eG W) (cs.drop 20) []:=by rw [List.drop_eq_nil_of_le (by omega)];exact .nil
 have y17:Ao []=true:=rfl
 have z16:=uK.part 18 2 r16 z17
 have y16:=jL g16 y17
 have z15:=uK.part 17 1 r15 z16
 have y15:=jL g15 y16
 have z14:=uK.part 16 1 NJ z15
 have y14:=jL g14 y15
 have z13:=uK.part 14 2 r13 z14
 have y13:=jL g13 y14
 have z12:=uK.part 13 1 LK z13
 have y12:=jL g12 y13
 have z11:=uK.part 12 1 LJ z12
 have y11:=jL g11 y12
 have z10:=uK.part 11 1 r10 z11
 have y10:=jL g10 y11
 have z9:=uK.part 10 1 r9 z10
 have y9:=jL g9 y10
 have z8:=uK.part 9 1 r8 z9
 have y8:=jL g8 y9
 have z7:=uK.part 8 1 r7 z8
 have y7:=jL g7 y8
 have z6:=uK.part 7 1 r6 z7
 have y6:=jL g6 y7
 have z5:=uK.part 6 1 r5 z6
 have y5:=jL g5 y6
 have z4:=uK.part 5 1 r4 z5
 have y4:=jL g4 y5
 have z3:=uK.part 4 1 r3 z4
 have y3:=jL g3 y4
 have z2:=uK.part 2 2 r2 z3
 have y2:=jL g2 y3
 have z1:=uK.part 1 1 r1 z2
 have y1:=jL g1 y2
 have z0:=uK.part 0 1 r0 z1
 have y0:=jL g0 y1
 exact⟨⟨a0,a1,a2,a3,a4,a5,a6,a7,a8,a9,a10,a11,a12,a13,a14,a15,a16⟩,y0,z0⟩
set_option maxRecDepth 100000 in
theorem adt {base:Nat}{v:Value}{d:DataW H}{ps:List MemPlace}(hv:Value.okWide prog W .any base 53 v)(h:DataW.Trod enc prog W 0 (fun _=>true) true 53 v d ps):
  ∃(y:dF) (p0 p1 p2 p3 p4 p5:Value),v= .agg #[.bool y.Vi, .int .i64 y.bQ,p0, .int .i64 y.ak.At, .int .i64 y.bD, .int .i64 y.Op, .int .i64 y.bN, .int .i64 y.fC, .int .i64 y.dY, .int .i64 y.bL, .int .i64 y.iO,p1,p2, .int .i64 y.kr,p3, .int .i64 y.gX.At,p4, .int .i64 y.lV,p5, .int .i64 y.bX.At]∧Ao (N9.enc y)=true∧sw (eG W) (.l (ints y.ak.av)) p0∧sw (eG W) (.l (aC y.aL.aA)) p1∧sw (eG W) (.l (aG y.fD.bT)) p2∧sw (eG W) (.l (ints y.gX.av)) p3∧sw (eG W) (.l (ints y.bO)) p4∧sw (eG W) (.l (ints y.bX.av)) p5:=by
 obtain⟨cs,rfl,hsz⟩:=okWide_struct underlying53 hv
 obtain⟨f,hf⟩:=h
 obtain⟨a,g,r0⟩:=akH hf
 obtain⟨v0,w0,e0,q0,r1⟩:=r0.fQ
 obtain⟨v1,w1,e1,q1,r2⟩:=r1.fQ
 obtain⟨v2,w2,e2,q2,r3⟩:=r2.fQ
 obtain⟨v3,w3,e3,q3,r4⟩:=r3.fQ
 obtain⟨v4,w4,e4,q4,r5⟩:=r4.fQ
 obtain⟨v5,w5,e5,q5,r6⟩:=r5.fQ
 obtain⟨v6,w6,e6,q6,r7⟩:=r6.fQ
 obtain⟨v7,w7,e7,q7,r8⟩:=r7.fQ
 obtain⟨v8,w8,e8,q8,r9⟩:=r8.fQ
 obtain⟨v9,w9,e9,q9,r10⟩:=r9.fQ
 obtain⟨v10,w10,e10,Qq,LJ⟩:=r10.fQ
 obtain⟨v11,w11,e11,OC,LK⟩:=LJ.fQ
 obtain⟨v12,w12,e12,OD,r13⟩:=LK.fQ
 obtain⟨v13,w13,e13,q13,NJ⟩:=r13.fQ
 obtain⟨v14,w14,e14,q14,r15⟩:=NJ.fQ
 obtain⟨v15,w15,e15,q15,r16⟩:=r15.fQ
 obtain⟨v16,w16,e16,q16,r17⟩:=r16.fQ
 obtain⟨v17,w17,e17,q17,Pg⟩:=r17.fQ
 obtain⟨v18,w18,e18,q18,r19⟩:=Pg.fQ
 obtain⟨v19,w19,e19,q19,r20⟩:=r19.fQ
 have e20:=r20.aib
 have u0:=q0.atom
 have u1:=q1.atom
 have u3:=q3.atom
 have u4:=q4.atom
 have u5:=q5.atom
 have u6:=q6.atom
 have u7:=q7.atom
 have u8:=q8.atom
 have u9:=q9.atom
 have u10:=Qq.atom
 have u13:=q13.atom
 have u15:=q15.atom
 have u17:=q17.atom
 have u19:=q19.atom
 have e0:cs.toList=v0::w0:=e0
 refine⟨a,v2,v11,v12,v14,v16,v18,?_,g,q2,OC,OD,q14,q16,q18⟩
 apply congrArg Value.agg
 apply Array.toList_inj.1
 show cs.toList= [.bool a.Vi, .int .i64 a.bQ,v2, .int .i64 a.ak.At, .int .i64 a.bD, .int .i64 a.Op, .int .i64 a.bN, .int .i64 a.fC, .int .i64 a.dY, .int .i64 a.bL, .int .i64 a.iO,v11,v12, .int .i64 a.kr,v14, .int .i64 a.gX.At,v16, .int .i64 a.lV,v18, .int .i64 a.bX.At]
 rw [e0,e1,e2,e3,e4,e5,e6,e7,e8,e9,e10,e11,e12,e13,e14,e15,e16,e17,e18,e19,e20]
 rw [u0]
 rw [u1]
 rw [u3]
 rw [u4]
 rw [u5]
 rw [u6]
 rw [u7]
 rw [u8]
 rw [u9]
 rw [u10]
 rw [u13]
 rw [u15]
 rw [u17]
 rw [u19]
theorem akI {y:dF}(h0:Ao (N9.enc y)=true):okD (.a (.bool y.Vi))=true∧okD (.a (.int .i64 y.bQ))=true∧okD (.l (ints y.ak.av))=true∧okD (.a (.int .i64 y.ak.At))=true∧okD (.a (.int .i64 y.bD))=true∧okD (.a (.int .i64 y.Op))=true∧okD (.a (.int .i64 y.bN))=true∧okD (.a (.int .i64 y.fC))=true∧okD (.a (.int .i64 y.dY))=true∧okD (.a (.int .i64 y.bL))=true∧okD (.a (.int .i64 y.iO))=true∧okD (.l (aC y.aL.aA))=true∧okD (.l (aG y.fD.bT))=true∧okD (.a (.int .i64 y.kr))=true∧okD (.l (ints y.gX.av))=true∧okD (.a (.int .i64 y.gX.At))=true∧okD (.l (ints y.bO))=true∧okD (.a (.int .i64 y.lV))=true∧okD (.l (ints y.bX.av))=true∧okD (.a (.int .i64 y.bX.At))=true:=by
 obtain⟨k0,h1⟩:=jM h0
 obtain⟨k1,h2⟩:=jM h1
 obtain⟨k2,h3⟩:=jM h2
 obtain⟨k3,h4⟩:=jM h3
 obtain⟨k4,h5⟩:=jM h4
 obtain⟨k5,h6⟩:=jM h5
 obtain⟨k6,h7⟩:=jM h6
 obtain⟨k7,h8⟩:=jM h7
 obtain⟨k8,h9⟩:=jM h8
 obtain⟨k9,h10⟩:=jM h9
 obtain⟨k10,h11⟩:=jM h10
 obtain⟨k11,h12⟩:=jM h11
 obtain⟨k12,h13⟩:=jM h12
 obtain⟨k13,h14⟩:=jM h13
 obtain⟨k14,h15⟩:=jM h14
 obtain⟨k15,h16⟩:=jM h15
 obtain⟨k16,h17⟩:=jM h16
 obtain⟨k17,h18⟩:=jM h17
 obtain⟨k18,h19⟩:=jM h18
 obtain⟨k19,h20⟩:=jM h19
 exact⟨k0,k1,k2,k3,k4,k5,k6,k7,k8,k9,k10,k11,k12,k13,k14,k15,k16,k17,k18,k19⟩
end
open Go.RowKit
set_option maxHeartbeats 16000000
set_option maxRecDepth 100000
section
variable (e:dF) (h:fV e) {f:Int} {l:List ByteArray} (hh:iQ f l)
include h hh
theorem adu:bR [gL e,aH f l,vI 97] [] []=some (kR (zf e 0)):=by
 have e1:=Qe e h hh 0
 generalize zf e 0=p at*
 clear h hh
 generalize hE:bR _ _ _=R
 simp [bR,func95,f95,e1]at hE
 exact hE.symm
theorem aa1:bR [gL e,aH f l,vI 101] [] []=some (kR (zf e e.ak.av.length)):=by
 have e1:=Qf e h hh 0
 generalize zf e e.ak.av.length=p at*
 clear h hh
 generalize hE:bR _ _ _=R
 simp [bR,func95,f95,e1]at hE
 exact hE.symm
theorem adv:bR [gL e,aH f l,vI 98] [] []=some (kR (zf e (e.ak.At-gQ e))):=by
 have e1:=Qc e h hh 0
 generalize zf e (e.ak.At-gQ e)=p at*
 clear h hh
 generalize hE:bR _ _ _=R
 simp [bR,func95,f95,e1]at hE
 exact hE.symm
theorem aa2:bR [gL e,aH f l,vI 102] [] []=some (kR (zf e (e.ak.At+gQ e))):=by
 have e1:=Qd e h hh 0
 generalize zf e (e.ak.At+gQ e)=p at*
 clear h hh
 generalize hE:bR _ _ _=R
 simp [bR,func95,f95,e1]at hE
 exact hE.symm
theorem aa3:bR [gL e,aH f l,vI 112] [] []=some (kR (jP e f l (-1))):=by
 have e1:=Tj e h hh 0
 generalize jP e f l (-1)=p at*
 clear h hh
 generalize hE:bR _ _ _=R
 simp [bR,func95,f95,e1]at hE
 exact hE.symm
theorem aa4:bR [gL e,aH f l,vI 110] [] []=some (kR (jP e f l 1)):=by
 have e1:=Tk e h hh 0
 generalize jP e f l 1=p at*
 clear h hh
 generalize hE:bR _ _ _=R
 simp [bR,func95,f95,e1]at hE
 exact hE.symm
theorem aa5:bR [gL e,aH f l,vI 121] [] []=some (kR (Jb e)):=by
 have e1:=ajs e h
 generalize Jb e=p at*
 clear h hh
 generalize hE:bR _ _ _=R
 simp [bR,func95,f95,e1]at hE
 exact hE.symm
theorem adw:bR [gL e,aH f l,vI 95] [] []=some (kR (nK e)):=by
 have e1:=aeH e h
 generalize nK e=p at*
 clear h hh
 generalize hE:bR _ _ _=R
 simp [bR,func95,f95,e1]at hE
 exact hE.symm
theorem aa6:bR [gL e,aH f l,vI 114] [] []=some (kR (Cn e)):=by
 have e1:=Yb e h
 generalize Cn e=p at*
 clear h hh
 generalize hE:bR _ _ _=R
 simp [bR,func95,f95,e1]at hE
 exact hE.symm
theorem ajx (r:Int):bR [gL e,aH f l,vI r] [] []=some (kR (KL e f l r)):=by
 obtain⟨h1,h2,h3,h4⟩:=h.aS
 unfold KL
 by_cases c97:r=97
 ·rw [if_pos c97];subst c97;exact adu e h hh
 rw [if_neg c97]
 by_cases Gy:r=101
 ·rw [if_pos Gy];subst Gy;exact aa1 e h hh
 rw [if_neg Gy]
 by_cases X6:r=98
 ·rw [if_pos X6];subst X6;exact adv e h hh
 rw [if_neg X6]
 by_cases X7:r=102
 ·rw [if_pos X7];subst X7;exact aa2 e h hh
 rw [if_neg X7]
 by_cases Kr:r=112
 ·rw [if_pos Kr];subst Kr;exact aa3 e h hh
 rw [if_neg Kr]
 by_cases X8:r=110
 ·rw [if_pos X8];subst X8;exact aa4 e h hh
 rw [if_neg X8]
 by_cases c107:r=107
 ·rw [if_pos c107]
  subst c107
  exact Tg e _ f _ l (Jr e h e.ak.At e.ak.av.length (aS e) e.ak.av.length 1 h1 rfl (by omega) h2 (Nat.le_refl _))
 rw [if_neg c107]
 by_cases X9:r=121
 ·rw [if_pos X9];subst X9;exact aa5 e h hh
 rw [if_neg X9]
 by_cases c116:r=116
 ·rw [if_pos c116];subst c116;exact ajt e h f l
 rw [if_neg c116]
 by_cases c95:r=95
 ·rw [if_pos c95];subst c95;exact adw e h hh
 rw [if_neg c95]
 by_cases Kt:r=114
 ·rw [if_pos Kt];subst Kt;exact aa6 e h hh
 rw [if_neg Kt]
 have e1:=l5 e h
 generalize dI e=p at*
 clear h hh h1 h2 h3 h4
 generalize hE:bR _ _ _=R
 simp [bR,func95,f95,e1,c97,Gy,X6,X7,Kr,X8,c107,X9,c116,c95,Kt]at hE
 exact hE.symm
theorem aa7 (k r:Int):Es [aK k r] [] []=some ⟨V.v (.bool (jk k r)),[],[]⟩:=by
 unfold Es jk
 by_cases c1:k=1
 ·subst c1;simp [func73,f73,aR]
 by_cases c2:k=2
 ·subst c2
  by_cases r1:r=95
  ·subst r1;simp [func73,f73]
  cases r2:iq r 97 122
  ·simp [func73,f73,fK,r1,r2]
  by_cases r3:r=104
  ·subst r3;simp [func73,f73,fK,r2]
  by_cases r4:r=105
  ·subst r4;simp [func73,f73,fK,r2]
  by_cases r5:r=106
  ·subst r5;simp [func73,f73,fK,r2]
  by_cases r6:r=109
  ·subst r6;simp [func73,f73,fK,r2]
  simp [func73,f73,fK,r1,r2,r3,r4,r5,r6]
 by_cases c3:k=3
 ·subst c3;simp [func73,f73,dG]
 cases q:iq k 4 16
 ·simp [func73,f73,dG,c1,c2,c3,q]
 ·by_cases r0:r=0
  ·subst r0;simp [func73,f73,dG,c1,c2,c3,q]
  ·simp [func73,f73,dG,c1,c2,c3,q,r0]
theorem qE (k r:Int)(hk:jk k r=true):rQ [gL e,aH f l,aK k r] [] []=some ⟨V.v (.bool true),[],[]⟩:=by
 have:=aa7 e h hh k r
 rw [hk]at this
 exact ac2 e (fA.2 h) f l hh k r this
theorem aa8 (k r:Int)(hk:jk k r=true)(hm:e.bQ=0):jv [gL e,aH f l,aK k r] [] []=some (kR (DY e f l k r)):=by
 obtain⟨h1,h2,h3,h4⟩:=h.aS
 obtain⟨n1,n2,n3⟩:=fM e h
 have e1:=qE e h hh k r hk
 have e2:=aax e h hh k r hk
 unfold DY
 cases hp:pO e f l k r with
 | some p=>
  rw [hp]at e2
  simp only
  clear h hh h1 h2 h3 h4
  generalize hE:jv _ _ _=R
  unfold jv at hE
  simp only [gL,gO,hO,hm]at e1 e2 hE
  simp [func35,f35,e1,e2]at hE
  exact hE.symm
 | none=>
  rw [hp]at e2
  simp only [vC,aZ,show aC []= []from rfl,show aG []= []from rfl]at e2⊢
  by_cases c3:k=3
  ·rw [if_pos c3]
   subst c3
   have e3:=aaV e h r
   generalize GN e r=p at*
   clear h hh h1 h2 h3 h4
   generalize hE:jv _ _ _=R
   unfold jv at hE
   simp only [gL,gO,hO,hm]at e1 e2 e3 hE
   simp [func35,f35,e1,e2,e3]at hE
   exact hE.symm
  rw [if_neg c3]
  by_cases c15:k=15
  ·rw [if_pos c15]
   subst c15
   have e3:=Nu e.ak.av (gQ e) (aS e) h2 (by omega) n3
   rw [n1,←h1]at e3
   have e4:=Jr e h (dD (fE e.ak.av) (gQ e) (aS e)) e.ak.At (dD (fE e.ak.av) (gQ e) (aS e)) (aS e) 2 rfl h1 (by omega) (Gr (fun _=>zZ) _ _) h2
   generalize mq e (dD (fE e.ak.av) (gQ e) (aS e)) (aS e) 2=p at*
   generalize dD (fE e.ak.av) (gQ e) (aS e)=u at*
   clear h hh h1 h2 h3 h4
   generalize hE:jv _ _ _=R
   unfold jv at hE
   simp only [gL,gO,hO,hm]at e1 e2 e4 hE
   simp [func35,f35,e1,e2,e3,e4,show List.range' 0 1= [0]from rfl]at hE
   exact hE.symm
  rw [if_neg c15]
  by_cases c2:k=2
  ·rw [if_pos c2]
   subst c2
   have e3:=ajx e h hh r
   generalize KL e f l r=p at*
   clear h hh h1 h2 h3 h4
   generalize hE:jv _ _ _=R
   unfold jv at hE
   simp only [gL,gO,hO,hm]at e1 e2 e3 hE
   simp [func35,f35,e1,e2,e3]at hE
   exact hE.symm
  rw [if_neg c2]
  have e3:=l5 e h
  generalize dI e=p at*
  clear h hh h1 h2 h3 h4
  generalize hE:jv _ _ _=R
  unfold jv at hE
  simp only [gL,gO,hO,hm]at e1 e2 e3 hE
  simp [func35,f35,e1,e2,e3,c2,c3,c15]at hE
  exact hE.symm
end
section
variable (e:dF) (h:fV e) (hm:e.bQ=2)
include h hm
theorem af0 (k r:Int)(n:Nat)(hn:1≤n∧n≤999)(hw:¬e.fC=0)(hk:jk k r=true):mP [gL e,aK k r,vI (n:Int)] [] []=some (kR (xS e k r n)):=by
 obtain⟨a1,a2,a3,a4⟩:=h.aS
 have eb:=l5 e h
 unfold xS
 by_cases c1:k=1
 ·rw [if_neg (fun q=>q c1)]
  subst c1
  have hr:dn r=true:=by simpa [jk] using hk
  by_cases c2:e.fC=114
  ·rw [if_pos c2]
   by_cases c3:e.ak.av.length<aS e+n
   ·rw [if_pos c3]
    have w1:=bM (e.ak.At+n) (by omega)
    have hgt:(e.ak.av.length:Int)<e.ak.At+n:=by omega
    generalize dI e=p at*
    clear h hk
    generalize hE:mP _ _ _=R
    unfold mP at hE
    simp only [gL,gO,hO,c2]at eb hE
    simp [-au,func101,f101,eb,w1,hgt]at hE
    exact hE.symm
   ·rw [if_neg c3]
    exact aaR e h hm r n hn c2 (om hr) (by omega)
  ·rw [if_neg c2]
   have hw':=LA (h.wait.resolve_left hw) c2
   have e1:=Wu e.fC
   have hw3:=Tc e.fC
   have e2:=Wt e.ak.av (some 0) (aS e) n r (iZ e.fC) a2 (by omega) hn (by omega)
   rw [←a1]at e2
   by_cases c3:tN e.ak.av r (iZ e.fC) n (aS e)=none
   ·rw [if_pos c3]
    rw [c3]at e2
    simp only [uH,Option.isSome_none]at e2
    generalize dI e=p at*
    generalize iZ e.fC=how at*
    clear h hk
    generalize hE:mP _ _ _=R
    simp [mP, -au,func101,f101,eb,e1,e2,c2]at hE
    exact hE.symm
   ·rw [if_neg c3]
    obtain⟨q,hq⟩:=Option.ne_none_iff_exists'.1 c3
    rw [hq]at e2
    simp only [uH,Option.isSome_some]at e2
    have e3:=eP e h
    have h':=h.find' (OT e.fC hr hw')
    have e4:=OV _ h' hm r (iZ e.fC) n (by omega) hn
    generalize qZ {e with dY:=r,bL:=iZ e.fC} r (iZ e.fC) n=p at*
    generalize iZ e.fC=how at*
    clear h h' hk
    generalize hE:mP _ _ _=R
    simp [mP, -au,func101,f101,e1,e2,e3,e4,c2]at hE
    exact hE.symm
 ·rw [if_pos c1]
  generalize dI e=p at*
  clear h hk
  generalize hE:mP _ _ _=R
  simp [mP, -au,func101,f101,eb,c1]at hE
  exact hE.symm
theorem aa9 (a n:Nat)(ha:a≤e.ak.av.length)(hn:1≤n∧n≤999):xG [gL e,vI (a:Int),vI (n:Int)] [] []=some (kR (Am e a n)):=by
 obtain⟨a1,a2,a3,a4⟩:=h.aS
 have eb:=l5 e h
 have e1:o8 [.agg [.aM (some 0) (aC e.aL.aA)]] [] []=some ⟨.own 0,[],[(0,ints (bE e.aL.aA))]⟩:=Gh e.aL.aA h.ring
 obtain⟨t1,t2⟩:=xW h.ring
 have e2:=aau (bE e.aL.aA) (some 0) n t2 hn.2
 obtain⟨k1,k2,k3,k4,k5,k6⟩:=Jk (bE e.aL.aA).length n t2
 obtain⟨r1,r2⟩:=Nj t1 (rz (bE e.aL.aA).length n)
 have e3:=EK e.ak.av (some 0) e.ak.At a (by omega) ha
 have hla:=h.Lx ha
 have e4:=Cr e.ak.av (lZ (rz (bE e.aL.aA).length n) (bE e.aL.aA)) a hla r2 (by omega)
 rw [Int.toNat_natCast]at e4
 unfold Am
 by_cases hc:bE e.aL.aA= []∨400<e.ak.av.length+(bE e.aL.aA).length*n
 ·rw [if_pos hc]
  generalize dI e=p at*
  by_cases h0:bE e.aL.aA= []
  ·have z0:lZ (rz (bE e.aL.aA).length n) (bE e.aL.aA)= []:=List.length_eq_zero_iff.1 (by rw [r1,h0];simp)
   rw [z0]at e2 e4
   rw [if_pos (by simp;omega)]at e4
   simp only [aZ]at e2 e4
   generalize bE e.aL.aA=tp at*
   clear h
   generalize hE:xG _ _ _=R
   simp [xG, -au,func185,f185,eb,e1,e2,e3,e4]at hE
   exact hE.symm
  ·have hc:=hc.resolve_left h0
   have hp:0<(bE e.aL.aA).length:=List.length_pos_iff.2 h0
   have hbig:400<e.ak.av.length+(bE e.aL.aA).length*rz (bE e.aL.aA).length n:=by
    by_cases hle:(bE e.aL.aA).length*n≤400
    ·rw [k2 hle];exact hc
    ·have:=k3 (by omega);omega
   rw [if_neg (by omega)]at e4
   have hu0:¬lZ (rz (bE e.aL.aA).length n) (bE e.aL.aA)= []:=fun q=>by rw [q]at r1;simp at r1;omega
   generalize lZ (rz (bE e.aL.aA).length n) (bE e.aL.aA)=u at*
   generalize bE e.aL.aA=tp at*
   clear h
   generalize hE:xG _ _ _=R
   simp [xG, -au,func185,f185,eb,e1,e2,e3,e4,hu0]at hE
   exact hE.symm
 ·rw [if_neg hc]
  have h0:¬bE e.aL.aA= []:=fun q=>hc (.inl q)
  have hle:e.ak.av.length+(bE e.aL.aA).length*n≤400:=by omega
  have hp:0<(bE e.aL.aA).length:=List.length_pos_iff.2 h0
  have hpn:n≤(bE e.aL.aA).length*n:=Nat.le_mul_of_pos_left n hp
  rw [k2 (by omega)]at e2 e4 r1 r2
  rw [if_pos (by omega)]at e4
  have hu0:¬lZ n (bE e.aL.aA)= []:=fun q=>by rw [q]at r1;simp at r1;omega
  have hu1:¬((lZ n (bE e.aL.aA)).length:Int)=0:=by omega
  obtain⟨i1,i2⟩:=zx (u:=lZ n (bE e.aL.aA)) (by omega) a4 r2 ha
  have e5:=vo (Al e.ak.av a (lZ n (bE e.aL.aA))) (some 0) ((a:Int)+(lZ n (bE e.aL.aA)).length) ((a:Int)+(lZ n (bE e.aL.aA)).length-1) (by omega)
  have w1:=bM ((a:Int)+(lZ n (bE e.aL.aA)).length-1) (by omega)
  rw [show max 0 (min ((a:Int)+(lZ n (bE e.aL.aA)).length-1) (Al e.ak.av a (lZ n (bE e.aL.aA))).length)=(a:Int)+(lZ n (bE e.aL.aA)).length-1 from by omega]at e5
  have e6:=Jj e h (Al e.ak.av a (lZ n (bE e.aL.aA))) ((a:Int)+(lZ n (bE e.aL.aA)).length-1) (i2 _ (by omega) (by omega))
  rw [show ((a+(bE e.aL.aA).length*n:Nat):Int)-1=(a:Int)+(lZ n (bE e.aL.aA)).length-1 from by rw [r1];omega]
  generalize Al e.ak.av a (lZ n (bE e.aL.aA))=X at*
  generalize lZ n (bE e.aL.aA)=u at*
  generalize bE e.aL.aA=tp at*
  generalize vY e X ((a:Int)+u.length-1)=p at*
  clear h
  generalize hE:xG _ _ _=R
  simp [xG, -au,func185,f185,e1,e2,e3,e4,e5,e6,w1,hu0,hu1]at hE
  exact hE.symm
end
section
variable (e:dF) (h:fV e) (hm:e.bQ=2)
include h hm
theorem LD (u:Nat)(w:Bool)(hu:u≤e.ak.av.length):tC [gL e,vI (u:Int),V.v (.bool w)] [] []=some (kR (tT e u w)):=by
 obtain⟨a1,a2,a3,a4⟩:=h.aS
 unfold tT
 by_cases hc:e.Op=0
 ·rw [if_pos hc]
  have e2:=qD e h u
  generalize zf e u=p at*
  clear h
  generalize hE:tC _ _ _=R
  unfold tC at hE
  simp only [gL,gO,hO,hc]at e2 hE
  simp [-au,func268,f268,e2]at hE
  exact hE.symm
 ·rw [if_neg hc]
  have hop:opC e.Op=true:=h.op.resolve_left hc
  have e1:=ajr e.ak.av (some 0) (aS e) u w a2 hu (by omega)
  rw [←a1]at e1
  obtain⟨s1,s2⟩:=OQ w a2 hu
  have e2:=uI e h hm e.Op hop (min (aS e) u) (xR e.ak.av.length (aS e) u w) s1 s2
  generalize iR e e.Op (min (aS e) u) (xR e.ak.av.length (aS e) u w)=p at*
  generalize min (aS e) u=m at*
  generalize xR e.ak.av.length (aS e) u w=m2 at*
  clear h
  generalize hE:tC _ _ _=R
  simp [tC, -au,func268,f268,e1,e2,hc]at hE
  exact hE.symm
theorem xZ (r:Int):jI [gL e,vI r] [] []=some (kR (lY e r (Proofs.YtlpdjhiggpblcaaGreat.gW e))):=by
 obtain⟨a1,a2,a3,a4⟩:=h.aS
 obtain⟨n1,n2,n3⟩:=h.gW
 have e0:=Bg e h
 have e1:=Dw e.ak.av (some 0) (aS e) (Proofs.YtlpdjhiggpblcaaGreat.gW e) a2 (by omega) ⟨n1,n2⟩ r
 rw [←a1]at e1
 unfold lY
 generalize Proofs.YtlpdjhiggpblcaaGreat.gW e=n at*
 cases hf:gN e.ak.av (aS e) r n with
 | none=>
  rw [hf]at e1
  have e2:=LD e h hm 0 false (by omega)
  show _=some (kR (tT e 0 false))
  generalize tT e 0 false=p at*
  clear h
  simp only [mR]at e1
  simp only [Int.natCast_zero]at e2
  generalize hE:jI _ _ _=R
  simp [jI, -au,func206,f206,e0,e1,e2]at hE
  exact hE.symm
 | some q=>
  rw [hf]at e1
  have hu:=Ab a2 hf
  have e2:=LD e h hm q.1 q.2 hu
  show _=some (kR (tT e q.1 q.2))
  generalize tT e q.1 q.2=p at*
  clear h
  simp only [mR]at e1
  generalize hE:jI _ _ _=R
  simp [jI, -au,func206,f206,e0,e1,e2]at hE
  exact hE.symm
theorem LG (r how:Int)(hw:0≤how∧how≤3):pF [gL e,vI r,vI how] [] []=some (kR (if r=0 then dI e else qZ e r how (Proofs.YtlpdjhiggpblcaaGreat.gW e))):=by
 obtain⟨a1,a2,a3,a4⟩:=h.aS
 obtain⟨n1,n2,n3⟩:=h.gW
 have e0:=Bg e h
 have e1:=Wv e.ak.av (some 0) (aS e) (Proofs.YtlpdjhiggpblcaaGreat.gW e) r how a2 (by omega) ⟨n1,n2⟩ hw
 have eb:=jB e h
 rw [←a1]at e1
 by_cases hr:r=0
 ·rw [if_pos hr]
  subst hr
  generalize dI e=p at*
  generalize Proofs.YtlpdjhiggpblcaaGreat.gW e=n at*
  clear h
  generalize hE:pF _ _ _=R
  simp [pF, -au,func264,f264,e0,e1,eb]at hE
  exact hE.symm
 rw [if_neg hr]
 unfold qZ
 generalize Proofs.YtlpdjhiggpblcaaGreat.gW e=n at*
 cases hf:tN e.ak.av r how n (aS e)with
 | none=>
  rw [hf]at e1
  show _=some (kR (dI e))
  generalize dI e=p at*
  clear h
  simp only [uH,Option.isSome_none]at e1
  generalize hE:pF _ _ _=R
  simp [pF, -au,func264,f264,e0,e1,eb,hr]at hE
  exact hE.symm
 | some u=>
  rw [hf]at e1
  have hu:=Ka n (aS e) u a2 hf
  have e2:=LD e h hm u (decide (how=0∨how=2)) hu
  show _=some (kR (tT e u (decide (how=0∨how=2))))
  generalize tT e u (decide (how=0∨how=2))=p at*
  clear h
  simp only [uH,Option.isSome_some]at e1
  have hq:how=0∨how=1∨how=2∨how=3:=by omega
  generalize hE:pF _ _ _=R
  unfold pF at hE
  rcases hq with rfl|rfl|rfl|rfl
  all_goals (simp at e2;simp [-au,func264,f264,e0,e1,e2,hr]at hE;exact hE.symm)
theorem Ye (r:Int)(n:Nat)(hnn:n=Proofs.YtlpdjhiggpblcaaGreat.gW e)(hw:e.fC=114)(hr:iB r=true)(hl:aS e+n≤e.ak.av.length):kL [gL e,aK 1 r] [] []=some (kR (vY e (pQ e.ak.av (aS e) r n) (aS e+n-1:Nat))):=by
 obtain⟨a1,a2,a3,a4⟩:=h.aS
 have hn:=h.gW
 rw [←hnn]at hn
 obtain⟨n1,n2,n3⟩:=hn
 have e0:=Bg e h
 rw [←hnn]at e0
 have hrs:=Kc a4 hr (aS e)
 have w1:=bM (e.ak.At+n) (by omega)
 have w2:=bM (e.ak.At+n-1) (by omega)
 have w4:=bM ((e.ak.av.length:Int)-e.ak.At) (by omega)
 have e1:=lK e.ak.av (some 0) e.ak.At (by omega)
 have hq:(((aS e+n-1:Nat)):Int)=e.ak.At+n-1:=by omega
 have hgt:¬(e.ak.av.length:Int)-e.ak.At<n:=by omega
 have e2:=qC e h (pQ e.ak.av (aS e) r n) (e.ak.At+n-1) 0 (gD (by have:=(hrs n).1;omega) (hrs n).2 (by omega) (by have:=(hrs n).1;omega)) (by omega)
 rw [hq]
 unfold vY
 generalize sF e (pQ e.ak.av (aS e) r n) (e.ak.At+n-1) 0=p at*
 generalize hE:kL _ _ _=R
 unfold kL at hE
 simp only [gL,gO,hO,hw]at e0 e2 hE
 simp [-au,func204,f204,e0,e1,w1,w2,w4,hgt]at hE
 rw [aF (fun j=> .on ⟨[(9,V.v (.int .i64 (e.ak.At+(j:Int)))),(8, .ref 8 0),(7,V.v (.int .i64 e.ak.At)),(6,V.v (.int .i64 ((n:Int)))),(4, .ref 4 0),(3, .ref 3 0),(2, .ref 2 0)],
   [(8,[.own 2000000000,vI e.ak.At]),(4,[V.v (.bool false),vI 0, .own 2000000001,vI 0,vI 0,vI 0,vI 0,vI 0,vI 0,vI 0,vI 0, .own 2000000002, .own 2000000003,vI 0, .own 2000000004,vI 0, .own 2000000005,vI 0, .own 2000000006,vI 0]),(3,[vI 1,vI r]),(2,[V.v (.bool e.Vi),vI e.bQ, .aM (some 0) (ints e.ak.av),vI e.ak.At,vI e.bD,vI e.Op,vI e.bN,vI 114,vI e.dY,vI e.bL,vI e.iO, .aM (some 1) (aC e.aL.aA), .aM (some 2) (aG e.fD.bT),vI e.kr, .aM (some 3) (ints e.gX.av),vI e.gX.At, .aM (some 4) (ints e.bO),vI e.lV, .aM (some 5) (ints e.bX.av),vI e.bX.At])],
   [(2000000006,[]),(2000000005,[]),(2000000004,[]),(2000000003,[]),(2000000002,[]),(2000000001,[]),(2000000000,ints (pQ e.ak.av (aS e) r j))],[]⟩) n ?_ ?_]at hE
 ·simp [-au,w1,w2,e2]at hE
  exact hE.symm
 ·simp [pQ]
 ·intro j hj
  have hlen:=(hrs j).1
  have k1:0≤e.ak.At+(j:Int):=by omega
  have k2:(e.ak.At+(j:Int)).toNat=aS e+j:=by omega
  have k3:e.ak.At+(j:Int)<e.ak.av.length:=by omega
  have k4:aS e+j<e.ak.av.length:=by omega
  have w3:=bM (e.ak.At+((j:Int)+1)) (by omega)
  have k5:e.ak.At+(j:Int)+1=e.ak.At+((j:Int)+1):=by omega
  have hset:∀x:Int,(ints (pQ e.ak.av (aS e) r j)).set (aS e+j) [.a (.int .i64 x)]=ints ((pQ e.ak.av (aS e) r j).set (aS e+j) x):=fun x=>yZ _ _ x
  rw [pQ]
  simp [-au,hj,w1,w3,k1,k2,k3,k4,k5,hlen,hset]
theorem adx (k r:Int)(hw:¬e.fC=0)(hk:jk k r=true):kL [gL e,aK k r] [] []=some (kR (xS e k r (gW e))):=by
 obtain⟨a1,a2,a3,a4⟩:=h.aS
 obtain⟨n1,n2,n3⟩:=h.gW
 have eb:=jB e h
 unfold xS
 by_cases c1:k=1
 ·rw [if_neg (fun q=>q c1)]
  subst c1
  have hr:dn r=true:=by simpa [jk] using hk
  have hr0:¬r=0:=fun q=>by rw [q]at hr;exact absurd hr (by decide)
  have e0:=Bg e h
  by_cases c2:e.fC=114
  ·rw [if_pos c2]
   by_cases c3:e.ak.av.length<aS e+gW e
   ·rw [if_pos c3]
    have w1:=bM ((e.ak.av.length:Int)-e.ak.At) (by omega)
    have hgt:(e.ak.av.length:Int)-e.ak.At<gW e:=by omega
    generalize dI e=p at*
    generalize gW e=n at*
    clear h hk
    generalize hE:kL _ _ _=R
    unfold kL at hE
    simp only [gL,gO,hO,c2]at eb e0 hE
    simp [-au,func204,f204,eb,e0,w1,hgt]at hE
    exact hE.symm
   ·rw [if_neg c3]
    exact Ye e h hm r _ rfl c2 (om hr) (by omega)
  ·rw [if_neg c2]
   have hw':=LA (h.wait.resolve_left hw) c2
   have e1:=Tt e.fC
   have hw3:=Tc e.fC
   have e2:=Wv e.ak.av (some 0) (aS e) (gW e) r (iZ e.fC) a2 (by omega) ⟨n1,n2⟩ (by omega)
   rw [←a1]at e2
   by_cases c3:tN e.ak.av r (iZ e.fC) (gW e) (aS e)=none
   ·rw [if_pos c3]
    rw [c3]at e2
    simp only [uH,Option.isSome_none]at e2
    generalize dI e=p at*
    generalize gW e=n at*
    generalize iZ e.fC=how at*
    clear h hk
    generalize hE:kL _ _ _=R
    simp [kL, -au,func204,f204,eb,e0,e1,e2,c2]at hE
    exact hE.symm
   ·rw [if_neg c3]
    obtain⟨q,hq⟩:=Option.ne_none_iff_exists'.1 c3
    rw [hq]at e2
    simp only [uH,Option.isSome_some]at e2
    have e3:=gG e h
    have h':=h.find' (OT e.fC hr hw')
    have e4:=LG _ h' hm r (iZ e.fC) (by omega)
    rw [if_neg hr0,show gW {e with dY:=r,bL:=iZ e.fC}=gW e from rfl]at e4
    generalize qZ {e with dY:=r,bL:=iZ e.fC} r (iZ e.fC) (gW e)=p at*
    generalize gW e=n at*
    generalize iZ e.fC=how at*
    clear h h' hk
    generalize hE:kL _ _ _=R
    simp [kL, -au,func204,f204,e0,e1,e2,e3,e4,c2]at hE
    exact hE.symm
 ·rw [if_pos c1]
  generalize dI e=p at*
  clear h hk
  generalize hE:kL _ _ _=R
  simp [kL, -au,func204,f204,eb,c1]at hE
  exact hE.symm
end
section
variable (e:dF) (h:fV e) (hm:e.bQ=2)
include h hm
theorem abb:qI [gL e] [] []=some (kR (uF e (gW e))):=by
 obtain⟨a1,a2,a3,a4⟩:=h.aS
 obtain⟨n1,n2,n3⟩:=h.gW
 unfold uF
 by_cases hz:e.ak.av.length=0
 ·rw [if_pos hz]
  have e1:=jB e h
  have hz':e.ak.av= []:=List.length_eq_zero_iff.1 hz
  generalize dI e=p at*
  clear h
  generalize hE:qI _ _ _=R
  unfold qI at hE
  simp only [gL,gO,hO,hz',aZ]at e1 hE
  simp [-au,func285,f285,e1]at hE
  exact hE.symm
 rw [if_neg hz]
 have hz':¬e.ak.av= []:=fun q=>hz (by rw [q];rfl)
 have e0:=Bg e h
 generalize gW e=n at*
 have w1:=bM (e.ak.At+n) (by omega)
 have e1:=lK e.ak.av (some 0) e.ak.At (by omega)
 have e4:=dw (e.ak.At+n) e.ak.av.length (by omega)
 have hq:max 0 (min (e.ak.At+n) e.ak.av.length)=((min (aS e+n) e.ak.av.length:Nat):Int):=by omega
 rw [hq]at e4
 have hB1:min (aS e+n) e.ak.av.length≤e.ak.av.length:=by omega
 have hB2:aS e≤min (aS e+n) e.ak.av.length:=by omega
 generalize min (aS e+n) e.ak.av.length=b at*
 have hfs:=fun j (hj:aS e+j≤e.ak.av.length)=>Ke a4 (aS e) j hj
 have hfb:=hfs (b-aS e) (by omega)
 have e2:=qC e h (ru e.ak.av (aS e) (b-aS e)) b 0 (gD (by omega) hfb.2 (by omega) (by omega)) (by omega)
 unfold vY
 generalize sF e (ru e.ak.av (aS e) (b-aS e)) b 0=p at*
 generalize hE:qI _ _ _=R
 simp [qI, -au,func285,f285,e0,e1,e4,w1,hz']at hE
 rw [aF (fun j=> .on ⟨[(6,V.v (.int .i64 (e.ak.At+(j:Int)))),(5,V.v (.int .i64 ((b:Int)))),(4, .ref 4 0),(2, .ref 2 0),(1, .ref 1 0)],
   [(4,[.own 2000000000,vI e.ak.At]),(2,[V.v (.bool false),vI 0, .own 2000000001,vI 0,vI 0,vI 0,vI 0,vI 0,vI 0,vI 0,vI 0, .own 2000000002, .own 2000000003,vI 0, .own 2000000004,vI 0, .own 2000000005,vI 0, .own 2000000006,vI 0]),(1,[V.v (.bool e.Vi),vI e.bQ, .aM (some 0) (ints e.ak.av),vI e.ak.At,vI e.bD,vI e.Op,vI e.bN,vI e.fC,vI e.dY,vI e.bL,vI e.iO, .aM (some 1) (aC e.aL.aA), .aM (some 2) (aG e.fD.bT),vI e.kr, .aM (some 3) (ints e.gX.av),vI e.gX.At, .aM (some 4) (ints e.bO),vI e.lV, .aM (some 5) (ints e.bX.av),vI e.bX.At])],
   [(2000000006,[]),(2000000005,[]),(2000000004,[]),(2000000003,[]),(2000000002,[]),(2000000001,[]),(2000000000,ints (ru e.ak.av (aS e) j))],[]⟩) (b-aS e) ?_ ?_]at hE
 ·have hc:¬e.ak.At+((b-aS e:Nat):Int)<b:=by omega
  simp [-au,hc,e2]at hE
  exact hE.symm
 ·simp [ru]
 ·intro j hj
  have hlen:=(hfs j (by omega)).1
  have k1:0≤e.ak.At+(j:Int):=by omega
  have k2:(e.ak.At+(j:Int)).toNat=aS e+j:=by omega
  have k3:e.ak.At+(j:Int)<e.ak.av.length:=by omega
  have k4:aS e+j<e.ak.av.length:=by omega
  have k6:e.ak.At+(j:Int)<b:=by omega
  have w3:=bM (e.ak.At+((j:Int)+1)) (by omega)
  have k5:e.ak.At+(j:Int)+1=e.ak.At+((j:Int)+1):=by omega
  rw [ru]
  generalize hX:ru e.ak.av (aS e) j=X at*
  have hjl:aS e+j<X.length:=by omega
  have hgd:X.getD (aS e+j) 0=X[aS e+j]:=by rw [List.getD_eq_getElem?_getD,List.getElem?_eq_getElem hjl];rfl
  rw [hgd]
  have hgu:=aQ hjl
  have hset:∀x:Int,(ints X).set (aS e+j) [.a (.int .i64 x)]=ints (X.set (aS e+j) x):=fun x=>yZ _ _ x
  have akJ:X.set (aS e+j) X[aS e+j]=X:=List.set_getElem_self hjl
  generalize hr:X[aS e+j]=r at*
  unfold aao
  by_cases c1:iq r 97 122=true
  ·obtain⟨d1,d2⟩:=bB.1 c1
   have d3:¬r≤90:=by omega
   have d4:65≤r:=by omega
   have d5:65≤r-32∧r-32≤90:=by omega
   have u1:=bM (r-32) (by omega)
   simp [-au,k1,k2,k3,k4,k5,k6,w3,hlen,hset,hgu,hr,c1,d1,d2,d3,d4,u1]
  ·by_cases c2:iq r 65 90=true
   ·obtain⟨d1,d2⟩:=bB.1 c2
    have d3:¬97≤r:=by omega
    have u1:=bM (r+32) (by omega)
    simp [-au,k1,k2,k3,k4,k5,k6,w3,hlen,hset,hgu,hr,c1,c2,d1,d2,d3,u1]
   ·rw [if_neg c1,if_neg c2,akJ]
    rcases J7 (Bool.eq_false_iff.2 c1)with d1|⟨d1,d2⟩<;>rcases J7 (Bool.eq_false_iff.2 c2)with f1|⟨f1,f2⟩
    ·simp [-au,k1,k2,k3,k4,k5,k6,w3,hlen,hset,hgu,hr,d1,f1]
    ·simp [-au,k1,k2,k3,k4,k5,k6,w3,hlen,hset,hgu,hr,d1,f1,f2]
    ·simp [-au,k1,k2,k3,k4,k5,k6,w3,hlen,hset,hgu,hr,d1,d2,f1]
    ·simp [-au,k1,k2,k3,k4,k5,k6,w3,hlen,hset,hgu,hr,d1,d2,f1,f2]
theorem Wy (a:Nat)(ha:a≤e.ak.av.length):qz [gL e,vI (a:Int)] [] []=some (kR (Am e a (gW e))):=by
 obtain⟨a1,a2,a3,a4⟩:=h.aS
 obtain⟨n1,n2,n3⟩:=h.gW
 have eb:=jB e h
 have e0:=Bg e h
 have e1:pE [.agg [.aM (some 0) (aC e.aL.aA)]] [] []=some ⟨.own 0,[],[(0,ints (bE e.aL.aA))]⟩:=Gv e.aL.aA h.ring
 obtain⟨t1,t2⟩:=xW h.ring
 unfold Am
 generalize gW e=n at*
 have hmul:(bE e.aL.aA).length*n≤400*999:=Nat.mul_le_mul t2 n2
 have w1:=bM ((bE e.aL.aA).length*n:Int) (by rw [←Int.natCast_mul];omega)
 by_cases h0:bE e.aL.aA= []
 ·rw [if_pos (.inl h0)]
  generalize dI e=p at*
  rw [h0]at e1
  simp only [aZ]at e1
  clear h
  generalize hE:qz _ _ _=R
  simp [qz, -au,func284,f284,eb,e0,e1]at hE
  exact hE.symm
 have hp:0<(bE e.aL.aA).length:=List.length_pos_iff.2 h0
 by_cases hbig:400<(bE e.aL.aA).length*n
 ·rw [if_pos (.inr (by omega))]
  have hbi:(400:Int)<(bE e.aL.aA).length*n:=by rw [←Int.natCast_mul];omega
  generalize dI e=p at*
  generalize bE e.aL.aA=tp at*
  clear h
  generalize hE:qz _ _ _=R
  simp [qz, -au,func284,f284,eb,e0,e1,w1,hbi,h0]at hE
  exact hE.symm
 have hbi:¬(400:Int)<(bE e.aL.aA).length*n:=by rw [←Int.natCast_mul];omega
 obtain⟨r1,r2⟩:=Nj t1 n
 have e3:=OJ e.ak.av e.ak.At a h.line
 rw [show max 0 (min (a:Int) e.ak.av.length)=a by omega]at e3
 have hla:=h.Lx ha
 have e4:=Co e.ak.av (lZ n (bE e.aL.aA)) a hla r2 (by omega)
 rw [Int.toNat_natCast]at e4
 have hsz:∀j,j≤n→(bE e.aL.aA).length*j≤400:=fun j hj=>Nat.le_trans (Nat.mul_le_mul_left _ hj) (by omega)
 have hrl:∀j,j≤n→(lZ j (bE e.aL.aA)).length=(bE e.aL.aA).length*j:=fun j _=>by rw [(Nj t1 j).1]
 generalize hE:qz _ _ _=R
 unfold qz at hE
 have hrn:=hrl n (Nat.le_refl _)
 have hlt:∀p:dF×Int,(400<e.ak.av.length+(bE e.aL.aA).length*n∧p=dI e)∨(¬400<e.ak.av.length+(bE e.aL.aA).length*n∧p=vY e (Al e.ak.av a (lZ n (bE e.aL.aA))) ((a+(bE e.aL.aA).length*n:Nat)-1))→R=some (kR p):=by
  intro p hp
  generalize htp:bE e.aL.aA=tp at*
  simp [-au,func284,f284,e0,e1,w1,hbi,h0]at hE
  rw [aF (fun j=> .on ⟨[(9,V.v (.int .i64 ((j:Int)))),(8, .own 2000000000),(7,V.v (.int .i64 ((n:Int)))),(6, .own 2000000001),(4, .ref 4 0),(2, .ref 2 0),(1,V.v (.int .i64 ((a:Int))))],
    [(4,[V.v (.bool false),vI 0, .own 2000000002,vI 0,vI 0,vI 0,vI 0,vI 0,vI 0,vI 0,vI 0, .own 2000000003, .own 2000000004,vI 0, .own 2000000005,vI 0, .own 2000000006,vI 0, .own 2000000007,vI 0]),(2,[V.v (.bool e.Vi),vI e.bQ, .aM (some 0) (ints e.ak.av),vI e.ak.At,vI e.bD,vI e.Op,vI e.bN,vI e.fC,vI e.dY,vI e.bL,vI e.iO, .aM (some 1) (aC e.aL.aA), .aM (some 2) (aG e.fD.bT),vI e.kr, .aM (some 3) (ints e.gX.av),vI e.gX.At, .aM (some 4) (ints e.bO),vI e.lV, .aM (some 5) (ints e.bX.av),vI e.bX.At])],
    [(2000000007,[]),(2000000006,[]),(2000000005,[]),(2000000004,[]),(2000000003,[]),(2000000002,[]),(2000000001,ints tp),(2000000000,ints (lZ j tp))],[]⟩) n ?_ ?_]at hE
  ·rcases hp with⟨q,rfl⟩|⟨q,rfl⟩
   ·rw [if_neg (by omega)]at e4
    generalize dI e=p at*
    simp [-au,e3,e4,eb]at hE
    exact hE.symm
   ·rw [if_pos (by omega)]at e4
    have hpn:n≤tp.length*n:=Nat.le_mul_of_pos_left n hp
    obtain⟨i1,i2⟩:=zx (u:=lZ n tp) (by omega) a4 r2 ha
    have e6:=qC e h (Al e.ak.av a (lZ n tp)) ((a:Int)+(lZ n tp).length-1) 0 (i2 _ (by omega) (by omega)) (by omega)
    have w2:=bM ((a:Int)+(lZ n tp).length-1) (by omega)
    rw [show ((a+tp.length*n:Nat):Int)-1=(a:Int)+(lZ n tp).length-1 from by rw [hrn];omega]
    unfold vY
    generalize Al e.ak.av a (lZ n tp)=X at*
    generalize lZ n tp=u at*
    generalize sF e X ((a:Int)+u.length-1) 0=p at*
    simp [-au,e3,e4,e6,w2]at hE
    exact hE.symm
  ·simp [lZ,aZ]
  ·intro j hj
   have hw2:=bM ((j:Int)+1) (by omega)
   have z1:=hsz j (by omega)
   have z2:=hrl j (by omega)
   have g1:(lZ j tp).length+tp.length≤4611686018427387904:=by omega
   have g2:((lZ j tp).length+tp.length)*8≤140737488355328:=by omega
   rw [J9,au]
   generalize lZ j tp=u at*
   simp [-au,hj,hw2,g1,g2]
 by_cases q:400<e.ak.av.length+(bE e.aL.aA).length*n
 ·rw [if_pos (.inr q)];exact hlt _ (.inl ⟨q,rfl⟩)
 ·rw [if_neg (fun z=>z.elim h0 q)];exact hlt _ (.inr ⟨q,rfl⟩)
end
section
variable (e:dF) (h:fV e) (hm:e.bQ=2) {f:Int} {l:List ByteArray} (hh:iQ f l)
include h hm hh
theorem TK (r:Int)(p:dF×Int)(hp:(r=120∧iY [gL e,vI 100,vI e.ak.At,vI ((min (aS e+gW e) e.ak.av.length:Nat):Int)] [] []=some (kR p))∨
  (r=88∧iY [gL e,vI 100,vI ((aS e-gW e:Nat):Int),vI e.ak.At] [] []=some (kR p))∨
  (r=68∧iY [gL e,vI 100,vI e.ak.At,vI (e.ak.av.length:Int)] [] []=some (kR p))∨
  (r=67∧iY [gL e,vI 99,vI e.ak.At,vI (e.ak.av.length:Int)] [] []=some (kR p))∨
  (r=115∧iY [gL e,vI 99,vI e.ak.At,vI ((min (aS e+gW e) e.ak.av.length:Nat):Int)] [] []=some (kR p))∨
  (r=83∧iY [gL e,vI 99,vI 0,vI (e.ak.av.length:Int)] [] []=some (kR p))∨
  (r=112∧qz [gL e,vI ((min (aS e+1) e.ak.av.length:Nat):Int)] [] []=some (kR p))∨
  (r=80∧qz [gL e,vI e.ak.At] [] []=some (kR p))∨
  (r=126∧qI [gL e] [] []=some (kR p))∨
  (r=117∧iM [gL e] [] []=some (kR p))∨
  ((r=107∨r=45)∧kJ [gL e,aH f l,vI (-1)] [] []=some (kR p))∨
  ((r=106∨r=43)∧kJ [gL e,aH f l,vI 1] [] []=some (kR p))∨
  (r=47∧nu [gL e] [] []=some (kR p))∨
  (r=105∧lX [gL e,vI e.ak.At] [] []=some (kR p))∨
  (r=73∧lX [gL e,vI ((Ak e.ak.av:Nat):Int)] [] []=some (kR p))∨
  (r=97∧lX [gL e,vI ((min (aS e+1) e.ak.av.length:Nat):Int)] [] []=some (kR p))∨
  (r=65∧lX [gL e,vI (e.ak.av.length:Int)] [] []=some (kR p))∨
  (r=114∧p=({e with fC:=114},0))∨(p=dI e∧¬r=120∧¬r=88∧¬r=68∧¬r=67∧¬r=115∧¬r=83∧¬r=112∧¬r=80∧¬r=126∧¬r=117∧¬r=107∧¬r=45∧¬r=106∧¬r=43∧¬r=47∧¬r=105∧¬r=73∧¬r=97∧¬r=65∧¬r=114)):
  nI [gL e,aH f l,vI r] [] []=some (kR p):=by
 obtain⟨a1,a2,a3,a4⟩:=h.aS
 obtain⟨n1,n2,n3⟩:=h.gW
 have e0:=Bg e h
 have w1:=bM (e.ak.At+gW e) (by omega)
 have w2:=bM (e.ak.At-gW e) (by omega)
 have w3:=bM (e.ak.At+1) (by omega)
 have c1:=dw (e.ak.At+gW e) e.ak.av.length (by omega)
 have c2:=dw (e.ak.At-gW e) e.ak.av.length (by omega)
 have c3:=dw (e.ak.At+1) e.ak.av.length (by omega)
 rw [show max 0 (min (e.ak.At+gW e) e.ak.av.length)=((min (aS e+gW e) e.ak.av.length:Nat):Int)from by omega]at c1
 rw [show max 0 (min (e.ak.At-gW e) e.ak.av.length)=((aS e-gW e:Nat):Int)from by omega]at c2
 rw [show max 0 (min (e.ak.At+1) e.ak.av.length)=((min (aS e+1) e.ak.av.length:Nat):Int)from by omega]at c3
 have e2:=Dw e.ak.av (some 0) (aS e) 1 a2 (by omega) (by omega) 94
 rw [←a1,show gN e.ak.av (aS e) 94 1=some (Ak e.ak.av,false)from rfl]at e2
 simp only [mR,Int.natCast_one]at e2
 have e3:=gG e h
 have e4:=jB e h
 generalize ((min (aS e+gW e) e.ak.av.length:Nat):Int)=x1 at*
 generalize ((aS e-gW e:Nat):Int)=x2 at*
 generalize ((min (aS e+1) e.ak.av.length:Nat):Int)=x3 at*
 generalize gW e=n at*
 generalize ((Ak e.ak.av:Nat):Int)=x4 at*
 clear h hh
 generalize hE:nI _ _ _=R
 unfold nI at hE
 rcases hp with⟨rfl,e1⟩|⟨rfl,e1⟩|⟨rfl,e1⟩|⟨rfl,e1⟩|⟨rfl,e1⟩|⟨rfl,e1⟩|⟨rfl,e1⟩|⟨rfl,e1⟩|⟨rfl,e1⟩|⟨rfl,e1⟩|⟨rfl|rfl,e1⟩|⟨rfl|rfl,e1⟩|⟨rfl,e1⟩|⟨rfl,e1⟩|⟨rfl,e1⟩|⟨rfl,e1⟩|⟨rfl,e1⟩|⟨rfl,rfl⟩|⟨rfl,ank,d88,d68,d67,anl,d83,anm,d80,ano,anp,anq,d45,anr,d43,d47,ant,d73,d97,d65,anu⟩
 iterate 19
  ·simp [-au,func267,f267,e0,w1,w2,w3,c1,c2,c3,e1,e2]at hE
   exact hE.symm
 ·simp [-au,func267,f267,e0,e3]at hE
  exact hE.symm
 ·simp [-au,func267,f267,e0,e4,ank,d88,d68,d67,anl,d83,anm,d80,ano,anp,anq,d45,anr,d43,d47,ant,d73,d97,d65,anu]at hE
  exact hE.symm
theorem abd (r:Int)(hu:r=117→iM [gL e] [] []=some (kR (nK e))):nI [gL e,aH f l,vI r] [] []=some (kR (zY e f l r (gW e))):=by
 obtain⟨a1,a2,a3,a4⟩:=h.aS
 refine TK e h hm hh r _ ?_
 unfold zY Jd
 by_cases c0:r=120
 ·rw [if_pos c0]
  have e1:=uI e h hm 100 rfl (aS e) (min (aS e+gW e) e.ak.av.length) (by omega) (by omega)
  simp only [←a1]at e1
  exact(.inl ⟨c0,e1⟩)
 rw [if_neg c0]
 by_cases c1:r=88
 ·rw [if_pos c1]
  have e1:=uI e h hm 100 rfl (aS e-gW e) (aS e) (by omega) (by omega)
  simp only [←a1]at e1
  exact(.inr (.inl ⟨c1,e1⟩))
 rw [if_neg c1]
 by_cases c2:r=68
 ·rw [if_pos c2]
  have e1:=uI e h hm 100 rfl (aS e) e.ak.av.length (by omega) (Nat.le_refl _)
  simp only [←a1]at e1
  exact(.inr (.inr (.inl ⟨c2,e1⟩)))
 rw [if_neg c2]
 by_cases c3:r=67
 ·rw [if_pos c3]
  have e1:=uI e h hm 99 rfl (aS e) e.ak.av.length (by omega) (Nat.le_refl _)
  simp only [←a1]at e1
  exact(.inr (.inr (.inr (.inl ⟨c3,e1⟩))))
 rw [if_neg c3]
 by_cases c4:r=115
 ·rw [if_pos c4]
  have e1:=uI e h hm 99 rfl (aS e) (min (aS e+gW e) e.ak.av.length) (by omega) (by omega)
  simp only [←a1]at e1
  exact(.inr (.inr (.inr (.inr (.inl ⟨c4,e1⟩)))))
 rw [if_neg c4]
 by_cases c5:r=83
 ·rw [if_pos c5]
  have e1:=uI e h hm 99 rfl 0 e.ak.av.length (by omega) (Nat.le_refl _)
  exact(.inr (.inr (.inr (.inr (.inr (.inl ⟨c5,e1⟩))))))
 rw [if_neg c5]
 by_cases c6:r=114
 ·rw [if_pos c6];exact(.inr (.inr (.inr (.inr (.inr (.inr (.inr (.inr (.inr (.inr (.inr (.inr (.inr (.inr (.inr (.inr (.inr (.inl ⟨c6,rfl⟩))))))))))))))))))
 rw [if_neg c6]
 by_cases c7:r=112
 ·rw [if_pos c7]
  have e1:=Wy e h hm (min (aS e+1) e.ak.av.length) (by omega)
  exact(.inr (.inr (.inr (.inr (.inr (.inr (.inl ⟨c7,e1⟩)))))))
 rw [if_neg c7]
 by_cases c8:r=80
 ·rw [if_pos c8]
  have e1:=Wy e h hm (aS e) (by omega)
  simp only [←a1]at e1
  exact(.inr (.inr (.inr (.inr (.inr (.inr (.inr (.inl ⟨c8,e1⟩))))))))
 rw [if_neg c8]
 by_cases c9:r=126
 ·rw [if_pos c9]
  have e1:=abb e h hm
  exact(.inr (.inr (.inr (.inr (.inr (.inr (.inr (.inr (.inl ⟨c9,e1⟩)))))))))
 rw [if_neg c9]
 by_cases c10:r=117
 ·rw [if_pos c10];exact(.inr (.inr (.inr (.inr (.inr (.inr (.inr (.inr (.inr (.inl ⟨c10,hu c10⟩))))))))))
 rw [if_neg c10]
 by_cases c11:r=107∨r=45
 ·rw [if_pos c11]
  have e1:=uf e h hh (-1) (.inr rfl)
  exact(.inr (.inr (.inr (.inr (.inr (.inr (.inr (.inr (.inr (.inr (.inl ⟨c11,e1⟩)))))))))))
 rw [if_neg c11]
 by_cases c12:r=106∨r=43
 ·rw [if_pos c12]
  have e1:=uf e h hh 1 (.inl rfl)
  exact(.inr (.inr (.inr (.inr (.inr (.inr (.inr (.inr (.inr (.inr (.inr (.inl ⟨c12,e1⟩))))))))))))
 rw [if_neg c12]
 by_cases c13:r=47
 ·rw [if_pos c13]
  have e1:=Gx e h (by omega)
  exact(.inr (.inr (.inr (.inr (.inr (.inr (.inr (.inr (.inr (.inr (.inr (.inr (.inl ⟨c13,e1⟩)))))))))))))
 rw [if_neg c13]
 by_cases c14:r=105
 ·rw [if_pos c14]
  have e1:=xY e h hm (aS e) (by omega)
  simp only [←a1]at e1
  exact(.inr (.inr (.inr (.inr (.inr (.inr (.inr (.inr (.inr (.inr (.inr (.inr (.inr (.inl ⟨c14,e1⟩))))))))))))))
 rw [if_neg c14]
 by_cases c15:r=73
 ·rw [if_pos c15]
  have e1:=xY e h hm (Ak e.ak.av) (cK _ _).1
  exact(.inr (.inr (.inr (.inr (.inr (.inr (.inr (.inr (.inr (.inr (.inr (.inr (.inr (.inr (.inl ⟨c15,e1⟩)))))))))))))))
 rw [if_neg c15]
 by_cases c16:r=97
 ·rw [if_pos c16]
  have e1:=xY e h hm (min (aS e+1) e.ak.av.length) (by omega)
  exact(.inr (.inr (.inr (.inr (.inr (.inr (.inr (.inr (.inr (.inr (.inr (.inr (.inr (.inr (.inr (.inl ⟨c16,e1⟩))))))))))))))))
 rw [if_neg c16]
 by_cases c17:r=65
 ·rw [if_pos c17]
  have e1:=xY e h hm e.ak.av.length (Nat.le_refl _)
  exact(.inr (.inr (.inr (.inr (.inr (.inr (.inr (.inr (.inr (.inr (.inr (.inr (.inr (.inr (.inr (.inr (.inl ⟨c17,e1⟩)))))))))))))))))
 rw [if_neg c17]
 exact .inr (.inr (.inr (.inr (.inr (.inr (.inr (.inr (.inr (.inr (.inr (.inr (.inr (.inr (.inr (.inr (.inr (.inr (⟨rfl,c0,c1,c2,c3,c4,c5,c7,c8,c9,c10,fun q=>c11 (.inl q),fun q=>c11 (.inr q),fun q=>c12 (.inl q),fun q=>c12 (.inr q),c13,c14,c15,c16,c17,c6⟩))))))))))))))))))
end
theorem UE (t:List Int)(a n m:Nat)(r:Int):(gN t a r n).isSome=(gN t a r m).isSome:=by
 unfold gN
 repeat' split
 all_goals rfl
theorem aip {fr fh:Int}(h:dN fr fh=true):0≤fh∧fh≤3:=by
 simp only [dN,Bool.or_eq_true,Bool.and_eq_true,beq_iff_eq]at h
 rcases h with h|h
 ·omega
 ·exact bB.1 h.2.2
section
variable (e:dF) (h:fV e) (hm:e.bQ=2) {f:Int} {l:List ByteArray} (hh:iQ f l)
include h hm hh
theorem ady (r:Int)(hr:dn r=true)(hu:e.Op=0→r=117→iM [gL e] [] []=some (kR (nK e))):gY [gL e,aH f l,vI r] [] []=some (kR (tV e f l r (gW e))):=by
 obtain⟨a1,a2,a3,a4⟩:=h.aS
 obtain⟨n1,n2,n3⟩:=h.gW
 have e0:=gG e h
 have eb:=jB e h
 have eh:=Tt r
 have hc:=h.cnt
 have hr0:¬r=0:=fun q=>by rw [q]at hr;exact absurd hr (by decide)
 have em:=Dw e.ak.av (some 0) (aS e) 1 a2 (by omega) (by omega) r
 rw [←a1,Int.natCast_one]at em
 have hms:=UE e.ak.av (aS e) 1 (gW e) r
 unfold tV Gn
 by_cases c1:iq r 49 57=true∨(r=48∧¬e.bD=0)
 ·rw [if_pos c1]
  have w1:=bM (e.bD*10) (by omega)
  unfold Jc
  simp only
  clear hms em
  rcases c1 with c1|⟨rfl,c2⟩
  ·obtain⟨c3,c4⟩:=bB.1 c1
   have w2:=bM (e.bD*10+r) (by omega)
   have w3:=bM (e.bD*10+r-48) (by omega)
   have ec:=dw (e.bD*10+r-48) 999 (by omega)
   rw [show max 0 (min (e.bD*10+r-48) 999)=min (10*e.bD+r-48) 999 by omega]at ec
   clear h hh
   generalize hE:gY _ _ _=R
   simp [gY, -au,func205,f205,e0,w1,w2,w3,ec,c3,c4]at hE
   exact hE.symm
  ·have w2:=bM (e.bD*10+48) (by omega)
   have w3:=bM (e.bD*10+48-48) (by omega)
   have ec:=dw (e.bD*10+48-48) 999 (by omega)
   rw [show max 0 (min (e.bD*10+48-48) 999)=min (10*e.bD+48-48) 999 by omega]at ec
   have c5:0<e.bD:=by omega
   generalize min (10*e.bD+48-48) 999=y at*
   generalize hz:e.bD*10+48=z at*
   clear h hh
   generalize hE:gY _ _ _=R
   simp [gY, -au,func205,f205,e0,w1,w2,w3,ec,c5,hz]at hE
   exact hE.symm
 rw [if_neg c1]
 have c2:¬(49≤r∧r≤57):=fun q=>c1 (.inl (bB.2 q))
 have c3:r=48→e.bD≤0:=fun q=>by have:=fun z=>c1 (.inr ⟨q,z⟩);omega
 by_cases c5:0≤iZ r
 ·rw [if_pos c5]
  have c4:¬r=48:=fun q=>by rw [q]at c5;exact absurd c5 (by decide)
  generalize iZ r=how at*
  simp only
  clear h hh hms em
  generalize hE:gY _ _ _=R
  unfold gY at hE
  by_cases d1:49≤r
  ·have d2:¬r≤57:=fun q=>c2 ⟨d1,q⟩
   simp [-au,func205,f205,e0,eh,c4,c5,d1,d2]at hE
   exact hE.symm
  ·simp [-au,func205,f205,e0,eh,c4,c5,d1]at hE
   exact hE.symm
 rw [if_neg c5]
 by_cases c6:r=59
 ·rw [if_pos c6]
  subst c6
  have e4:=LG e h hm e.dY e.bL (aip h.find)
  rw [show iZ 59= -1 from by decide]at eh
  simp only
  generalize (if e.dY=0 then dI e else qZ e e.dY e.bL (gW e))=p at*
  clear h hh hms em
  generalize hE:gY _ _ _=R
  simp [gY, -au,func205,f205,e0,eh,e4]at hE
  exact hE.symm
 rw [if_neg c6]
 by_cases c7:r=44
 ·rw [if_pos c7]
  subst c7
  have hb:0≤uG e.bL∧uG e.bL≤3:=by unfold uG;repeat' split<;>omega
  have e4:=LG e h hm e.dY (uG e.bL) hb
  have e5:=adg e.bL
  rw [show iZ 44= -1 from by decide]at eh
  simp only
  generalize (if e.dY=0 then dI e else qZ e e.dY (uG e.bL) (gW e))=p at*
  generalize uG e.bL=bh at*
  clear h hh hms em
  generalize hE:gY _ _ _=R
  simp [gY, -au,func205,f205,e0,eh,e4,e5]at hE
  exact hE.symm
 rw [if_neg c7]
 have c4:r=48→¬0<e.bD:=fun q=>by have:=c3 q;omega
 by_cases c8:e.Op=0∧opC r=true
 ·rw [if_pos c8]
  obtain⟨d1,d2⟩:=c8
  have hq:r=100∨r=99∨r=121:=by simp only [opC,Bool.or_eq_true,beq_iff_eq]at d2;omega
  simp only
  clear h hh hms em
  generalize hE:gY _ _ _=R
  unfold gY at hE
  simp only [gL,gO,hO,d1]at e0 hE
  rcases hq with rfl|rfl|rfl
  ·rw [show iZ 100= -1 from by decide]at eh
   simp [-au,func205,f205,e0,eh]at hE
   exact hE.symm
  ·rw [show iZ 99= -1 from by decide]at eh
   simp [-au,func205,f205,e0,eh]at hE
   exact hE.symm
  ·rw [show iZ 121= -1 from by decide]at eh
   simp [-au,func205,f205,e0,eh]at hE
   exact hE.symm
 rw [if_neg c8]
 simp only
 have anv:e.Op=0→¬r=100∧¬r=99∧¬r=121:=fun q=>⟨fun z=>c8 ⟨q,by rw [z];rfl⟩,fun z=>c8 ⟨q,by rw [z];rfl⟩,fun z=>c8 ⟨q,by rw [z];rfl⟩⟩
 have alN:¬e.Op=48:=fun z=>by
  rcases h.op with q|q
  ·omega
  ·rw [z]at q;exact absurd q (by decide)
 have go:∀p:dF×Int,
   ((¬e.Op=0∧r=e.Op∧iY [gL e,vI e.Op,vI 0,vI e.ak.av.length] [] []=some (kR p))∨
    (¬(¬e.Op=0∧r=e.Op)∧
     ((∃q,gN e.ak.av (aS e) r 1=some q∧jI [gL e,vI r] [] []=some (kR p))∨
      (gN e.ak.av (aS e) r 1=none∧¬e.Op=0∧p=dI e)∨
      (gN e.ak.av (aS e) r 1=none∧e.Op=0∧nI [gL e,aH f l,vI r] [] []=some (kR p)))))→
   gY [gL e,aH f l,vI r] [] []=some (kR p):=by
  intro p hp
  generalize gN e.ak.av (aS e) r 1=mo at*
  generalize dI e=pb at*
  generalize iZ r=how at*
  have tests:((49≤r∧¬r≤57)∨¬49≤r)∧((r=48∧¬0<e.bD)∨¬r=48):=by
   refine⟨?_,?_⟩
   ·by_cases q:49≤r
    ·exact .inl ⟨q,fun z=>c2 ⟨q,z⟩⟩
    ·exact .inr q
   ·by_cases q:r=48
    ·exact .inl ⟨q,c4 q⟩
    ·exact .inr q
  clear h hh hms c1 c2 c3 c4 hc hr
  generalize hE:gY _ _ _=R
  unfold gY at hE
  obtain⟨t1,t2⟩:=tests
  rcases hp with⟨p1,p2,p3⟩|⟨p1,p2⟩
  ·subst p2
   rcases t1 with⟨t1,t3⟩|t1<;>rcases t2 with⟨t2,t4⟩|t2
   ·omega
   ·simp [-au,func205,f205,e0,eh,c5,c6,c7,p1,p3,t1,t3,t2]at hE
    exact hE.symm
   ·exact absurd t2 alN
   ·simp [-au,func205,f205,e0,eh,c5,c6,c7,p1,p3,t1,t2]at hE
    exact hE.symm
  ·by_cases d1:e.Op=0
   ·obtain⟨o1,o2,o3⟩:=anv d1
    rcases p2 with⟨q,rfl,p3⟩|⟨-,p3, -⟩|⟨rfl, -,p3⟩
    ·simp only [mR]at em
     simp only [gL,gO,hO,d1]at e0 p3 hE
     rcases t1 with⟨t1,t3⟩|t1<;>rcases t2 with⟨t2,t4⟩|t2
     ·omega
     ·simp [-au,func205,f205,e0,eh,em,c5,c6,c7,p3,o1,o2,o3,t1,t3,t2]at hE
      exact hE.symm
     ·subst t2
      simp [-au,func205,f205,e0,eh,em,c5,c6,c7,p3,o1,o2,o3,t4]at hE
      exact hE.symm
     ·simp [-au,func205,f205,e0,eh,em,c5,c6,c7,p3,o1,o2,o3,t1,t2]at hE
      exact hE.symm
    ·exact absurd d1 p3
    ·simp only [mR]at em
     simp only [gL,gO,hO,d1]at e0 p3 hE
     rcases t1 with⟨t1,t3⟩|t1<;>rcases t2 with⟨t2,t4⟩|t2
     ·omega
     ·simp [-au,func205,f205,e0,eh,em,c5,c6,c7,p3,o1,o2,o3,t1,t3,t2]at hE
      exact hE.symm
     ·subst t2
      simp [-au,func205,f205,e0,eh,em,c5,c6,c7,p3,o1,o2,o3,t4]at hE
      exact hE.symm
     ·simp [-au,func205,f205,e0,eh,em,c5,c6,c7,p3,o1,o2,o3,t1,t2]at hE
      exact hE.symm
   ·have d2:¬r=e.Op:=fun q=>p1 ⟨d1,q⟩
    rcases p2 with⟨q,rfl,p3⟩|⟨rfl, -,rfl⟩|⟨-,p3, -⟩
    ·simp only [mR]at em
     rcases t1 with⟨t1,t3⟩|t1<;>rcases t2 with⟨t2,t4⟩|t2
     ·omega
     ·simp [-au,func205,f205,e0,eh,em,c5,c6,c7,p3,d1,d2,t1,t3,t2]at hE
      exact hE.symm
     ·subst t2
      simp [-au,func205,f205,e0,eh,em,c5,c6,c7,p3,d1,d2,t4]at hE
      exact hE.symm
     ·simp [-au,func205,f205,e0,eh,em,c5,c6,c7,p3,d1,d2,t1,t2]at hE
      exact hE.symm
    ·simp only [mR]at em
     rcases t1 with⟨t1,t3⟩|t1<;>rcases t2 with⟨t2,t4⟩|t2
     ·omega
     ·simp [-au,func205,f205,e0,eh,em,eb,c5,c6,c7,d1,d2,t1,t3,t2]at hE
      exact hE.symm
     ·subst t2
      simp [-au,func205,f205,e0,eh,em,eb,c5,c6,c7,d1,d2,t4]at hE
      exact hE.symm
     ·simp [-au,func205,f205,e0,eh,em,eb,c5,c6,c7,d1,d2,t1,t2]at hE
      exact hE.symm
    ·exact absurd p3 d1
 by_cases c9:¬e.Op=0∧r=e.Op
 ·rw [if_pos c9]
  have e4:=uI e h hm r (by rw [c9.2];exact h.op.resolve_left c9.1) 0 e.ak.av.length (by omega) (Nat.le_refl _)
  rw [Int.natCast_zero]at e4
  refine go _ (.inl ⟨c9.1,c9.2,?_⟩)
  rw [←c9.2]
  exact e4
 rw [if_neg c9]
 cases hm2:gN e.ak.av (aS e) r (gW e)with
 | some q=>
  rw [hm2]at hms
  obtain⟨q1,hq1⟩:=Option.isSome_iff_exists.1 hms
  have e4:=xZ e h hm r
  unfold lY at e4
  rw [hm2]at e4
  exact go _ (.inr ⟨c9, .inl ⟨q1,hq1,e4⟩⟩)
 | none=>
  rw [hm2]at hms
  have hn1:gN e.ak.av (aS e) r 1=none:=by
   cases hz:gN e.ak.av (aS e) r 1 with
   | none=>rfl
   | some q=>rw [hz]at hms;cases hms
  simp only
  by_cases d1:e.Op=0
  ·rw [if_neg (fun q=>q d1)]
   exact go _ (.inr ⟨c9, .inr (.inr ⟨hn1,d1,abd e h hm hh r (hu d1)⟩)⟩)
  ·rw [if_pos d1]
   exact go _ (.inr ⟨c9, .inr (.inl ⟨hn1,d1,rfl⟩)⟩)
end
section
variable (e:dF) (h:fV e) (hm:e.bQ=2) {f:Int} {l:List ByteArray} (hh:iQ f l)
include h hm hh
theorem OW (hw:e.fC=0)(k r:Int)(p:dF×Int)(hp:(k=1∧gY [gL e,aH f l,vI r] [] []=some (kR p))∨
  (k=4∧p=(e,2))∨(k=7∧e.bD=0∧e.Op=0∧p=dI e)∨(k=7∧¬e.bD=0∧p=(sj e e.iO,0))∨(k=7∧e.bD=0∧¬e.Op=0∧p=(sj e e.iO,0))∨
  (k=8∧kJ [gL e,aH f l,vI (-1)] [] []=some (kR p))∨(k=9∧kJ [gL e,aH f l,vI 1] [] []=some (kR p))∨
  ((k=11∨k=5)∧jI [gL e,vI 104] [] []=some (kR p))∨(k=10∧jI [gL e,vI 108] [] []=some (kR p))∨
  (k=12∧jI [gL e,vI 48] [] []=some (kR p))∨(k=13∧jI [gL e,vI 36] [] []=some (kR p))∨
  (k=14∧iY [gL e,vI 100,vI e.ak.At,vI ((min (aS e+gW e) e.ak.av.length:Nat):Int)] [] []=some (kR p))∨
  (k=2∧r=99∧p=(e,3))∨(k=2∧r=108∧p=(e,5))∨(k=2∧r=100∧e.ak.av.length=0∧p=(e,4))∨(k=2∧r=100∧¬e.ak.av.length=0∧p=dI e)∨
  (k=2∧r=114∧nu [gL e] [] []=some (kR p))∨
  (k=2∧p=dI e∧¬r=99∧¬r=108∧¬r=100∧¬r=114)∨
  (p=dI e∧¬k=1∧¬k=4∧¬k=7∧¬k=8∧¬k=9∧¬k=11∧¬k=5∧¬k=10∧¬k=12∧¬k=13∧¬k=14∧¬k=2)):
  jS [gL e,aH f l,aK k r] [] []=some (kR p):=by
 obtain⟨a1,a2,a3,a4⟩:=h.aS
 obtain⟨n1,n2,n3⟩:=h.gW
 have e0:=Bg e h
 have w1:=bM (e.ak.At+gW e) (by omega)
 have c1:=dw (e.ak.At+gW e) e.ak.av.length (by omega)
 rw [show max 0 (min (e.ak.At+gW e) e.ak.av.length)=((min (aS e+gW e) e.ak.av.length:Nat):Int)from by omega]at c1
 have e3:=gG e h
 have e4:=jB e h
 generalize ((min (aS e+gW e) e.ak.av.length:Nat):Int)=x1 at*
 generalize gW e=n at*
 clear h hh
 generalize hE:jS _ _ _=R
 unfold jS at hE
 simp only [dI,sj]at hp e4
 simp only [gL,gO,hO,hw]at e0 e3 e4 hp hE
 rcases hp with⟨rfl,e1⟩|⟨rfl,rfl⟩|⟨rfl,z1,z2,rfl⟩|⟨rfl,z1,rfl⟩|⟨rfl,z1,z2,rfl⟩|⟨rfl,e1⟩|⟨rfl,e1⟩|⟨rfl|rfl,e1⟩|⟨rfl,e1⟩|⟨rfl,e1⟩|⟨rfl,e1⟩|⟨rfl,e1⟩|⟨rfl,rfl,rfl⟩|⟨rfl,rfl,rfl⟩|⟨rfl,rfl,z1,rfl⟩|⟨rfl,rfl,z1,rfl⟩|⟨rfl,rfl,e1⟩|⟨rfl,rfl,d1,d2,d3,d4⟩|⟨rfl,d1,d2,d3,d4,d5,d6,d7,d8,d9,d10,d11,d12⟩
 ·simp [-au,func116,f116,e1]at hE
  exact hE.symm
 ·simp [-au,func116,f116,e3]at hE
  simp only [kR,gL,gO,hO,hw]
  exact hE.symm
 ·simp only [gL,gO,hO,z1,z2]at e4 hE
  simp [-au,func116,f116,e4]at hE
  exact hE.symm
 ·simp [-au,func116,f116,e4,z1]at hE
  exact hE.symm
 ·simp only [gL,gO,hO,z1]at e4 hE
  simp [-au,func116,f116,e4,z2]at hE
  exact hE.symm
 iterate 7
  ·simp [-au,func116,f116,e1]at hE
   exact hE.symm
 ·simp [-au,func116,f116,e0,w1,c1,e1]at hE
  exact hE.symm
 iterate 2
  ·simp [-au,func116,f116,e3]at hE
   simp only [kR,gL,gO,hO,hw]
   exact hE.symm
 ·have z2:e.ak.av= []:=List.length_eq_zero_iff.1 z1
  simp only [gL,gO,hO,z2,aZ]at e3 hE
  simp [-au,func116,f116,e3]at hE
  simp only [kR,gL,gO,hO,hw,z2,aZ]
  exact hE.symm
 ·have z2:¬e.ak.av= []:=fun q=>z1 (by rw [q];rfl)
  simp [-au,func116,f116,e4,z2]at hE
  exact hE.symm
 ·simp [-au,func116,f116,e1]at hE
  exact hE.symm
 ·simp [-au,func116,f116,e4,d1,d2,d3,d4]at hE
  exact hE.symm
 ·simp [-au,func116,f116,e4,d1,d2,d3,d4,d5,d6,d7,d8,d9,d10,d11,d12]at hE
  exact hE.symm
theorem UF (k r:Int)(hk:jk k r=true)(hu:k=1→e.fC=0→e.Op=0→r=117→iM [gL e] [] []=some (kR (nK e))):jS [gL e,aH f l,aK k r] [] []=some (kR (if ¬e.fC=0 then xS e k r (gW e)else if ¬k=1 then xU e f l k r (gW e)else tV e f l r (gW e))):=by
 by_cases hw:e.fC=0
 ·rw [if_neg (fun q=>q hw)]
  refine OW e h hm hh hw k r _ ?_
  by_cases c1:k=1
  ·rw [if_neg (fun q=>q c1)]
   refine .inl ⟨c1,ady e h hm hh r ?_ (hu c1 hw)⟩
   subst c1;simpa [jk] using hk
  rw [if_pos c1]
  unfold xU
  by_cases c4:k=4
  ·rw [if_pos c4];exact .inr (.inl ⟨c4,rfl⟩)
  rw [if_neg c4]
  by_cases c7:k=7
  ·rw [if_pos c7]
   by_cases z1:e.bD=0
   ·by_cases z2:e.Op=0
    ·rw [if_pos ⟨z1,z2,h.opz.resolve_left (fun q=>q z2),hw⟩]
     exact .inr (.inr (.inl ⟨c7,z1,z2,rfl⟩))
    ·rw [if_neg (fun q=>z2 q.2.1)]
     exact .inr (.inr (.inr (.inr (.inl ⟨c7,z1,z2,rfl⟩))))
   ·rw [if_neg (fun q=>z1 q.1)]
    exact .inr (.inr (.inr (.inl ⟨c7,z1,rfl⟩)))
  rw [if_neg c7]
  refine .inr (.inr (.inr (.inr (.inr ?_))))
  by_cases c8:k=8
  ·rw [if_pos c8];exact .inl ⟨c8,uf e h hh (-1) (.inr rfl)⟩
  rw [if_neg c8]
  by_cases c9:k=9
  ·rw [if_pos c9];exact .inr (.inl ⟨c9,uf e h hh 1 (.inl rfl)⟩)
  rw [if_neg c9]
  refine .inr (.inr ?_)
  by_cases c11:k=11∨k=5
  ·rw [if_pos c11];exact .inl ⟨c11,xZ e h hm 104⟩
  rw [if_neg c11]
  by_cases c10:k=10
  ·rw [if_pos c10];exact .inr (.inl ⟨c10,xZ e h hm 108⟩)
  rw [if_neg c10]
  by_cases c12:k=12
  ·rw [if_pos c12];exact .inr (.inr (.inl ⟨c12,xZ e h hm 48⟩))
  rw [if_neg c12]
  by_cases c13:k=13
  ·rw [if_pos c13];exact .inr (.inr (.inr (.inl ⟨c13,xZ e h hm 36⟩)))
  rw [if_neg c13]
  refine .inr (.inr (.inr (.inr ?_)))
  by_cases c14:k=14
  ·rw [if_pos c14]
   obtain⟨a1,a2,a3,a4⟩:=h.aS
   have e1:=uI e h hm 100 rfl (aS e) (min (aS e+gW e) e.ak.av.length) (by omega) (by omega)
   rw [←a1]at e1
   exact .inl ⟨c14,e1⟩
  rw [if_neg c14]
  refine .inr ?_
  by_cases c2:k=2
  ·rw [if_pos c2]
   by_cases r1:r=99
   ·rw [if_pos r1];exact .inl ⟨c2,r1,rfl⟩
   rw [if_neg r1]
   by_cases r2:r=108
   ·rw [if_pos r2];exact .inr (.inl ⟨c2,r2,rfl⟩)
   rw [if_neg r2]
   refine .inr (.inr ?_)
   by_cases r3:r=100
   ·by_cases hz:e.ak.av.length=0
    ·rw [if_pos ⟨r3,hz⟩];exact .inl ⟨c2,r3,hz,rfl⟩
    ·rw [if_neg (fun q=>hz q.2),if_neg (by omega)];exact .inr (.inl ⟨c2,r3,hz,rfl⟩)
   rw [if_neg (fun q=>r3 q.1)]
   by_cases r4:r=114
   ·rw [if_pos r4];exact .inr (.inr (.inl ⟨c2,r4,Gx e h (by omega)⟩))
   rw [if_neg r4]
   exact .inr (.inr (.inr (.inl ⟨c2,rfl,r1,r2,r3,r4⟩)))
  rw [if_neg c2]
  exact .inr (.inr (.inr (.inr (.inr (.inr ⟨rfl,c1,c4,c7,c8,c9,fun q=>c11 (.inl q),fun q=>c11 (.inr q),c10,c12,c13,c14,c2⟩)))))
 ·rw [if_pos hw]
  have e1:=adx e h hm k r hw hk
  generalize xS e k r (gW e)=p at*
  clear h hh
  generalize hE:jS _ _ _=R
  simp [jS, -au,func116,f116,e1,hw]at hE
  exact hE.symm
end
section
variable (e:dF) (h:fV e) {f:Int} {l:List ByteArray} (hh:iQ f l)
include h hh
theorem aiq (k r:Int)(hk:jk k r=true)(hm:e.bQ=1∨e.bQ=2)(hu:e.bQ=2→k=1→e.fC=0→e.Op=0→r=117→iM [gL e] [] []=some (kR (nK e))):ng [gL e,aH f l,aK k r] [] []=some (kR (viE e f l k r)):=by
 obtain⟨a1,a2,a3,a4⟩:=h.aS
 have ea:=tZ e (fA.2 h)
 have eb:=uE f l hh
 have ec:=rA k r
 rw [hk]at ec
 unfold viE
 by_cases m1:e.bQ=1
 ·rw [if_pos m1]
  have e1:=Js e h hh k r hk (.inr m1)
  cases hp:pO e f l k r with
  | some p=>
   rw [hp]at e1
   simp only
   clear h hh
   generalize hE:ng _ _ _=R
   unfold ng at hE
   simp only [gL,gO,hO,m1]at ea e1 hE
   simp [-au,func40,f40,ea,eb,ec,e1]at hE
   exact hE.symm
  | none=>
   rw [hp]at e1
   simp only [kRo,Ji,vC,aZ,show aC []= []from rfl,show aG []= []from rfl]at e1
   simp only
   by_cases c7:k=7
   ·rw [if_pos c7]
    subst c7
    have e2:=gG e h
    have w1:=bM (e.ak.At-1) (by omega)
    have c1:=dw (e.ak.At-1) e.ak.av.length (by omega)
    rw [show max 0 (min (e.ak.At-1) e.ak.av.length)=max (e.ak.At-1) 0 by omega]at c1
    have e5:e.bD=e.bD∧e.Op=0∧e.bN=0∧e.fC=0:=by
     have:=h.cmd.resolve_left (by omega)
     exact⟨rfl,this.1,this.2.2,this.2.1⟩
    obtain⟨-,o1,o2,o3⟩:=e5
    have e6:=wh e
    unfold ajn
    clear h hh
    generalize hE:ng _ _ _=R
    unfold ng at hE
    simp only [gL,gO,hO,m1,o1,o2,o3]at ea e1 e2 e6 hE
    simp [-au,func40,f40,ea,eb,ec,e1,e2,e6,w1,c1]at hE
    simp only [kR,gL,gO,hO,o1,o2,o3]
    exact hE.symm
   ·rw [if_neg c7]
    have e2:=jB e h
    generalize dI e=p at*
    clear h hh
    generalize hE:ng _ _ _=R
    unfold ng at hE
    simp only [gL,gO,hO,m1]at ea e1 e2 hE
    simp [-au,func40,f40,ea,eb,ec,e1,e2,c7]at hE
    exact hE.symm
 rw [if_neg m1]
 have m2:e.bQ=2:=hm.resolve_left m1
 have e1:=UF e h m2 hh k r hk (hu m2)
 generalize (if ¬e.fC=0 then xS e k r (gW e)else if ¬k=1 then xU e f l k r (gW e)else tV e f l r (gW e))=p at*
 clear h hh
 generalize hE:ng _ _ _=R
 unfold ng at hE
 simp only [gL,gO,hO,m2]at ea e1 hE
 simp [-au,func40,f40,ea,eb,ec,e1]at hE
 exact hE.symm
end
@[simp] theorem aj7 (P:Program)(s:S)(n:TypeId)(ps:Array (Nat×Operand)):jh P s (.build n ps)=bnd (P.underlying n) fun d=>bnd (zi d) fun fs=>grd (jm P n=true) (bnd (jO P n) fun z=>bnd (bH (oO s) ps.toList) fun vs=>bnd (rV P fs z vs) fun cs=>some (.agg cs)):=id rfl
@[simp] theorem akK (P:Program)(s:S)(c x y:Operand):jh P s (.pick c x y)=bnd (s.ev c) fun c=>bnd (ER c) fun b=>s.ev (if b then x else y):=id rfl
def abe (l:List ByteArray)(sub:List UInt8)(i:Nat):Bool:=Lib.contains (l.getD i ⟨#[]⟩).data.toList sub
theorem abf {l:List ByteArray}{i:Nat}(h:i<l.length):l.getD i ⟨#[]⟩=l[i]:=by rw [List.getD_eq_getElem?_getD,List.getElem?_eq_getElem h];rfl
theorem UG {f:Int}{sub:List UInt8}{fr:Int}{l:List ByteArray}(n0:Nat):∀n,n0≤n→(∀i,n0≤i→i<n→fr<f+i)→jc f sub fr l n=jc f sub fr l n0
 | n,h,hs=>by
  induction n with
  | zero=>rw [show n0=0 by omega]
  | succ n ih=>
   by_cases e:n0=n+1
   ·rw [e]
   ·have e2:jc f sub fr l (n+1)=jc f sub fr l n:=by
     show(if f+n≤fr∧(l[n]?.map fun s=>Lib.contains s.data.toList sub)=some true then f+n else jc f sub fr l n)=_
     exact if_neg (by have:=hs n (by omega) (by omega);omega)
    rw [e2]
    exact ih (by omega) (fun i h1 h2=>hs i h1 (by omega))
theorem KR {f:Int}{sub:List UInt8}{fr:Int}{l:List ByteArray}:∀n:Nat,(∀i:Nat,i<n→f+i≤fr)→n≤l.length→
  (jc f sub fr l n=0∧∀i,i<n→abe l sub i=false)∨(∃i:Nat,i<n∧abe l sub i=true∧(∀j,i<j→j<n→abe l sub j=false)∧jc f sub fr l n=f+i)
 | 0,_,_=> .inl ⟨rfl,fun i h=>absurd h (Nat.not_lt_zero _)⟩
 | n+1,h1,h2=>by
  have hn:n<l.length:=by omega
  have hh:abe l sub n=Lib.contains l[n].data.toList sub:=by unfold abe;rw [abf hn]
  unfold jc
  rw [List.getElem?_eq_getElem hn]
  cases hc:abe l sub n
  ·rw [if_neg (by rw [hh]at hc;simp [hc])]
   rcases KR (f:=f) (sub:=sub) (fr:=fr) (l:=l) n (fun i hi=>h1 i (by omega)) (by omega)with⟨q1,q2⟩|⟨i,q1,q2,q3,q4⟩
   ·refine .inl ⟨q1,fun i hi=>?_⟩
    by_cases e:i=n
    ·rw [e];exact hc
    ·exact q2 i (by omega)
   ·refine .inr ⟨i,by omega,q2,fun j hj hj2=>?_,q4⟩
    by_cases e:j=n
    ·rw [e];exact hc
    ·exact q3 j hj (by omega)
  ·rw [hh]at hc
   rw [if_pos ⟨h1 n (by omega),by simp [hc]⟩]
   exact .inr ⟨n,by omega,by rw [hh];exact hc,fun j hj hj2=>by omega,rfl⟩
theorem adz (s t:ByteArray)(hs:s.size<4294967281):lD [V.v (.string s),V.v (.string t)] [] []=some ⟨V.v (.bool (Lib.contains s.data.toList t.data.toList)),[],[]⟩:=by
 unfold lD
 simp only
 rw [if_pos hs]
theorem aeI (s t:ByteArray)(hs:s.size<4294967281):rJ [V.v (.string s),V.v (.string t)] [] []=some ⟨vI (Lib.index s.data.toList t.data.toList),[],[]⟩:=by
 unfold rJ
 simp only
 rw [if_pos hs]
theorem abg (f:Int)(l:List ByteArray)(hh:iQ f l)(s:ByteArray)(fr:Int)(hfr: -2≤fr∧fr≤2000000000):zO [.agg [vI f, .aM (some 0) (strs l)],V.v (.string s),vI fr,vI (-1),V.v (.bool false)] [] []=some ⟨vI (jc f s.data.toList fr l l.length),[],[]⟩:=by
 have h1:=hh.first
 have h2:=hh.len
 have e1:=EH f l hh
 have w1:=bM (f+l.length) (by omega)
 have w2:=bM (f+l.length-1) (by omega)
 obtain⟨n0,hn0,hle,hup,hdn⟩:∃n0:Nat,n0≤l.length∧(∀i:Nat,i<n0→f+i≤fr)∧(∀i:Nat,n0≤i→i<l.length→fr<f+i)∧((n0=0∧min fr (f+l.length-1)<f)∨(0<n0∧min fr (f+l.length-1)=f+n0-1)):=by
  by_cases c:fr<f
  ·exact⟨0,by omega,fun i hi=>by omega,fun i _ _=>by omega, .inl ⟨rfl,by omega⟩⟩
  ·refine⟨min (fr-f+1).toNat l.length,by omega,fun i hi=>by omega,fun i _ _=>by omega,?_⟩
   by_cases c2:l.length=0
   ·exact .inl ⟨by omega,by omega⟩
   ·exact .inr ⟨by omega,by omega⟩
 rw [UG n0 l.length hn0 hup]
 have ge:∀i (hi:i<l.length),lD [V.v (.string (l[i])),V.v (.string s)] [] []=some ⟨V.v (.bool (abe l s.data.toList i)),[],[]⟩:=fun i hi=>by
  have:=hh.each _ (List.getElem_mem hi)
  rw [adz _ _ (by omega)]
  unfold abe
  rw [abf hi]
 generalize hE:zO _ _ _=R
 simp [zO,func173,f173,e1,w1,w2]at hE
 generalize hm:min fr (f+ ↑l.length-1)=m0 at*
 have inl:∀x:Int,xu [vI x,vI f,vI (f+ ↑l.length-1)] [] []=some ⟨V.v (.bool (iq x f (f+ ↑l.length-1))),[],[]⟩:=fun x=>dG _ _ _
 generalize hla:f+ ↑l.length-1=la at*
 rcases KR (f:=f) (sub:=s.data.toList) (fr:=fr) (l:=l) n0 hle hn0 with⟨q1,q2⟩|⟨i,q1,q2,q3,q4⟩
 ·rw [q1]
  rw [aF (fun j=> .on ⟨[(12,V.v (.int .i64 (m0-j))),(11,V.v (.int .i64 la)),(5, .ref 5 0),(4,V.v (.bool false)),(3,V.v (.int .i64 ((-1)))),(1,V.v (.string s))],[(5,[vI f, .aM (some 0) (strs l)])],[],[]⟩) n0 ?_ ?_]at hE
  ·have hno:iq (m0-n0) f la=false:=by
    cases hq:iq (m0-n0) f la
    ·rfl
    ·have:=bB.1 hq;omega
   simp [inl,hno]at hE
   exact hE.symm
  ·simp
  ·intro j hj
   have hi:n0-1-j<l.length:=by omega
   have g1:=ge (n0-1-j) hi
   rw [q2 _ (by omega)]at g1
   have hin:iq (m0-j) f la=true:=bB.2 (by omega)
   have hx:m0-j-f=((n0-1-j:Nat):Int):=by omega
   have w3:=bM ((n0-1-j:Nat):Int) (by omega)
   have w4:=bM (m0-j+ -1) (by omega)
   have hs:m0-((j+1:Nat):Int)=m0-j+ -1:=by omega
   simp only [gL,gO,hO,hs]
   generalize m0-(j:Int)=x at*
   have hix:((n0-1-j:Nat):Int)<l.length:=by omega
   generalize n0-1-j=i at*
   simp [inl,hin,hx,w3,w4,hi,hix,l7 hi,g1]
 ·rw [q4]
  rw [aF (fun j=> .on ⟨[(12,V.v (.int .i64 (m0-j))),(11,V.v (.int .i64 la)),(5, .ref 5 0),(4,V.v (.bool false)),(3,V.v (.int .i64 ((-1)))),(1,V.v (.string s))],[(5,[vI f, .aM (some 0) (strs l)])],[],[]⟩) (n0-1-i) ?_ ?_]at hE
  ·have hi:i<l.length:=by omega
   have g1:=ge i hi
   rw [q2]at g1
   have hx0:m0-((n0-1-i:Nat):Int)=f+i:=by omega
   rw [hx0]at hE
   have hin:iq (f+i) f la=true:=bB.2 (by omega)
   have hx:f+(i:Int)-f=i:=by omega
   have w3:=bM (i:Int) (by omega)
   have hix:(i:Int)<l.length:=by omega
   generalize hy:f+(i:Int)=y at*
   simp [inl,hin,hx,w3,hi,hix,l7 hi,g1]at hE
   exact hE.symm
  ·simp
  ·intro j hj
   have hi:n0-1-j<l.length:=by omega
   have g1:=ge (n0-1-j) hi
   rw [q3 _ (by omega) (by omega)]at g1
   have hin:iq (m0-j) f la=true:=bB.2 (by omega)
   have hx:m0-j-f=((n0-1-j:Nat):Int):=by omega
   have w3:=bM ((n0-1-j:Nat):Int) (by omega)
   have w4:=bM (m0-j+ -1) (by omega)
   have hs:m0-((j+1:Nat):Int)=m0-j+ -1:=by omega
   simp only [gL,gO,hO,hs]
   generalize m0-(j:Int)=x at*
   have hix:((n0-1-j:Nat):Int)<l.length:=by omega
   generalize n0-1-j=i' at*
   simp [inl,hin,hx,w3,w4,hi,hix,l7 hi,g1]
theorem TL (s:ByteArray)(hs:s.size≤65536):∃b,yS [V.v (.string s)] [] []=some ⟨.fT [.own 0,V.v (.bool b)],[],[(0,ints (su s))]⟩:=by
 have hr:=tO s.data.toList
 have e1:=Ls s _ _ hr hs
 refine⟨(qY s.data.toList).isEmpty,e1.trans ?_⟩
 unfold su
 by_cases hz:qY s.data.toList= []
 ·have hz':(qY s.data.toList).isEmpty=true:=by rw [hz];rfl
  rw [if_pos hz,if_pos hz']
 ·have hz':¬(qY s.data.toList).isEmpty=true:=by simpa using hz
  rw [if_neg hz,if_neg hz']
  rfl
section
variable (e:dF) (h:fV e) {f:Int} {l:List ByteArray} (hh:iQ f l)
include h hh
theorem adA (n:Int)(q:List Int)(hm:e.bQ=3)(hq:q.all dn=true)(hq2:q.length≤41)(hn:n=0∨(f≤n∧n≤f+l.length-1)):vP [gL e,aH f l,vI n, .aM (some 7) (ints q)] [] []=some (sR (nA e f l n q)):=by
 have h1:=hh.first
 have h2:=hh.len
 have e1:=SH e (fA.2 h)
 have e2:=eP e h
 unfold nA
 by_cases Kq:q.length≤40
 ·rw [if_pos Kq]
  have akL:¬(40:Int)<q.length:=by omega
  have e3:=Jo f l hh n
  have e4:=Wj q (by omega)
  have e5:=j4 e.bX.av (some 0) e.bX.At (by have:=(bS h.back).1;omega)
  have e6:=kQ q (some 0) (by omega)
  generalize hE:vP _ _ _=R
  unfold vP at hE
  simp only [gL,gO,hO,hm]at e1 e2 hE
  simp [func175,f175,e1,Kq,akL]at hE
  rw [aF (fun j=> .on ⟨[(36,V.v (.int .i64 ((j:Int)))),(35,V.v (.int .i64 ((q.length:Int)))),(34, .aM (some 7) (ints q)),(8, .ref 8 0),(5, .ref 5 0),(4, .ref 4 0),(3, .aM (some 7) (ints q)),(2,V.v (.int .i64 n))],[(8,[V.v (.bool false),vI 0, .own 2000000000,vI 0,vI 0,vI 0,vI 0,vI 0,vI 0,vI 0,vI 0, .own 2000000001, .own 2000000002,vI 0, .own 2000000003,vI 0, .own 2000000004,vI 0, .own 2000000005,vI 0]),(5,[vI f, .aM (some 6) (strs l)]),(4,[V.v (.bool e.Vi),vI 3, .aM (some 0) (ints e.ak.av),vI e.ak.At,vI e.bD,vI e.Op,vI e.bN,vI e.fC,vI e.dY,vI e.bL,vI e.iO, .aM (some 1) (aC e.aL.aA), .aM (some 2) (aG e.fD.bT),vI e.kr, .aM (some 3) (ints e.gX.av),vI e.gX.At, .aM (some 4) (ints e.bO),vI e.lV, .aM (some 5) (ints e.bX.av),vI e.bX.At])],[(2000000005,[]),(2000000004,[]),(2000000003,[]),(2000000002,[]),(2000000001,[]),(2000000000,[])],[]⟩) q.length ?_ ?_]at hE
  ·have hzl:=pR ⟨#[]⟩ (by decide)
   have hz:mD ⟨#[]⟩=some []:=by
    unfold mD
    obtain⟨q1,q2⟩:=xX reads_nil
    rw [q1,q2,if_pos ⟨rfl,by decide⟩]
   rw [hz]at hzl
   simp only [aZ,List.length_nil,Int.natCast_zero]at hzl
   have hdl:(⟨(bJ q).toArray⟩:ByteArray).data.toList=bJ q:=rfl
   cases hg:pK f l n with
   | none=>
    rw [hg]at e3
    have e7:=aeI ⟨#[]⟩ ⟨(bJ q).toArray⟩ (by decide)
    simp [e3,hzl,e4,e7]at hE
    exact hE.symm
   | some s=>
    rw [hg]at e3
    have hss:=rT hh hg
    have e7:=aeI s ⟨(bJ q).toArray⟩ (by omega)
    rw [hdl]at e7
    have e8:=pR s (by omega)
    simp only
    cases hl:mD s with
    | none=>
     rw [hl]at e8
     simp [e3,e8,e4,e7]at hE
     exact hE.symm
    | some t=>
     rw [hl]at e8
     simp only
     obtain⟨to1,to2⟩:=J6 hl
     have htl:t.length≤400:=by simp only [eO,Bool.and_eq_true,decide_eq_true_eq]at to1;exact to1.1
     have hge:=Lib.index_ge s.data.toList (bJ q)
     by_cases hi:0≤Lib.index s.data.toList (bJ q)
     ·rw [if_pos hi]
      have hroom:=Lib.index_room s.data.toList (bJ q) hi
      have hsz:(s.data.toList.length:Int)=s.size:=by rw [Array.length_toList];rfl
      obtain⟨I,hI⟩:=Int.eq_ofNat_of_zero_le hi
      have hI2:I≤s.size:=by omega
      rw [hI]at e7⊢
      rw [Int.toNat_natCast]
      obtain⟨b9,e9⟩:=TL (s.extract 0 I) (by simp [ByteArray.size_extract];omega)
      have hext:(s.extract 0 I).data.toList=s.data.toList.take I:=by simp [ByteArray.data_extract]
      have hle:=Td to2 I (s.extract 0 I) hext
      have hI3:(I:Int)≤s.size:=by omega
      have hI0:¬(I:Int)<0:=by omega
      generalize su (s.extract 0 I)=front at*
      by_cases hn0:e.kr=0
      ·simp only [gL,gO,hO,hn0]at e2 hE⊢
       simp [e2,e3,e4,e5,e6,e7,e8,e9,hI2,hI3,hI0]at hE
       exact hE.symm.trans (by rw [←hm,if_pos trivial];rfl)
      ·simp [e2,e3,e4,e5,e6,e7,e8,e9,hI2,hI3,hI0,hn0]at hE
       exact hE.symm.trans (by rw [if_neg hn0,←hm];rfl)
     ·rw [if_neg hi]
      have hi':Lib.index s.data.toList (bJ q)<0:=by omega
      simp [e3,e8,e4,e7,hi']at hE
      exact hE.symm
  ·simp
  ·intro j hj
   have hw:=bM ((j:Int)+1) (by omega)
   have hp:=List.all_eq_true.1 hq q[j] (List.getElem_mem hj)
   simp [hj,hw,aQ hj,aR,hp]
 ·rw [if_neg Kq]
  have akL:(40:Int)<q.length:=by omega
  generalize hE:vP _ _ _=R
  unfold vP at hE
  simp only [gL,gO,hO,hm]at e1 e2 hE
  simp [func175,f175,e1,akL]at hE
  exact hE.symm
theorem aeJ (q:List Int)(fr:Int)(hm:e.bQ=3)(hq:q.all dn=true)(hq2:q.length≤41)(hfr: -2≤fr∧fr≤2000000000):MQ [gL e,aH f l, .aM (some 7) (ints q),vI fr] [] []=some (kR (Je e f l q fr)):=by
 have h1:=hh.first
 have h2:=hh.len
 have hlast:0≤gI f l∧gI f l≤1000000059:=by unfold gI;split<;>omega
 have e0:=eP e h
 have e1:=P8 f l hh
 have e2:=Wj q (by omega)
 have e3:=abg f l hh ⟨(bJ q).toArray⟩ (if e.lV=0 then gI f l else fr) (by split<;>omega)
 have hdl:(⟨(bJ q).toArray⟩:ByteArray).data.toList=bJ q:=rfl
 rw [hdl]at e3
 have e4:=adA e h hh (jc f (bJ q) (if e.lV=0 then gI f l else fr) l l.length) q hm hq hq2 (by
  rcases Jm (sub:=bJ q) (fr:=if e.lV=0 then gI f l else fr) (l:=l) h1.1 l.length with h|⟨k,h3,h4⟩
  ·exact .inl h
  ·exact .inr (by omega))
 unfold Je
 generalize jc f (bJ q) (if e.lV=0 then gI f l else fr) l l.length=n at*
 generalize hE:MQ _ _ _=R
 unfold MQ at hE
 cases hs:nA e f l n q with
 | none=>
  rw [hs]at e4
  simp only
  by_cases hz:e.lV=0
  ·rw [if_pos hz]at e3
   simp only [gL,gO,hO,hz]at e0 e4 hE
   simp [func97,f97,e0,e1,e2,e3,e4]at hE
   exact hE.symm.trans (by rw [←hz])
  ·rw [if_neg hz]at e3
   simp [func97,f97,e0,e1,e2,e3,e4,hz]at hE
   exact hE.symm
 | some x=>
  rw [hs]at e4
  simp only
  by_cases hz:e.lV=0
  ·rw [if_pos hz]at e3
   simp only [gL,gO,hO,hz]at e0 e4 hE
   simp [func97,f97,e0,e1,e2,e3,e4]at hE
   exact hE.symm
  ·rw [if_neg hz]at e3
   simp [func97,f97,e0,e1,e2,e3,e4,hz]at hE
   exact hE.symm
theorem TM (r:Int)(hm:e.bQ=3)(hp:dn r=true):cu [gL e,aH f l,aK 1 r] [] []=some (kR (Je e f l (e.bO++ [r]) e.lV)):=by
 have e1:=qE e h hh 1 r hp
 have Kq:=h.ql
 have hhit:=h.hit
 have e2:=kQ e.bO (some 0) (by omega)
 have e3:=aeJ e h hh (e.bO++ [r]) e.lV hm (by rw [List.all_append,h.qp];simp [hp]) (by simp;omega) (by omega)
 have g1:(e.bO.length+1)*8≤140737488355328:=by omega
 have g2:e.bO.length+1≤4611686018427387904:=by omega
 have g3:e.bO.length≤4611686018427387903:=by omega
 generalize Je e f l (e.bO++ [r]) e.lV=p at*
 rw [au]at e3
 simp only [N8,aZ]at e3
 generalize hE:cu _ _ _=R
 unfold cu at hE
 simp only [gL,gO,hO,hm]at e1 e3 hE
 simp [func36,f36,e1,e2,e3,g1,g2,g3]at hE
 exact hE.symm
end
theorem EM (s t:ByteArray){i:Nat}(h:i+t.size≤s.size):((s.extract i (i+t.size)).toList==t.toList)=Lib.occAt s.data.toList t.data.toList i:=(Lib.occ_of_piece s t i h).symm
theorem air (s t:ByteArray)(hs:s.size≤1000000)(ht:t.size≤1000000):IW [V.v (.string s),V.v (.string t),V.v (.bool false)] [] []=some ⟨V.v (.bool (Lib.contains s.data.toList t.data.toList)),[],[]⟩:=by
 have hsz:s.data.toList.length=s.size:=by rw [Array.length_toList];rfl
 have htz:t.data.toList.length=t.size:=by rw [Array.length_toList];rfl
 have st:∀j,j+t.size≤s.size→(0:Int)≤j∧(j:Int)+t.size≤s.size∧(j:Int)≤(j:Int)+t.size∧0≤(j:Int)+t.size∧((j:Int)+t.size).toNat=j+t.size∧IntKind.i64.wrap ((j:Int)+t.size)=(j:Int)+t.size∧IntKind.i64.wrap ((j:Int)+1)=(j:Int)+1:=fun j hj=>⟨by omega,by omega,by omega,by omega,by omega,bM _ (by omega),bM _ (by omega)⟩
 generalize hE:IW _ _ _=R
 simp [IW,func260,f260]at hE
 rcases Lib.index_spec s.data.toList t.data.toList with⟨e1,e2⟩|⟨i,e1,e2,e3,e4⟩
 ·rw [show Lib.contains s.data.toList t.data.toList=false from by unfold Lib.contains;rw [e1];rfl]
  rw [aF (fun j=> .on ⟨[(7,V.v (.int .i64 ((j:Int)))),(2,V.v (.bool false)),(1,V.v (.string t)),(0,V.v (.string s))],[],[],[]⟩) (s.size+1-t.size) ?_ ?_]at hE
  ·have c:¬((s.size+1-t.size:Nat):Int)+t.size≤s.size:=by omega
   have w:=bM (((s.size+1-t.size:Nat):Int)+t.size) (by omega)
   simp [c,w]at hE
   exact hE.symm
  ·simp
  ·intro j hj
   have hjl:j+t.size≤s.size:=by omega
   obtain⟨q1,q2,q3,q4,q5,q6,q7⟩:=st j hjl
   have p:=EM s t hjl
   rw [e2 j (by omega)]at p
   simp [q1,q2,q3,q4,q5,q6,q7,p]
 ·rw [show Lib.contains s.data.toList t.data.toList=true from by unfold Lib.contains;rw [e1];simp]
  have hroom:=Lib.index_room s.data.toList t.data.toList (by rw [e1];omega)
  rw [e1,hsz,htz]at hroom
  rw [aF (fun j=> .on ⟨[(7,V.v (.int .i64 ((j:Int)))),(2,V.v (.bool false)),(1,V.v (.string t)),(0,V.v (.string s))],[],[],[]⟩) i ?_ ?_]at hE
  ·obtain⟨q1,q2,q3,q4,q5,q6,q7⟩:=st i (by omega)
   have p:=EM s t (i:=i) (by omega)
   rw [e3]at p
   simp [q1,q2,q3,q4,q5,q6,q7,p]at hE
   exact hE.symm
  ·simp
  ·intro j hj
   obtain⟨q1,q2,q3,q4,q5,q6,q7⟩:=st j (by omega)
   have p:=EM s t (i:=j) (by omega)
   rw [e4 j hj]at p
   simp [q1,q2,q3,q4,q5,q6,q7,p]
theorem TN (s:ByteArray)(hs:s.size≤65536):∃b,yY [V.v (.string s)] [] []=some ⟨.fT [.own 0,V.v (.bool b)],[],[(0,ints (su s))]⟩:=by
 have hr:=tO s.data.toList
 have e1:=SF s _ _ hr hs
 refine⟨(qY s.data.toList).isEmpty,e1.trans ?_⟩
 unfold su
 by_cases hz:qY s.data.toList= []
 ·have hz':(qY s.data.toList).isEmpty=true:=by rw [hz];rfl
  rw [if_pos hz,if_pos hz']
 ·have hz':¬(qY s.data.toList).isEmpty=true:=by simpa using hz
  rw [if_neg hz,if_neg hz']
  rfl
noncomputable def Kh (s:ByteArray)(t:List UInt8):Int:=if 0≤Lib.index s.data.toList t then((su (s.extract 0 (Lib.index s.data.toList t).toNat)).length:Int)else -1
theorem Qh (s t:ByteArray)(hs:s.size≤65536)(ht:t.size≤1000000):zU [V.v (.string s),V.v (.string t)] [] []=some ⟨vI (Kh s t.data.toList),[],[]⟩:=by
 have hsz:s.data.toList.length=s.size:=by rw [Array.length_toList];rfl
 have htz:t.data.toList.length=t.size:=by rw [Array.length_toList];rfl
 have st:∀j,j+t.size≤s.size→(0:Int)≤j∧(j:Int)+t.size≤s.size∧(j:Int)≤(j:Int)+t.size∧0≤(j:Int)+t.size∧((j:Int)+t.size).toNat=j+t.size∧IntKind.i64.wrap ((j:Int)+t.size)=(j:Int)+t.size∧IntKind.i64.wrap ((j:Int)+1)=(j:Int)+1:=fun j hj=>⟨by omega,by omega,by omega,by omega,by omega,bM _ (by omega),bM _ (by omega)⟩
 unfold Kh
 generalize hE:zU _ _ _=R
 simp [zU,func259,f259]at hE
 rcases Lib.index_spec s.data.toList t.data.toList with⟨e1,e2⟩|⟨i,e1,e2,e3,e4⟩
 ·rw [e1,if_neg (by decide)]
  rw [aF (fun j=> .on ⟨[(5,V.v (.int .i64 ((j:Int)))),(1,V.v (.string t)),(0,V.v (.string s))],[],[],[]⟩) (s.size+1-t.size) ?_ ?_]at hE
  ·have c:¬((s.size+1-t.size:Nat):Int)+t.size≤s.size:=by omega
   have w:=bM (((s.size+1-t.size:Nat):Int)+t.size) (by omega)
   simp [c,w]at hE
   exact hE.symm
  ·simp
  ·intro j hj
   have hjl:j+t.size≤s.size:=by omega
   obtain⟨q1,q2,q3,q4,q5,q6,q7⟩:=st j hjl
   have p:=EM s t hjl
   rw [e2 j (by omega)]at p
   simp [q1,q2,q3,q4,q5,q6,q7,p]
 ·rw [e1,if_pos (by omega),Int.toNat_natCast]
  have hroom:=Lib.index_room s.data.toList t.data.toList (by rw [e1];omega)
  rw [e1,hsz,htz]at hroom
  obtain⟨b9,e9⟩:=TN (s.extract 0 i) (by simp [ByteArray.size_extract];omega)
  rw [aF (fun j=> .on ⟨[(5,V.v (.int .i64 ((j:Int)))),(1,V.v (.string t)),(0,V.v (.string s))],[],[],[]⟩) i ?_ ?_]at hE
  ·obtain⟨q1,q2,q3,q4,q5,q6,q7⟩:=st i (by omega)
   have p:=EM s t (i:=i) (by omega)
   rw [e3]at p
   have q8:i≤s.size:=by omega
   have q9:(i:Int)≤s.size:=by omega
   generalize su (s.extract 0 i)=front at*
   simp [q1,q2,q3,q4,q5,q6,q7,q8,q9,p,e9]at hE
   exact hE.symm
  ·simp
  ·intro j hj
   obtain⟨q1,q2,q3,q4,q5,q6,q7⟩:=st j (by omega)
   have p:=EM s t (i:=j) (by omega)
   rw [e4 j hj]at p
   simp [q1,q2,q3,q4,q5,q6,q7,p]
theorem abh (f:Int)(l:List ByteArray)(hh:iQ f l)(s:ByteArray)(hs:s.size≤1000000)(fr:Int)(hfr: -2≤fr∧fr≤2000000000):zT [.agg [vI f, .aM (some 0) (strs l)],V.v (.string s),vI fr,vI (-1),V.v (.bool false)] [] []=some ⟨vI (jc f s.data.toList fr l l.length),[],[]⟩:=by
 have h1:=hh.first
 have h2:=hh.len
 have e1:=uE f l hh
 generalize hE:zT _ _ _=R
 simp [zT,func202,f202,e1]at hE
 rw [aF (fun j=> .on ⟨[(29,V.v (.int .i64 ((j:Int)))),(28,V.v (.int .i64 ((l.length:Int)))),(27, .aM (some 0) (strs l)),(11,V.v (.int .i64 (jc f s.data.toList fr l j))),(5, .ref 5 0),(4,V.v (.bool false)),(3,V.v (.int .i64 ((-1)))),(2,V.v (.int .i64 fr)),(1,V.v (.string s))],[(5,[vI f, .aM (some 0) (strs l)])],[],[]⟩) l.length ?_ ?_]at hE
 ·simp at hE
  exact hE.symm
 ·simp [jc]
 ·intro j hj
  have hw:=bM ((j:Int)+1) (by omega)
  have w1:=bM (f+j) (by omega)
  have hz:=hh.each _ (List.getElem_mem hj)
  have e2:=air l[j] s (by omega) hs
  rw [jc,List.getElem?_eq_getElem hj]
  simp only [Option.map_some,Option.some.injEq]
  generalize jc f s.data.toList fr l j=best at*
  cases hc:Lib.contains l[j].data.toList s.data.toList
  ·rw [hc]at e2
   simp [hj,hw,w1,l7 hj,e2]
  ·rw [hc]at e2
   by_cases c:f+(j:Int)≤fr
   ·have c':¬fr<f+(j:Int):=by omega
    by_cases b0:best=0
    ·simp [hj,hw,w1,l7 hj,e2,c,c',b0]
    ·simp [hj,hw,w1,l7 hj,e2,c,c',b0]
   ·have c':fr<f+(j:Int):=by omega
    simp [hj,hw,w1,l7 hj,e2,c,c']
section
variable (e:dF) (h:fV e)
include h
theorem abj (hm:e.bQ=3):uU [gL e] [] []=some ⟨(gO (xV e)),[],(hO (xV e))⟩:=by
 have ea:=tZ e (fA.2 h)
 have e0:=gG e h
 have hl:=bS h.line
 unfold xV
 cases hv:e.Vi with
 | true=>
  have e1:=qJ {e with bQ:=2,bO:= [],lV:=0,bX:=⟨[],0⟩} ⟨hl.2.2.1,by show e.ak.At≤1000;omega⟩
  simp only [gL,gO,hO,hv,aZ]at e1
  rw [if_pos rfl]
  generalize jl 2 e.ak.av e.ak.At=ia at*
  clear h
  generalize hE:uU _ _ _=R
  unfold uU at hE
  simp only [gL,gO,hO,hv,hm]at ea e0 hE
  simp [-au,func114,f114,ea,e0,e1]at hE
  exact hE.symm
 | false=>
  have e1:=qJ {e with bQ:=0,bO:= [],lV:=0,bX:=⟨[],0⟩} ⟨hl.2.2.1,by show e.ak.At≤1000;omega⟩
  simp only [gL,gO,hO,hv,aZ]at e1
  rw [if_neg (by decide)]
  generalize jl 0 e.ak.av e.ak.At=ia at*
  clear h
  generalize hE:uU _ _ _=R
  unfold uU at hE
  simp only [gL,gO,hO,hv,hm]at ea e0 hE
  simp [-au,func114,f114,ea,e0,e1]at hE
  exact hE.symm
end
end Go.Proofs.YtlpdjhiggpblcaaGreat
