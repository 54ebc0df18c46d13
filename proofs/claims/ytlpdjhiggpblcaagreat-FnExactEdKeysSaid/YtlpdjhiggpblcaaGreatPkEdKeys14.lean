/- Part 14 of a proof in several texts (an abstract evaluator, what the functions compute). -/
import Derived.Test.YtlpdjhiggpblcaaGreatPkEdKeys13
import Derived.Lib.IndexBytes
open Go.Proofs.Tryz
namespace Go.Proofs.YtlpdjhiggpblcaaGreat
open Go.ChangeShapes Go.WideShapes Go.ChangeAt Go.RowKit Go.Deep
set_option linter.unusedSimpArgs false
set_option linter.unusedVariables false
def wfV:Value→Bool
 | .int k n=>(Lit.int k n).wf
 | .string s=>decide (s.size≤9223372036854775807)
 | _=>true
mutual
def okD:D→Bool
 | .a v=>wfV v
 | .l rows=>decide (rows.length≤9223372036854775807)&&okT rows
 | .gone=>false
def Az:List D→Bool
 | []=>true
 | d::r=>okD d&&Az r
def okT:List (List D)→Bool
 | []=>true
 | r::rows=>Az r&&okT rows
end
mutual
theorem aiT:∀(d:D),okD d=true→bnD 9223372036854775807 d=true
 | .a _,_=>rfl
 | .l rows,h=>by
  have h:(decide (rows.length≤9223372036854775807)&&okT rows)=true:=h
  rw [Bool.and_eq_true]at h
  show(decide (rows.length≤9223372036854775807)&&bnT 9223372036854775807 rows)=true
  rw [h.1,aiU rows h.2];rfl
 | .gone,h=>by cases h
theorem aiV:∀(r:List D),Az r=true→bnR 9223372036854775807 r=true
 | [],_=>rfl
 | d::r,h=>by
  have h:(okD d&&Az r)=true:=h
  rw [Bool.and_eq_true]at h
  show(bnD _ d&&bnR _ r)=true
  rw [aiT d h.1,aiV r h.2];rfl
theorem aiU:∀(rows:List (List D)),okT rows=true→bnT 9223372036854775807 rows=true
 | [],_=>rfl
 | r::rows,h=>by
  have h:(Az r&&okT rows)=true:=h
  rw [Bool.and_eq_true]at h
  show(bnR _ r&&bnT _ rows)=true
  rw [aiV r h.1,aiU rows h.2];rfl
end
theorem jK:∀{r q:List D},Az r=true→Az q=true→Az (r++q)=true
 | [],q,_,k=>k
 | d::r,q,h,k=>by
  have h:(okD d&&Az r)=true:=h
  rw [Bool.and_eq_true]at h
  show(okD d&&Az (r++q))=true
  rw [h.1,jK h.2 k];rfl
theorem jL {d:D}{r:List D}(h:Az (d::r)=true):okD d=true∧Az r=true:=by
 have h:(okD d&&Az r)=true:=h
 rwa [Bool.and_eq_true]at h
theorem JX {rows:List (List D)}(h:okD (.l rows)=true):lgL rows=true:=aiT _ h
theorem aiW:∀{rows:List (List D)},(∀r∈rows,Az r=true)→okT rows=true
 | [],_=>rfl
 | r::rows,h=>by
  show(Az r&&okT rows)=true
  rw [h r (by simp),aiW fun q hq=>h q (by simp [hq])];rfl
inductive uI (G:Nat→Obj→Prop):List Value→List D→Prop
 | nil:uI G [] []
 | cons {v:Value} {d:D} {vs:List Value} {ds:List D}:sK G d v→uI G vs ds→uI G (v::vs) (d::ds)
theorem uI.app {G:Nat→Obj→Prop}:∀{us vs:List Value} {ds es:List D},uI G us ds→uI G vs es→uI G (us++vs) (ds++es)
 | _,_,_,_, .nil,h=>h
 | _,_,_,_, .cons a b,h=> .cons a (b.app h)
theorem uI.part {G:Nat→Obj→Prop}{cs:List Value}(o c:Nat){ds es:List D}(h:uI G ((cs.drop o).take c) ds)(k:uI G (cs.drop (o+c)) es):uI G (cs.drop o) (ds++es):=by
 have:=h.app k
 rwa [←List.drop_drop,List.take_append_drop]at this
theorem uI.one {G:Nat→Obj→Prop}{v:Value}{d:D}(h:uI G [v] [d]):sK G d v:=by cases h;assumption
theorem uI.gF {G:Nat→Obj→Prop}{cs:List Value}{d:D}{ds:List D}(h:uI G cs (d::ds)):∃v vs,cs=v::vs∧sK G d v∧uI G vs ds:=by cases h with|cons a b=>exact⟨_,_,rfl,a,b⟩
theorem uI.akY {G:Nat→Obj→Prop}{cs:List Value}(h:uI G cs []):cs= []:=by cases h;rfl
theorem uI.get {G:Nat→Obj→Prop}:∀{vs:List Value} {ds:List D} {i:Nat} {d:D},uI G vs ds→ds[i]?=some d→∃u,vs[i]?=some u∧sK G d u
 | _,_,i,d, .nil,e=>by simp at e
 | _,_,0,d, .cons a _,e=>by simp at e;subst e;exact⟨_,rfl,a⟩
 | _,_,i+1,d, .cons _ b,e=>by simpa using b.get (i:=i) (by simpa using e)
theorem Xg {W:World}{b o:Nat}{u:Value}(h:W.cell? ⟨b,o,none⟩=some u):∃cs T fr,W.heap[b]?=some (.cells cs T fr)∧cs[o]?=some u:=by
 unfold World.cell? at h
 split at h
 ·rename_i cs T fr e
  exact⟨cs,T,fr,e,by simpa using h⟩
 ·cases h
theorem Lu {α:Type}(C:yK α)(l:List α):(C.rows l).flatten.length=l.length*C.k:=by
 have:=jm (k:=C.k) (C.rows l) (fun r hr=>by obtain⟨x,_,rfl⟩:=List.mem_map.1 hr;exact C.len x)
 rw [this,C.zT]
section
variable {H:Type} {enc:TypeId×Value→H} {W:World} {fuel:Nat} {cs:List Value} {x:DataW H×List MemPlace}
set_option maxRecDepth 100000 in
theorem Fh {t e:TypeId}{α:Type} [Inhabited α](C:yK α)(h0:0<C.k)(ht:prog.underlying t=some (.slice e))(hc:prog.cellsOf e=C.k)
  (he:∀{fuel cs x},DataW.trod enc prog W 0 (fun _=>true) true fuel e cs=some x→∃a:α,Az (C.enc a)=true∧uI (dY W) cs (C.enc a))
  (h:DataW.trod enc prog W 0 (fun _=>true) true fuel t cs=some x):∃l:List α,okD (.l (C.rows l))=true∧uI (dY W) cs [.l (C.rows l)]:=by
 rcases open_slice ht h with⟨rfl,_⟩|⟨a,len,cap,m,n,D',Pl,rfl,hb,hl,hm,hmm,rfl,hx⟩
 ·exact⟨[],rfl, .cons (.nil none 0 (by omega) (fun _=>rfl)) .nil⟩
 have hlm:len≤m:=by rw [hmm];split<;>omega
 rw [hc]at hx
 obtain⟨g,hg⟩:=choose_lt (α:=α) (p:=fun i y=>Az (C.enc y)=true∧∀j d,(C.enc y)[j]?=some d→∃u,W.cell? (a.add (i*C.k+j))=some u∧sK (dY W) d u) (n:=m) (fun i hi=>by
  obtain⟨cs',h1,h2⟩:=hx i hi
  obtain⟨_,hlen,hcell⟩:=World.cells?_some h1
  obtain⟨y,hp,hy⟩:=he h2
  refine⟨y,hp,fun j d e=>?_⟩
  obtain⟨u,e1,e2⟩:=hy.get e
  have hj:j<C.k:=by rw [←C.len y];exact(List.getElem?_eq_some_iff.1 e).1
  refine⟨u,?_,e2⟩
  rw [←e1,←hcell j hj,add_add])
 have hlen:(C.rows ((List.range len).map g)).length=len:=by rw [C.zT];simp
 unfold maxLen at hm
 refine⟨(List.range len).map g,?_, .cons ?_ .nil⟩
 ·show(decide _&&okT _)=true
  rw [hlen,decide_eq_true (by omega),Bool.true_and]
  refine aiW fun r hr=>?_
  obtain⟨z,hz,rfl⟩:=List.mem_map.1 hr
  obtain⟨i,hi,rfl⟩:=List.mem_map.1 hz
  exact(hg i (by have:=List.mem_range.1 hi;omega)).1
 have hu:∀r∈C.rows ((List.range len).map g),r.length=C.k:=fun r hr=>by obtain⟨z,_,rfl⟩:=List.mem_map.1 hr;exact C.len z
 have key:∀i d,(C.rows ((List.range len).map g)).flatten[i]?=some d→∃u,W.cell? (a.add i)=some u∧sK (dY W) d u:=by
  intro i d e
  have hi:i<len*C.k:=by
   have:=(List.getElem?_eq_some_iff.1 e).1
   rw [Lu,List.length_map,List.length_range]at this;exact this
  have e1:i / C.k*C.k+i%C.k=i:=by rw [Nat.mul_comm];exact Nat.div_add_mod i C.k
  have h1:i / C.k<len:=Nat.div_lt_of_lt_mul (by rw [Nat.mul_comm];exact hi)
  have hlt:i%C.k<(C.enc (g (i / C.k))).length:=by rw [C.len];exact Nat.mod_lt _ h0
  have e2:=flat_get (k:=C.k) (C.rows ((List.range len).map g)) (i / C.k) (i%C.k) (C.enc (g (i / C.k))) _ hu (by
   unfold yK.rows
   rw [List.getElem?_map,List.getElem?_map,List.getElem?_range h1];rfl) (List.getElem?_eq_getElem hlt)
  rw [e1,e]at e2
  obtain⟨u,h2,h3⟩:=(hg (i / C.k) (by omega)).2 (i%C.k) d (by rw [List.getElem?_eq_getElem hlt];exact e2.symm)
  rw [e1]at h2
  exact⟨u,h2,h3⟩
 rcases Nat.eq_zero_or_pos len with h1|h1
 ·subst h1
  exact .nil _ _ (by omega) (fun h=>nomatch h)
 have hpos:0<(C.rows ((List.range len).map g)).flatten.length:=by rw [Lu,List.length_map,List.length_range];exact Nat.mul_pos h1 h0
 obtain⟨b,o,spot⟩:=a
 obtain⟨u0,h2, -⟩:=key 0 _ (List.getElem?_eq_getElem hpos)
 have hs:spot=none:=by simpa [Addr.add] using World.cell?_spot h2
 subst hs
 rw [Addr.add_lit]at h2
 obtain⟨hcs,T,fr,hh, -⟩:=Xg h2
 refine .l _ len cap b o C.k T fr hcs (fun i=>(W.cell? ⟨b,o+i,none⟩).getD undef) hlen h1 hl (by omega) h0 hu hh (fun i d e=>?_) (fun i d e=>?_)
 ·obtain⟨u,h3, -⟩:=key i d e
  rw [Addr.add_lit]at h3
  rw [h3]
  obtain⟨cs2,T2,fr2,hh2,h4⟩:=Xg h3
  rw [hh]at hh2
  injection hh2 with hh2;injection hh2 with q1 q2 q3
  rw [q1];exact h4
 ·obtain⟨u,h3,h4⟩:=key i d e
  rw [Addr.add_lit]at h3
  rw [h3];exact h4
set_option maxRecDepth 100000 in
theorem rU (h:DataW.trod enc prog W 0 (fun _=>true) true fuel 3 cs=some x):∃a:Int,Az [.a (.int .i64 a)]=true∧uI (dY W) cs [.a (.int .i64 a)]:=by
 obtain⟨n,rfl,_,wf⟩:=DataW.trod_int underlying3 h
 exact⟨n,by show(_&&true)=true;rw [Bool.and_true];exact wf, .cons (.a _) .nil⟩
set_option maxRecDepth 100000 in
theorem aiX (h:DataW.trod enc prog W 0 (fun _=>true) true fuel 4 cs=some x):∃a:Bool,Az [.a (.bool a)]=true∧uI (dY W) cs [.a (.bool a)]:=by
 obtain⟨n,rfl,_⟩:=DataW.trod_bool underlying4 h
 exact⟨n,rfl, .cons (.a _) .nil⟩
set_option maxRecDepth 100000 in
theorem adU (h:DataW.trod enc prog W 0 (fun _=>true) true fuel 9 cs=some x):∃a:ByteArray,Az [.a (.string a)]=true∧uI (dY W) cs [.a (.string a)]:=by
 obtain⟨s,rfl,_,wf⟩:=DataW.trod_string underlying9 h
 exact⟨s,by show(decide _&&true)=true;rw [Bool.and_true];unfold maxLen at wf;exact decide_eq_true (by omega), .cons (.a _) .nil⟩
theorem rV:prog.cellsOf 3=1:=by kernel_rfl
theorem aiY:prog.cellsOf 4=1:=by kernel_rfl
theorem adV:prog.cellsOf 9=1:=by kernel_rfl
theorem Un:prog.cellsOf 23=1:=by kernel_rfl
theorem Uo (h:DataW.trod enc prog W 0 (fun _=>true) true fuel 23 cs=some x):∃l:List Int,Az [.l (ints l)]=true∧uI (dY W) cs [.l (ints l)]:=by
 obtain⟨l,a,b⟩:=Fh qD (by decide) underlying23 rV rU h
 exact⟨l,by show(_&&true)=true;rw [Bool.and_true];exact a,b⟩
theorem aiZ:prog.cellsOf 34=1:=by kernel_rfl
theorem ai0 (h:DataW.trod enc prog W 0 (fun _=>true) true fuel 34 cs=some x):∃l:List ByteArray,Az [.l (strs l)]=true∧uI (dY W) cs [.l (strs l)]:=by
 obtain⟨l,a,b⟩:=Fh tC (by decide) underlying34 adV adU h
 exact⟨l,by show(_&&true)=true;rw [Bool.and_true];exact a,b⟩
end
end Go.Proofs.YtlpdjhiggpblcaaGreat
namespace Go.Proofs.YtlpdjhiggpblcaaGreat
set_option linter.unusedSectionVars false
set_option linter.unusedSimpArgs false
set_option linter.unusedVariables false
open Go.ChangeShapes Go.WideShapes Go.ChangeAt Go.RowKit Go.Deep
section
variable {H:Type} {enc:TypeId×Value→H} {W:World} {fuel:Nat} {cs:List Value} {x:DataW H×List MemPlace}
instance:Inhabited mF:=⟨amD⟩
theorem afe:prog.cellsOf 55=2:=by kernel_rfl
set_option maxRecDepth 100000 in
theorem akm (h:DataW.trod enc prog W 0 (fun _=>true) true fuel 55 cs=some x):∃a:mF,Az (l5.enc a)=true∧uI (dY W) cs (l5.enc a):=by
 obtain⟨ys,m,_,_,hlen,hyl,hf⟩:=DataW.trod_struct underlying55 h
 rw [afe]at hlen
 have e0:DataW.trod enc prog W 0 (fun _=>true) true m 3 ((cs.drop 0).take 1)=ys[0]?:=by
  have g:=hf 0 _ rfl
  exact(congrArg (fun z=>DataW.trod enc prog W 0 (fun _=>true) true m 3 ((cs.drop 0).take z)) rV).symm.trans g
 rw [List.getElem?_eq_getElem (show 0<ys.length by rw [hyl];exact Nat.le_of_ble_eq_true rfl)]at e0
 obtain⟨a0,g0,r0⟩:=rU e0
 have e1:DataW.trod enc prog W 0 (fun _=>true) true m 3 ((cs.drop 1).take 1)=ys[1]?:=by
  have g:=hf 1 _ rfl
  exact(congrArg (fun z=>DataW.trod enc prog W 0 (fun _=>true) true m 3 ((cs.drop 1).take z)) rV).symm.trans g
 rw [List.getElem?_eq_getElem (show 1<ys.length by rw [hyl];exact Nat.le_of_ble_eq_true rfl)]at e1
 obtain⟨a1,g1,r1⟩:=rU e1
 have z2:uI (dY W) (cs.drop 2) []:=by rw [List.drop_eq_nil_of_le (by omega)];exact .nil
 have y2:Az []=true:=rfl
 have z1:=uI.part 1 1 r1 z2
 have y1:=jK g1 y2
 have z0:=uI.part 0 1 r0 z1
 have y0:=jK g0 y1
 exact⟨⟨a0,a1⟩,y0,z0⟩
theorem agF (h:DataW.trod enc prog W 0 (fun _=>true) true fuel 66 cs=some x):∃l:List mF,Az [.l (fZ l)]=true∧uI (dY W) cs [.l (fZ l)]:=by
 obtain⟨l,a,b⟩:=Fh l5 (Nat.le_of_ble_eq_true rfl) underlying66 afe akm h
 exact⟨l,by show(_&&true)=true;rw [Bool.and_true];exact a,b⟩
set_option maxRecDepth 100000 in
theorem Vj {base:Nat}{v:Value}{d:DataW H}{ps:List MemPlace}(hv:Value.okWide prog W .any base 66 v)(h:DataW.Trod enc prog W 0 (fun _=>true) true 66 v d ps):
  ∃l:List mF,Az [.l (fZ l)]=true∧sK (dY W) (.l (fZ l)) v:=by
 obtain⟨a0,len,cap,rfl⟩:=okWide_slice underlying66 hv
 obtain⟨f,hf⟩:=h
 obtain⟨l,g,r⟩:=agF hf
 exact⟨l,g,r.one⟩
instance:Inhabited fH:=⟨akE⟩
theorem JY:prog.cellsOf 45=2:=by kernel_rfl
set_option maxRecDepth 100000 in
theorem Oi (h:DataW.trod enc prog W 0 (fun _=>true) true fuel 45 cs=some x):∃a:fH,Az (kH.enc a)=true∧uI (dY W) cs (kH.enc a):=by
 obtain⟨ys,m,_,_,hlen,hyl,hf⟩:=DataW.trod_struct underlying45 h
 rw [JY]at hlen
 have e0:DataW.trod enc prog W 0 (fun _=>true) true m 23 ((cs.drop 0).take 1)=ys[0]?:=by
  have g:=hf 0 _ rfl
  exact(congrArg (fun z=>DataW.trod enc prog W 0 (fun _=>true) true m 23 ((cs.drop 0).take z)) Un).symm.trans g
 rw [List.getElem?_eq_getElem (show 0<ys.length by rw [hyl];exact Nat.le_of_ble_eq_true rfl)]at e0
 obtain⟨a0,g0,r0⟩:=Uo e0
 have e1:DataW.trod enc prog W 0 (fun _=>true) true m 3 ((cs.drop 1).take 1)=ys[1]?:=by
  have g:=hf 1 _ rfl
  exact(congrArg (fun z=>DataW.trod enc prog W 0 (fun _=>true) true m 3 ((cs.drop 1).take z)) rV).symm.trans g
 rw [List.getElem?_eq_getElem (show 1<ys.length by rw [hyl];exact Nat.le_of_ble_eq_true rfl)]at e1
 obtain⟨a1,g1,r1⟩:=rU e1
 have z2:uI (dY W) (cs.drop 2) []:=by rw [List.drop_eq_nil_of_le (by omega)];exact .nil
 have y2:Az []=true:=rfl
 have z1:=uI.part 1 1 r1 z2
 have y1:=jK g1 y2
 have z0:=uI.part 0 1 r0 z1
 have y0:=jK g0 y1
 exact⟨⟨a0,a1⟩,y0,z0⟩
theorem adW:prog.cellsOf 49=1:=by kernel_rfl
theorem adX (h:DataW.trod enc prog W 0 (fun _=>true) true fuel 49 cs=some x):∃l:List fH,Az [.l (aG l)]=true∧uI (dY W) cs [.l (aG l)]:=by
 obtain⟨l,a,b⟩:=Fh kH (Nat.le_of_ble_eq_true rfl) underlying49 JY Oi h
 exact⟨l,by show(_&&true)=true;rw [Bool.and_true];exact a,b⟩
instance:Inhabited dL:=⟨ahu⟩
theorem Xh:prog.cellsOf 183=1:=by kernel_rfl
set_option maxRecDepth 100000 in
theorem agG (h:DataW.trod enc prog W 0 (fun _=>true) true fuel 183 cs=some x):∃a:dL,Az (jG.enc a)=true∧uI (dY W) cs (jG.enc a):=by
 obtain⟨ys,m,_,_,hlen,hyl,hf⟩:=DataW.trod_struct underlying183 h
 rw [Xh]at hlen
 have e0:DataW.trod enc prog W 0 (fun _=>true) true m 23 ((cs.drop 0).take 1)=ys[0]?:=by
  have g:=hf 0 _ rfl
  exact(congrArg (fun z=>DataW.trod enc prog W 0 (fun _=>true) true m 23 ((cs.drop 0).take z)) Un).symm.trans g
 rw [List.getElem?_eq_getElem (show 0<ys.length by rw [hyl];exact Nat.le_of_ble_eq_true rfl)]at e0
 obtain⟨a0,g0,r0⟩:=Uo e0
 have z1:uI (dY W) (cs.drop 1) []:=by rw [List.drop_eq_nil_of_le (by omega)];exact .nil
 have y1:Az []=true:=rfl
 have z0:=uI.part 0 1 r0 z1
 have y0:=jK g0 y1
 exact⟨⟨a0⟩,y0,z0⟩
theorem aby:prog.cellsOf 46=1:=by kernel_rfl
theorem abz (h:DataW.trod enc prog W 0 (fun _=>true) true fuel 46 cs=some x):∃l:List dL,Az [.l (aC l)]=true∧uI (dY W) cs [.l (aC l)]:=by
 obtain⟨l,a,b⟩:=Fh jG (Nat.le_of_ble_eq_true rfl) underlying46 Xh agG h
 exact⟨l,by show(_&&true)=true;rw [Bool.and_true];exact a,b⟩
instance:Inhabited Zm:=⟨akK⟩
theorem abA:prog.cellsOf 48=1:=by kernel_rfl
set_option maxRecDepth 100000 in
theorem ai1 (h:DataW.trod enc prog W 0 (fun _=>true) true fuel 48 cs=some x):∃a:Zm,Az (Zn.enc a)=true∧uI (dY W) cs (Zn.enc a):=by
 obtain⟨ys,m,_,_,hlen,hyl,hf⟩:=DataW.trod_struct underlying48 h
 rw [abA]at hlen
 have e0:DataW.trod enc prog W 0 (fun _=>true) true m 46 ((cs.drop 0).take 1)=ys[0]?:=by
  have g:=hf 0 _ rfl
  exact(congrArg (fun z=>DataW.trod enc prog W 0 (fun _=>true) true m 46 ((cs.drop 0).take z)) aby).symm.trans g
 rw [List.getElem?_eq_getElem (show 0<ys.length by rw [hyl];exact Nat.le_of_ble_eq_true rfl)]at e0
 obtain⟨a0,g0,r0⟩:=abz e0
 have z1:uI (dY W) (cs.drop 1) []:=by rw [List.drop_eq_nil_of_le (by omega)];exact .nil
 have y1:Az []=true:=rfl
 have z0:=uI.part 0 1 r0 z1
 have y0:=jK g0 y1
 exact⟨⟨a0⟩,y0,z0⟩
instance:Inhabited Zo:=⟨akL⟩
theorem abB:prog.cellsOf 51=1:=by kernel_rfl
set_option maxRecDepth 100000 in
theorem ai2 (h:DataW.trod enc prog W 0 (fun _=>true) true fuel 51 cs=some x):∃a:Zo,Az (Zp.enc a)=true∧uI (dY W) cs (Zp.enc a):=by
 obtain⟨ys,m,_,_,hlen,hyl,hf⟩:=DataW.trod_struct underlying51 h
 rw [abB]at hlen
 have e0:DataW.trod enc prog W 0 (fun _=>true) true m 49 ((cs.drop 0).take 1)=ys[0]?:=by
  have g:=hf 0 _ rfl
  exact(congrArg (fun z=>DataW.trod enc prog W 0 (fun _=>true) true m 49 ((cs.drop 0).take z)) adW).symm.trans g
 rw [List.getElem?_eq_getElem (show 0<ys.length by rw [hyl];exact Nat.le_of_ble_eq_true rfl)]at e0
 obtain⟨a0,g0,r0⟩:=adX e0
 have z1:uI (dY W) (cs.drop 1) []:=by rw [List.drop_eq_nil_of_le (by omega)];exact .nil
 have y1:Az []=true:=rfl
 have z0:=uI.part 0 1 r0 z1
 have y0:=jK g0 y1
 exact⟨⟨a0⟩,y0,z0⟩
instance:Inhabited Qa:=⟨akM⟩
theorem ai3:prog.cellsOf 54=2:=by kernel_rfl
set_option maxRecDepth 100000 in
theorem ai4 (h:DataW.trod enc prog W 0 (fun _=>true) true fuel 54 cs=some x):∃a:Qa,Az (EC.enc a)=true∧uI (dY W) cs (EC.enc a):=by
 obtain⟨ys,m,_,_,hlen,hyl,hf⟩:=DataW.trod_struct underlying54 h
 rw [ai3]at hlen
 have e0:DataW.trod enc prog W 0 (fun _=>true) true m 3 ((cs.drop 0).take 1)=ys[0]?:=by
  have g:=hf 0 _ rfl
  exact(congrArg (fun z=>DataW.trod enc prog W 0 (fun _=>true) true m 3 ((cs.drop 0).take z)) rV).symm.trans g
 rw [List.getElem?_eq_getElem (show 0<ys.length by rw [hyl];exact Nat.le_of_ble_eq_true rfl)]at e0
 obtain⟨a0,g0,r0⟩:=rU e0
 have e1:DataW.trod enc prog W 0 (fun _=>true) true m 34 ((cs.drop 1).take 1)=ys[1]?:=by
  have g:=hf 1 _ rfl
  exact(congrArg (fun z=>DataW.trod enc prog W 0 (fun _=>true) true m 34 ((cs.drop 1).take z)) aiZ).symm.trans g
 rw [List.getElem?_eq_getElem (show 1<ys.length by rw [hyl];exact Nat.le_of_ble_eq_true rfl)]at e1
 obtain⟨a1,g1,r1⟩:=ai0 e1
 have z2:uI (dY W) (cs.drop 2) []:=by rw [List.drop_eq_nil_of_le (by omega)];exact .nil
 have y2:Az []=true:=rfl
 have z1:=uI.part 1 1 r1 z2
 have y1:=jK g1 y2
 have z0:=uI.part 0 1 r0 z1
 have y0:=jK g0 y1
 exact⟨⟨a0,a1⟩,y0,z0⟩
set_option maxRecDepth 100000 in
theorem YK {base:Nat}{v:Value}{d:DataW H}{ps:List MemPlace}(hv:Value.okWide prog W .any base 54 v)(h:DataW.Trod enc prog W 0 (fun _=>true) true 54 v d ps):
  ∃(y:Qa) (p0:Value),v= .agg #[.int .i64 y.First,p0]∧Az (EC.enc y)=true∧sK (dY W) (.l (strs y.bP)) p0:=by
 obtain⟨cs,rfl,hsz⟩:=okWide_struct underlying54 hv
 obtain⟨f,hf⟩:=h
 obtain⟨a,g,r0⟩:=ai4 hf
 obtain⟨v0,w0,e0,q0,r1⟩:=r0.gF
 obtain⟨v1,w1,e1,q1,r2⟩:=r1.gF
 have e2:=r2.akY
 have u0:=q0.atom
 have e0:cs.toList=v0::w0:=e0
 refine⟨a,v1,?_,g,q1⟩
 apply congrArg Value.agg
 apply Array.toList_inj.1
 show cs.toList= [.int .i64 a.First,v1]
 rw [e0,e1,e2]
 rw [u0]
theorem ai5 {y:Qa}(h0:Az (EC.enc y)=true):okD (.a (.int .i64 y.First))=true∧okD (.l (strs y.bP))=true:=by
 obtain⟨k0,h1⟩:=jL h0
 obtain⟨k1,h2⟩:=jL h1
 exact⟨k0,k1⟩
instance:Inhabited dw:=⟨yH⟩
theorem alF:prog.cellsOf 53=20:=by kernel_rfl
set_option maxRecDepth 100000 in
theorem alG (h:DataW.trod enc prog W 0 (fun _=>true) true fuel 53 cs=some x):∃a:dw,Az (OM.enc a)=true∧uI (dY W) cs (OM.enc a):=by
 obtain⟨ys,m,_,_,hlen,hyl,hf⟩:=DataW.trod_struct underlying53 h
 rw [alF]at hlen
 have e0:DataW.trod enc prog W 0 (fun _=>true) true m 4 ((cs.drop 0).take 1)=ys[0]?:=by
  have g:=hf 0 _ rfl
  exact(congrArg (fun z=>DataW.trod enc prog W 0 (fun _=>true) true m 4 ((cs.drop 0).take z)) aiY).symm.trans g
 rw [List.getElem?_eq_getElem (show 0<ys.length by rw [hyl];exact Nat.le_of_ble_eq_true rfl)]at e0
 obtain⟨a0,g0,r0⟩:=aiX e0
 have e1:DataW.trod enc prog W 0 (fun _=>true) true m 3 ((cs.drop 1).take 1)=ys[1]?:=by
  have g:=hf 1 _ rfl
  exact(congrArg (fun z=>DataW.trod enc prog W 0 (fun _=>true) true m 3 ((cs.drop 1).take z)) rV).symm.trans g
 rw [List.getElem?_eq_getElem (show 1<ys.length by rw [hyl];exact Nat.le_of_ble_eq_true rfl)]at e1
 obtain⟨a1,g1,r1⟩:=rU e1
 have e2:DataW.trod enc prog W 0 (fun _=>true) true m 45 ((cs.drop 2).take 2)=ys[2]?:=by
  have g:=hf 2 _ rfl
  exact(congrArg (fun z=>DataW.trod enc prog W 0 (fun _=>true) true m 45 ((cs.drop 2).take z)) JY).symm.trans g
 rw [List.getElem?_eq_getElem (show 2<ys.length by rw [hyl];exact Nat.le_of_ble_eq_true rfl)]at e2
 obtain⟨a2,g2,r2⟩:=Oi e2
 have e3:DataW.trod enc prog W 0 (fun _=>true) true m 3 ((cs.drop 4).take 1)=ys[3]?:=by
  have g:=hf 3 _ rfl
  exact(congrArg (fun z=>DataW.trod enc prog W 0 (fun _=>true) true m 3 ((cs.drop 4).take z)) rV).symm.trans g
 rw [List.getElem?_eq_getElem (show 3<ys.length by rw [hyl];exact Nat.le_of_ble_eq_true rfl)]at e3
 obtain⟨a3,g3,r3⟩:=rU e3
 have e4:DataW.trod enc prog W 0 (fun _=>true) true m 3 ((cs.drop 5).take 1)=ys[4]?:=by
  have g:=hf 4 _ rfl
  exact(congrArg (fun z=>DataW.trod enc prog W 0 (fun _=>true) true m 3 ((cs.drop 5).take z)) rV).symm.trans g
 rw [List.getElem?_eq_getElem (show 4<ys.length by rw [hyl];exact Nat.le_of_ble_eq_true rfl)]at e4
 obtain⟨a4,g4,r4⟩:=rU e4
 have e5:DataW.trod enc prog W 0 (fun _=>true) true m 3 ((cs.drop 6).take 1)=ys[5]?:=by
  have g:=hf 5 _ rfl
  exact(congrArg (fun z=>DataW.trod enc prog W 0 (fun _=>true) true m 3 ((cs.drop 6).take z)) rV).symm.trans g
 rw [List.getElem?_eq_getElem (show 5<ys.length by rw [hyl];exact Nat.le_of_ble_eq_true rfl)]at e5
 obtain⟨a5,g5,r5⟩:=rU e5
 have e6:DataW.trod enc prog W 0 (fun _=>true) true m 3 ((cs.drop 7).take 1)=ys[6]?:=by
  have g:=hf 6 _ rfl
  exact(congrArg (fun z=>DataW.trod enc prog W 0 (fun _=>true) true m 3 ((cs.drop 7).take z)) rV).symm.trans g
 rw [List.getElem?_eq_getElem (show 6<ys.length by rw [hyl];exact Nat.le_of_ble_eq_true rfl)]at e6
 obtain⟨a6,g6,r6⟩:=rU e6
 have e7:DataW.trod enc prog W 0 (fun _=>true) true m 3 ((cs.drop 8).take 1)=ys[7]?:=by
  have g:=hf 7 _ rfl
  exact(congrArg (fun z=>DataW.trod enc prog W 0 (fun _=>true) true m 3 ((cs.drop 8).take z)) rV).symm.trans g
 rw [List.getElem?_eq_getElem (show 7<ys.length by rw [hyl];exact Nat.le_of_ble_eq_true rfl)]at e7
 obtain⟨a7,g7,r7⟩:=rU e7
 have e8:DataW.trod enc prog W 0 (fun _=>true) true m 3 ((cs.drop 9).take 1)=ys[8]?:=by
  have g:=hf 8 _ rfl
  exact(congrArg (fun z=>DataW.trod enc prog W 0 (fun _=>true) true m 3 ((cs.drop 9).take z)) rV).symm.trans g
 rw [List.getElem?_eq_getElem (show 8<ys.length by rw [hyl];exact Nat.le_of_ble_eq_true rfl)]at e8
 obtain⟨a8,g8,r8⟩:=rU e8
 have e9:DataW.trod enc prog W 0 (fun _=>true) true m 3 ((cs.drop 10).take 1)=ys[9]?:=by
  have g:=hf 9 _ rfl
  exact(congrArg (fun z=>DataW.trod enc prog W 0 (fun _=>true) true m 3 ((cs.drop 10).take z)) rV).symm.trans g
 rw [List.getElem?_eq_getElem (show 9<ys.length by rw [hyl];exact Nat.le_of_ble_eq_true rfl)]at e9
 obtain⟨a9,g9,r9⟩:=rU e9
 have e10:DataW.trod enc prog W 0 (fun _=>true) true m 48 ((cs.drop 11).take 1)=ys[10]?:=by
  have g:=hf 10 _ rfl
  exact(congrArg (fun z=>DataW.trod enc prog W 0 (fun _=>true) true m 48 ((cs.drop 11).take z)) abA).symm.trans g
 rw [List.getElem?_eq_getElem (show 10<ys.length by rw [hyl];exact Nat.le_of_ble_eq_true rfl)]at e10
 obtain⟨a10,g10,r10⟩:=ai1 e10
 have e11:DataW.trod enc prog W 0 (fun _=>true) true m 51 ((cs.drop 12).take 1)=ys[11]?:=by
  have g:=hf 11 _ rfl
  exact(congrArg (fun z=>DataW.trod enc prog W 0 (fun _=>true) true m 51 ((cs.drop 12).take z)) abB).symm.trans g
 rw [List.getElem?_eq_getElem (show 11<ys.length by rw [hyl];exact Nat.le_of_ble_eq_true rfl)]at e11
 obtain⟨a11,g11,MC⟩:=ai2 e11
 have e12:DataW.trod enc prog W 0 (fun _=>true) true m 3 ((cs.drop 13).take 1)=ys[12]?:=by
  have g:=hf 12 _ rfl
  exact(congrArg (fun z=>DataW.trod enc prog W 0 (fun _=>true) true m 3 ((cs.drop 13).take z)) rV).symm.trans g
 rw [List.getElem?_eq_getElem (show 12<ys.length by rw [hyl];exact Nat.le_of_ble_eq_true rfl)]at e12
 obtain⟨a12,g12,ME⟩:=rU e12
 have e13:DataW.trod enc prog W 0 (fun _=>true) true m 45 ((cs.drop 14).take 2)=ys[13]?:=by
  have g:=hf 13 _ rfl
  exact(congrArg (fun z=>DataW.trod enc prog W 0 (fun _=>true) true m 45 ((cs.drop 14).take z)) JY).symm.trans g
 rw [List.getElem?_eq_getElem (show 13<ys.length by rw [hyl];exact Nat.le_of_ble_eq_true rfl)]at e13
 obtain⟨a13,g13,r13⟩:=Oi e13
 have e14:DataW.trod enc prog W 0 (fun _=>true) true m 23 ((cs.drop 16).take 1)=ys[14]?:=by
  have g:=hf 14 _ rfl
  exact(congrArg (fun z=>DataW.trod enc prog W 0 (fun _=>true) true m 23 ((cs.drop 16).take z)) Un).symm.trans g
 rw [List.getElem?_eq_getElem (show 14<ys.length by rw [hyl];exact Nat.le_of_ble_eq_true rfl)]at e14
 obtain⟨a14,g14,Ow⟩:=Uo e14
 have e15:DataW.trod enc prog W 0 (fun _=>true) true m 3 ((cs.drop 17).take 1)=ys[15]?:=by
  have g:=hf 15 _ rfl
  exact(congrArg (fun z=>DataW.trod enc prog W 0 (fun _=>true) true m 3 ((cs.drop 17).take z)) rV).symm.trans g
 rw [List.getElem?_eq_getElem (show 15<ys.length by rw [hyl];exact Nat.le_of_ble_eq_true rfl)]at e15
 obtain⟨a15,g15,r15⟩:=rU e15
 have e16:DataW.trod enc prog W 0 (fun _=>true) true m 45 ((cs.drop 18).take 2)=ys[16]?:=by
  have g:=hf 16 _ rfl
  exact(congrArg (fun z=>DataW.trod enc prog W 0 (fun _=>true) true m 45 ((cs.drop 18).take z)) JY).symm.trans g
 rw [List.getElem?_eq_getElem (show 16<ys.length by rw [hyl];exact Nat.le_of_ble_eq_true rfl)]at e16
 obtain⟨a16,g16,r16⟩:=Oi e16
 have z17:uI (dY W) (cs.drop 20) []:=by rw [List.drop_eq_nil_of_le (by omega)];exact .nil
 have y17:Az []=true:=rfl
 have z16:=uI.part 18 2 r16 z17
 have y16:=jK g16 y17
 have z15:=uI.part 17 1 r15 z16
 have y15:=jK g15 y16
 have z14:=uI.part 16 1 Ow z15
 have y14:=jK g14 y15
 have z13:=uI.part 14 2 r13 z14
 have y13:=jK g13 y14
 have z12:=uI.part 13 1 ME z13
 have y12:=jK g12 y13
 have z11:=uI.part 12 1 MC z12
 have y11:=jK g11 y12
 have z10:=uI.part 11 1 r10 z11
 have y10:=jK g10 y11
 have z9:=uI.part 10 1 r9 z10
 have y9:=jK g9 y10
 have z8:=uI.part 9 1 r8 z9
 have y8:=jK g8 y9
 have z7:=uI.part 8 1 r7 z8
 have y7:=jK g7 y8
 have z6:=uI.part 7 1 r6 z7
 have y6:=jK g6 y7
 have z5:=uI.part 6 1 r5 z6
 have y5:=jK g5 y6
 have z4:=uI.part 5 1 r4 z5
 have y4:=jK g4 y5
 have z3:=uI.part 4 1 r3 z4
 have y3:=jK g3 y4
 have z2:=uI.part 2 2 r2 z3
 have y2:=jK g2 y3
 have z1:=uI.part 1 1 r1 z2
 have y1:=jK g1 y2
 have z0:=uI.part 0 1 r0 z1
 have y0:=jK g0 y1
 exact⟨⟨a0,a1,a2,a3,a4,a5,a6,a7,a8,a9,a10,a11,a12,a13,a14,a15,a16⟩,y0,z0⟩
set_option maxRecDepth 100000 in
theorem adY {base:Nat}{v:Value}{d:DataW H}{ps:List MemPlace}(hv:Value.okWide prog W .any base 53 v)(h:DataW.Trod enc prog W 0 (fun _=>true) true 53 v d ps):
  ∃(y:dw) (p0 p1 p2 p3 p4 p5:Value),v= .agg #[.bool y.Vi, .int .i64 y.bR,p0, .int .i64 y.au.At, .int .i64 y.bA, .int .i64 y.Op, .int .i64 y.bH, .int .i64 y.eY, .int .i64 y.dN, .int .i64 y.bG, .int .i64 y.iA,p1,p2, .int .i64 y.jT,p3, .int .i64 y.gG.At,p4, .int .i64 y.kV,p5, .int .i64 y.bT.At]∧Az (OM.enc y)=true∧sK (dY W) (.l (ints y.au.av)) p0∧sK (dY W) (.l (aC y.aM.aA)) p1∧sK (dY W) (.l (aG y.eO.bP)) p2∧sK (dY W) (.l (ints y.gG.av)) p3∧sK (dY W) (.l (ints y.bI)) p4∧sK (dY W) (.l (ints y.bT.av)) p5:=by
 obtain⟨cs,rfl,hsz⟩:=okWide_struct underlying53 hv
 obtain⟨f,hf⟩:=h
 obtain⟨a,g,r0⟩:=alG hf
 obtain⟨v0,w0,e0,q0,r1⟩:=r0.gF
 obtain⟨v1,w1,e1,q1,r2⟩:=r1.gF
 obtain⟨v2,w2,e2,q2,r3⟩:=r2.gF
 obtain⟨v3,w3,e3,q3,r4⟩:=r3.gF
 obtain⟨v4,w4,e4,q4,r5⟩:=r4.gF
 obtain⟨v5,w5,e5,q5,r6⟩:=r5.gF
 obtain⟨v6,w6,e6,q6,r7⟩:=r6.gF
 obtain⟨v7,w7,e7,q7,r8⟩:=r7.gF
 obtain⟨v8,w8,e8,q8,r9⟩:=r8.gF
 obtain⟨v9,w9,e9,q9,r10⟩:=r9.gF
 obtain⟨v10,w10,e10,Q6,MC⟩:=r10.gF
 obtain⟨v11,w11,e11,Pk,ME⟩:=MC.gF
 obtain⟨v12,w12,e12,Pn,r13⟩:=ME.gF
 obtain⟨v13,w13,e13,q13,Ow⟩:=r13.gF
 obtain⟨v14,w14,e14,q14,r15⟩:=Ow.gF
 obtain⟨v15,w15,e15,q15,r16⟩:=r15.gF
 obtain⟨v16,w16,e16,q16,r17⟩:=r16.gF
 obtain⟨v17,w17,e17,q17,Qb⟩:=r17.gF
 obtain⟨v18,w18,e18,q18,r19⟩:=Qb.gF
 obtain⟨v19,w19,e19,q19,r20⟩:=r19.gF
 have e20:=r20.akY
 have u0:=q0.atom
 have u1:=q1.atom
 have u3:=q3.atom
 have u4:=q4.atom
 have u5:=q5.atom
 have u6:=q6.atom
 have u7:=q7.atom
 have u8:=q8.atom
 have u9:=q9.atom
 have u10:=Q6.atom
 have u13:=q13.atom
 have u15:=q15.atom
 have u17:=q17.atom
 have u19:=q19.atom
 have e0:cs.toList=v0::w0:=e0
 refine⟨a,v2,v11,v12,v14,v16,v18,?_,g,q2,Pk,Pn,q14,q16,q18⟩
 apply congrArg Value.agg
 apply Array.toList_inj.1
 show cs.toList= [.bool a.Vi, .int .i64 a.bR,v2, .int .i64 a.au.At, .int .i64 a.bA, .int .i64 a.Op, .int .i64 a.bH, .int .i64 a.eY, .int .i64 a.dN, .int .i64 a.bG, .int .i64 a.iA,v11,v12, .int .i64 a.jT,v14, .int .i64 a.gG.At,v16, .int .i64 a.kV,v18, .int .i64 a.bT.At]
 rw [e0,e1,e2,e3,e4,e5,e6,e7,e8,e9,e10,e11,e12,e13,e14,e15,e16,e17,e18,e19,e20]
 rw [u0]
 rw [u1]
 rw [u3]
 rw [u4]
 rw [u5]
 rw [u6]
 rw [u7]
 rw [u8]
 rw [u9]
 rw [u10]
 rw [u13]
 rw [u15]
 rw [u17]
 rw [u19]
theorem alH {y:dw}(h0:Az (OM.enc y)=true):okD (.a (.bool y.Vi))=true∧okD (.a (.int .i64 y.bR))=true∧okD (.l (ints y.au.av))=true∧okD (.a (.int .i64 y.au.At))=true∧okD (.a (.int .i64 y.bA))=true∧okD (.a (.int .i64 y.Op))=true∧okD (.a (.int .i64 y.bH))=true∧okD (.a (.int .i64 y.eY))=true∧okD (.a (.int .i64 y.dN))=true∧okD (.a (.int .i64 y.bG))=true∧okD (.a (.int .i64 y.iA))=true∧okD (.l (aC y.aM.aA))=true∧okD (.l (aG y.eO.bP))=true∧okD (.a (.int .i64 y.jT))=true∧okD (.l (ints y.gG.av))=true∧okD (.a (.int .i64 y.gG.At))=true∧okD (.l (ints y.bI))=true∧okD (.a (.int .i64 y.kV))=true∧okD (.l (ints y.bT.av))=true∧okD (.a (.int .i64 y.bT.At))=true:=by
 obtain⟨k0,h1⟩:=jL h0
 obtain⟨k1,h2⟩:=jL h1
 obtain⟨k2,h3⟩:=jL h2
 obtain⟨k3,h4⟩:=jL h3
 obtain⟨k4,h5⟩:=jL h4
 obtain⟨k5,h6⟩:=jL h5
 obtain⟨k6,h7⟩:=jL h6
 obtain⟨k7,h8⟩:=jL h7
 obtain⟨k8,h9⟩:=jL h8
 obtain⟨k9,h10⟩:=jL h9
 obtain⟨k10,h11⟩:=jL h10
 obtain⟨k11,h12⟩:=jL h11
 obtain⟨k12,h13⟩:=jL h12
 obtain⟨k13,h14⟩:=jL h13
 obtain⟨k14,h15⟩:=jL h14
 obtain⟨k15,h16⟩:=jL h15
 obtain⟨k16,h17⟩:=jL h16
 obtain⟨k17,h18⟩:=jL h17
 obtain⟨k18,h19⟩:=jL h18
 obtain⟨k19,h20⟩:=jL h19
 exact⟨k0,k1,k2,k3,k4,k5,k6,k7,k8,k9,k10,k11,k12,k13,k14,k15,k16,k17,k18,k19⟩
end
open Go.RowKit
set_option maxHeartbeats 16000000
set_option maxRecDepth 100000
section
variable (e:dw) (h:fO e) {f:Int} {l:List ByteArray} (hh:iB f l)
include h hh
theorem adZ:bS [gL e,aH f l,vI 97] [] []=some (kR (zG e 0)):=by
 have e1:=QM e h hh 0
 generalize zG e 0=p at*
 clear h hh
 generalize hE:bS _ _ _=R
 simp [bS,func95,f95,e1]at hE
 exact hE.symm
theorem abC:bS [gL e,aH f l,vI 101] [] []=some (kR (zG e e.au.av.length)):=by
 have e1:=QN e h hh 0
 generalize zG e e.au.av.length=p at*
 clear h hh
 generalize hE:bS _ _ _=R
 simp [bS,func95,f95,e1]at hE
 exact hE.symm
theorem ad1:bS [gL e,aH f l,vI 98] [] []=some (kR (zG e (e.au.At-gU e))):=by
 have e1:=QK e h hh 0
 generalize zG e (e.au.At-gU e)=p at*
 clear h hh
 generalize hE:bS _ _ _=R
 simp [bS,func95,f95,e1]at hE
 exact hE.symm
theorem abD:bS [gL e,aH f l,vI 102] [] []=some (kR (zG e (e.au.At+gU e))):=by
 have e1:=QL e h hh 0
 generalize zG e (e.au.At+gU e)=p at*
 clear h hh
 generalize hE:bS _ _ _=R
 simp [bS,func95,f95,e1]at hE
 exact hE.symm
theorem abE:bS [gL e,aH f l,vI 112] [] []=some (kR (jO e f l (-1))):=by
 have e1:=TV e h hh 0
 generalize jO e f l (-1)=p at*
 clear h hh
 generalize hE:bS _ _ _=R
 simp [bS,func95,f95,e1]at hE
 exact hE.symm
theorem abF:bS [gL e,aH f l,vI 110] [] []=some (kR (jO e f l 1)):=by
 have e1:=TW e h hh 0
 generalize jO e f l 1=p at*
 clear h hh
 generalize hE:bS _ _ _=R
 simp [bS,func95,f95,e1]at hE
 exact hE.symm
theorem abG:bS [gL e,aH f l,vI 121] [] []=some (kR (JB e)):=by
 have e1:=akj e h
 generalize JB e=p at*
 clear h hh
 generalize hE:bS _ _ _=R
 simp [bS,func95,f95,e1]at hE
 exact hE.symm
theorem ad2:bS [gL e,aH f l,vI 95] [] []=some (kR (nQ e)):=by
 have e1:=afd e h
 generalize nQ e=p at*
 clear h hh
 generalize hE:bS _ _ _=R
 simp [bS,func95,f95,e1]at hE
 exact hE.symm
theorem abH:bS [gL e,aH f l,vI 114] [] []=some (kR (CU e)):=by
 have e1:=YI e h
 generalize CU e=p at*
 clear h hh
 generalize hE:bS _ _ _=R
 simp [bS,func95,f95,e1]at hE
 exact hE.symm
theorem akn (r:Int):bS [gL e,aH f l,vI r] [] []=some (kR (Ll e f l r)):=by
 obtain⟨h1,h2,h3,h4⟩:=h.aS
 unfold Ll
 by_cases c97:r=97
 ·rw [if_pos c97];subst c97;exact adZ e h hh
 rw [if_neg c97]
 by_cases G9:r=101
 ·rw [if_pos G9];subst G9;exact abC e h hh
 rw [if_neg G9]
 by_cases YD:r=98
 ·rw [if_pos YD];subst YD;exact ad1 e h hh
 rw [if_neg YD]
 by_cases YE:r=102
 ·rw [if_pos YE];subst YE;exact abD e h hh
 rw [if_neg YE]
 by_cases KZ:r=112
 ·rw [if_pos KZ];subst KZ;exact abE e h hh
 rw [if_neg KZ]
 by_cases YF:r=110
 ·rw [if_pos YF];subst YF;exact abF e h hh
 rw [if_neg YF]
 by_cases c107:r=107
 ·rw [if_pos c107]
  subst c107
  exact TT e _ f _ l (JR e h e.au.At e.au.av.length (aS e) e.au.av.length 1 h1 rfl (by omega) h2 (Nat.le_refl _))
 rw [if_neg c107]
 by_cases YG:r=121
 ·rw [if_pos YG];subst YG;exact abG e h hh
 rw [if_neg YG]
 by_cases c116:r=116
 ·rw [if_pos c116];subst c116;exact akk e h f l
 rw [if_neg c116]
 by_cases c95:r=95
 ·rw [if_pos c95];subst c95;exact ad2 e h hh
 rw [if_neg c95]
 by_cases K3:r=114
 ·rw [if_pos K3];subst K3;exact abH e h hh
 rw [if_neg K3]
 have e1:=mq e h
 generalize dJ e=p at*
 clear h hh h1 h2 h3 h4
 generalize hE:bS _ _ _=R
 simp [bS,func95,f95,e1,c97,G9,YD,YE,KZ,YF,c107,YG,c116,c95,K3]at hE
 exact hE.symm
theorem abI (k r:Int):Cy [aK k r] [] []=some ⟨V.v (.bool (ji k r)),[],[]⟩:=by
 unfold Cy ji
 by_cases c1:k=1
 ·subst c1;simp [func73,f73,aR]
 by_cases c2:k=2
 ·subst c2
  by_cases r1:r=95
  ·subst r1;simp [func73,f73]
  cases r2:iw r 97 122
  ·simp [func73,f73,fK,r1,r2]
  by_cases r3:r=104
  ·subst r3;simp [func73,f73,fK,r2]
  by_cases r4:r=105
  ·subst r4;simp [func73,f73,fK,r2]
  by_cases r5:r=106
  ·subst r5;simp [func73,f73,fK,r2]
  by_cases r6:r=109
  ·subst r6;simp [func73,f73,fK,r2]
  simp [func73,f73,fK,r1,r2,r3,r4,r5,r6]
 by_cases c3:k=3
 ·subst c3;simp [func73,f73,dH]
 cases q:iw k 4 16
 ·simp [func73,f73,dH,c1,c2,c3,q]
 ·by_cases r0:r=0
  ·subst r0;simp [func73,f73,dH,c1,c2,c3,q]
  ·simp [func73,f73,dH,c1,c2,c3,q,r0]
theorem qO (k r:Int)(hk:ji k r=true):zi [gL e,aH f l,aK k r] [] []=some ⟨V.v (.bool true),[],[]⟩:=by
 have:=abI e h hh k r
 rw [hk]at this
 exact adA e (fD.2 h) f l hh k r this
theorem abJ (k r:Int)(hk:ji k r=true)(hm:e.bR=0):j3 [gL e,aH f l,aK k r] [] []=some (kR (Em e f l k r)):=by
 obtain⟨h1,h2,h3,h4⟩:=h.aS
 obtain⟨n1,n2,n3⟩:=fM e h
 have e1:=qO e h hh k r hk
 have e2:=aa5 e h hh k r hk
 unfold Em
 cases hp:p8 e f l k r with
 | some p=>
  rw [hp]at e2
  simp only
  clear h hh h1 h2 h3 h4
  generalize hE:j3 _ _ _=R
  unfold j3 at hE
  simp only [gL,gO,hO,hm]at e1 e2 hE
  simp [func35,f35,e1,e2]at hE
  exact hE.symm
 | none=>
  rw [hp]at e2
  simp only [yH,aZ,show aC []= []from rfl,show aG []= []from rfl]at e2⊢
  by_cases c3:k=3
  ·rw [if_pos c3]
   subst c3
   have e3:=abx e h r
   generalize Hy e r=p at*
   clear h hh h1 h2 h3 h4
   generalize hE:j3 _ _ _=R
   unfold j3 at hE
   simp only [gL,gO,hO,hm]at e1 e2 e3 hE
   simp [func35,f35,e1,e2,e3]at hE
   exact hE.symm
  rw [if_neg c3]
  by_cases c15:k=15
  ·rw [if_pos c15]
   subst c15
   have e3:=Og e.au.av (gU e) (aS e) h2 (by omega) n3
   rw [n1,←h1]at e3
   have e4:=JR e h (dG (fE e.au.av) (gU e) (aS e)) e.au.At (dG (fE e.au.av) (gU e) (aS e)) (aS e) 2 rfl h1 (by omega) (GX (fun _=>Au) _ _) h2
   generalize mJ e (dG (fE e.au.av) (gU e) (aS e)) (aS e) 2=p at*
   generalize dG (fE e.au.av) (gU e) (aS e)=u at*
   clear h hh h1 h2 h3 h4
   generalize hE:j3 _ _ _=R
   unfold j3 at hE
   simp only [gL,gO,hO,hm]at e1 e2 e4 hE
   simp [func35,f35,e1,e2,e3,e4,show List.range' 0 1= [0]from rfl]at hE
   exact hE.symm
  rw [if_neg c15]
  by_cases c2:k=2
  ·rw [if_pos c2]
   subst c2
   have e3:=akn e h hh r
   generalize Ll e f l r=p at*
   clear h hh h1 h2 h3 h4
   generalize hE:j3 _ _ _=R
   unfold j3 at hE
   simp only [gL,gO,hO,hm]at e1 e2 e3 hE
   simp [func35,f35,e1,e2,e3]at hE
   exact hE.symm
  rw [if_neg c2]
  have e3:=mq e h
  generalize dJ e=p at*
  clear h hh h1 h2 h3 h4
  generalize hE:j3 _ _ _=R
  unfold j3 at hE
  simp only [gL,gO,hO,hm]at e1 e2 e3 hE
  simp [func35,f35,e1,e2,e3,c2,c3,c15]at hE
  exact hE.symm
end
section
variable (e:dw) (h:fO e) (hm:e.bR=2)
include h hm
theorem agH (k r:Int)(n:Nat)(hn:1≤n∧n≤999)(hw:¬e.eY=0)(hk:ji k r=true):ni [gL e,aK k r,vI (n:Int)] [] []=some (kR (yx e k r n)):=by
 obtain⟨a1,a2,a3,a4⟩:=h.aS
 have eb:=mq e h
 unfold yx
 by_cases c1:k=1
 ·rw [if_neg (fun q=>q c1)]
  subst c1
  have hr:dh r=true:=by simpa [ji] using hk
  by_cases c2:e.eY=114
  ·rw [if_pos c2]
   by_cases c3:e.au.av.length<aS e+n
   ·rw [if_pos c3]
    have w1:=bN (e.au.At+n) (by omega)
    have hgt:(e.au.av.length:Int)<e.au.At+n:=by omega
    generalize dJ e=p at*
    clear h hk
    generalize hE:ni _ _ _=R
    unfold ni at hE
    simp only [gL,gO,hO,c2]at eb hE
    simp [-ak,func101,f101,eb,w1,hgt]at hE
    exact hE.symm
   ·rw [if_neg c3]
    exact abt e h hm r n hn c2 (oG hr) (by omega)
  ·rw [if_neg c2]
   have hw':=Ms (h.wait.resolve_left hw) c2
   have e1:=Xe e.eY
   have hw3:=TP e.eY
   have e2:=Xd e.au.av (some 0) (aS e) n r (jd e.eY) a2 (by omega) hn (by omega)
   rw [←a1]at e2
   by_cases c3:uq e.au.av r (jd e.eY) n (aS e)=none
   ·rw [if_pos c3]
    rw [c3]at e2
    simp only [uS,Option.isSome_none]at e2
    generalize dJ e=p at*
    generalize jd e.eY=how at*
    clear h hk
    generalize hE:ni _ _ _=R
    simp [ni, -ak,func101,f101,eb,e1,e2,c2]at hE
    exact hE.symm
   ·rw [if_neg c3]
    obtain⟨q,hq⟩:=Option.ne_none_iff_exists'.1 c3
    rw [hq]at e2
    simp only [uS,Option.isSome_some]at e2
    have e3:=eF e h
    have h':=h.find' (PE e.eY hr hw')
    have e4:=PI _ h' hm r (jd e.eY) n (by omega) hn
    generalize rP {e with dN:=r,bG:=jd e.eY} r (jd e.eY) n=p at*
    generalize jd e.eY=how at*
    clear h h' hk
    generalize hE:ni _ _ _=R
    simp [ni, -ak,func101,f101,e1,e2,e3,e4,c2]at hE
    exact hE.symm
 ·rw [if_pos c1]
  generalize dJ e=p at*
  clear h hk
  generalize hE:ni _ _ _=R
  simp [ni, -ak,func101,f101,eb,c1]at hE
  exact hE.symm
theorem abK (a n:Nat)(ha:a≤e.au.av.length)(hn:1≤n∧n≤999):xV [gL e,vI (a:Int),vI (n:Int)] [] []=some (kR (AU e a n)):=by
 obtain⟨a1,a2,a3,a4⟩:=h.aS
 have eb:=mq e h
 have e1:pJ [.agg [.aL (some 0) (aC e.aM.aA)]] [] []=some ⟨.own 0,[],[(0,ints (bE e.aM.aA))]⟩:=GJ e.aM.aA h.ring
 obtain⟨t1,t2⟩:=yC h.ring
 have e2:=aa2 (bE e.aM.aA) (some 0) n t2 hn.2
 obtain⟨k1,k2,k3,k4,k5,k6⟩:=JK (bE e.aM.aA).length n t2
 obtain⟨r1,r2⟩:=NZ t1 (rT (bE e.aM.aA).length n)
 have e3:=Fe e.au.av (some 0) e.au.At a (by omega) ha
 have hla:=h.Mr ha
 have e4:=CX e.au.av (mg (rT (bE e.aM.aA).length n) (bE e.aM.aA)) a hla r2 (by omega)
 rw [Int.toNat_natCast]at e4
 unfold AU
 by_cases hc:bE e.aM.aA= []∨400<e.au.av.length+(bE e.aM.aA).length*n
 ·rw [if_pos hc]
  generalize dJ e=p at*
  by_cases h0:bE e.aM.aA= []
  ·have z0:mg (rT (bE e.aM.aA).length n) (bE e.aM.aA)= []:=List.length_eq_zero_iff.1 (by rw [r1,h0];simp)
   rw [z0]at e2 e4
   rw [if_pos (by simp;omega)]at e4
   simp only [aZ]at e2 e4
   generalize bE e.aM.aA=tp at*
   clear h
   generalize hE:xV _ _ _=R
   simp [xV, -ak,func185,f185,eb,e1,e2,e3,e4]at hE
   exact hE.symm
  ·have hc:=hc.resolve_left h0
   have hp:0<(bE e.aM.aA).length:=List.length_pos_iff.2 h0
   have hbig:400<e.au.av.length+(bE e.aM.aA).length*rT (bE e.aM.aA).length n:=by
    by_cases hle:(bE e.aM.aA).length*n≤400
    ·rw [k2 hle];exact hc
    ·have:=k3 (by omega);omega
   rw [if_neg (by omega)]at e4
   have hu0:¬mg (rT (bE e.aM.aA).length n) (bE e.aM.aA)= []:=fun q=>by rw [q]at r1;simp at r1;omega
   generalize mg (rT (bE e.aM.aA).length n) (bE e.aM.aA)=u at*
   generalize bE e.aM.aA=tp at*
   clear h
   generalize hE:xV _ _ _=R
   simp [xV, -ak,func185,f185,eb,e1,e2,e3,e4,hu0]at hE
   exact hE.symm
 ·rw [if_neg hc]
  have h0:¬bE e.aM.aA= []:=fun q=>hc (.inl q)
  have hle:e.au.av.length+(bE e.aM.aA).length*n≤400:=by omega
  have hp:0<(bE e.aM.aA).length:=List.length_pos_iff.2 h0
  have hpn:n≤(bE e.aM.aA).length*n:=Nat.le_mul_of_pos_left n hp
  rw [k2 (by omega)]at e2 e4 r1 r2
  rw [if_pos (by omega)]at e4
  have hu0:¬mg n (bE e.aM.aA)= []:=fun q=>by rw [q]at r1;simp at r1;omega
  have hu1:¬((mg n (bE e.aM.aA)).length:Int)=0:=by omega
  obtain⟨i1,i2⟩:=zQ (u:=mg n (bE e.aM.aA)) (by omega) a4 r2 ha
  have e5:=vL (AQ e.au.av a (mg n (bE e.aM.aA))) (some 0) ((a:Int)+(mg n (bE e.aM.aA)).length) ((a:Int)+(mg n (bE e.aM.aA)).length-1) (by omega)
  have w1:=bN ((a:Int)+(mg n (bE e.aM.aA)).length-1) (by omega)
  rw [show max 0 (min ((a:Int)+(mg n (bE e.aM.aA)).length-1) (AQ e.au.av a (mg n (bE e.aM.aA))).length)=(a:Int)+(mg n (bE e.aM.aA)).length-1 from by omega]at e5
  have e6:=JJ e h (AQ e.au.av a (mg n (bE e.aM.aA))) ((a:Int)+(mg n (bE e.aM.aA)).length-1) (i2 _ (by omega) (by omega))
  rw [show ((a+(bE e.aM.aA).length*n:Nat):Int)-1=(a:Int)+(mg n (bE e.aM.aA)).length-1 from by rw [r1];omega]
  generalize AQ e.au.av a (mg n (bE e.aM.aA))=X at*
  generalize mg n (bE e.aM.aA)=u at*
  generalize bE e.aM.aA=tp at*
  generalize wD e X ((a:Int)+u.length-1)=p at*
  clear h
  generalize hE:xV _ _ _=R
  simp [xV, -ak,func185,f185,e1,e2,e3,e4,e5,e6,w1,hu0,hu1]at hE
  exact hE.symm
end
section
variable (e:dw) (h:fO e) (hm:e.bR=2)
include h hm
theorem Mv (u:Nat)(w:Bool)(hu:u≤e.au.av.length):uf [gL e,vI (u:Int),V.v (.bool w)] [] []=some (kR (uD e u w)):=by
 obtain⟨a1,a2,a3,a4⟩:=h.aS
 unfold uD
 by_cases hc:e.Op=0
 ·rw [if_pos hc]
  have e2:=qN e h u
  generalize zG e u=p at*
  clear h
  generalize hE:uf _ _ _=R
  unfold uf at hE
  simp only [gL,gO,hO,hc]at e2 hE
  simp [-ak,func268,f268,e2]at hE
  exact hE.symm
 ·rw [if_neg hc]
  have hop:opC e.Op=true:=h.op.resolve_left hc
  have e1:=aki e.au.av (some 0) (aS e) u w a2 hu (by omega)
  rw [←a1]at e1
  obtain⟨s1,s2⟩:=PD w a2 hu
  have e2:=uT e h hm e.Op hop (min (aS e) u) (yw e.au.av.length (aS e) u w) s1 s2
  generalize iU e e.Op (min (aS e) u) (yw e.au.av.length (aS e) u w)=p at*
  generalize min (aS e) u=m at*
  generalize yw e.au.av.length (aS e) u w=m2 at*
  clear h
  generalize hE:uf _ _ _=R
  simp [uf, -ak,func268,f268,e1,e2,hc]at hE
  exact hE.symm
theorem yF (r:Int):jH [gL e,vI r] [] []=some (kR (l9 e r (Proofs.YtlpdjhiggpblcaaGreat.gY e))):=by
 obtain⟨a1,a2,a3,a4⟩:=h.aS
 obtain⟨n1,n2,n3⟩:=h.gY
 have e0:=BH e h
 have e1:=DY e.au.av (some 0) (aS e) (Proofs.YtlpdjhiggpblcaaGreat.gY e) a2 (by omega) ⟨n1,n2⟩ r
 rw [←a1]at e1
 unfold l9
 generalize Proofs.YtlpdjhiggpblcaaGreat.gY e=n at*
 cases hf:gQ e.au.av (aS e) r n with
 | none=>
  rw [hf]at e1
  have e2:=Mv e h hm 0 false (by omega)
  show _=some (kR (uD e 0 false))
  generalize uD e 0 false=p at*
  clear h
  simp only [mR]at e1
  simp only [Int.natCast_zero]at e2
  generalize hE:jH _ _ _=R
  simp [jH, -ak,func206,f206,e0,e1,e2]at hE
  exact hE.symm
 | some q=>
  rw [hf]at e1
  have hu:=Aw a2 hf
  have e2:=Mv e h hm q.1 q.2 hu
  show _=some (kR (uD e q.1 q.2))
  generalize uD e q.1 q.2=p at*
  clear h
  simp only [mR]at e1
  generalize hE:jH _ _ _=R
  simp [jH, -ak,func206,f206,e0,e1,e2]at hE
  exact hE.symm
theorem Mw (r how:Int)(hw:0≤how∧how≤3):pU [gL e,vI r,vI how] [] []=some (kR (if r=0 then dJ e else rP e r how (Proofs.YtlpdjhiggpblcaaGreat.gY e))):=by
 obtain⟨a1,a2,a3,a4⟩:=h.aS
 obtain⟨n1,n2,n3⟩:=h.gY
 have e0:=BH e h
 have e1:=Xf e.au.av (some 0) (aS e) (Proofs.YtlpdjhiggpblcaaGreat.gY e) r how a2 (by omega) ⟨n1,n2⟩ hw
 have eb:=jD e h
 rw [←a1]at e1
 by_cases hr:r=0
 ·rw [if_pos hr]
  subst hr
  generalize dJ e=p at*
  generalize Proofs.YtlpdjhiggpblcaaGreat.gY e=n at*
  clear h
  generalize hE:pU _ _ _=R
  simp [pU, -ak,func264,f264,e0,e1,eb]at hE
  exact hE.symm
 rw [if_neg hr]
 unfold rP
 generalize Proofs.YtlpdjhiggpblcaaGreat.gY e=n at*
 cases hf:uq e.au.av r how n (aS e)with
 | none=>
  rw [hf]at e1
  show _=some (kR (dJ e))
  generalize dJ e=p at*
  clear h
  simp only [uS,Option.isSome_none]at e1
  generalize hE:pU _ _ _=R
  simp [pU, -ak,func264,f264,e0,e1,eb,hr]at hE
  exact hE.symm
 | some u=>
  rw [hf]at e1
  have hu:=KP n (aS e) u a2 hf
  have e2:=Mv e h hm u (decide (how=0∨how=2)) hu
  show _=some (kR (uD e u (decide (how=0∨how=2))))
  generalize uD e u (decide (how=0∨how=2))=p at*
  clear h
  simp only [uS,Option.isSome_some]at e1
  have hq:how=0∨how=1∨how=2∨how=3:=by omega
  generalize hE:pU _ _ _=R
  unfold pU at hE
  rcases hq with rfl|rfl|rfl|rfl
  all_goals (simp at e2;simp [-ak,func264,f264,e0,e1,e2,hr]at hE;exact hE.symm)
theorem YL (r:Int)(n:Nat)(hnn:n=Proofs.YtlpdjhiggpblcaaGreat.gY e)(hw:e.eY=114)(hr:iE r=true)(hl:aS e+n≤e.au.av.length):kP [gL e,aK 1 r] [] []=some (kR (wD e (p9 e.au.av (aS e) r n) (aS e+n-1:Nat))):=by
 obtain⟨a1,a2,a3,a4⟩:=h.aS
 have hn:=h.gY
 rw [←hnn]at hn
 obtain⟨n1,n2,n3⟩:=hn
 have e0:=BH e h
 rw [←hnn]at e0
 have hrs:=KQ a4 hr (aS e)
 have w1:=bN (e.au.At+n) (by omega)
 have w2:=bN (e.au.At+n-1) (by omega)
 have w4:=bN ((e.au.av.length:Int)-e.au.At) (by omega)
 have e1:=lT e.au.av (some 0) e.au.At (by omega)
 have hq:(((aS e+n-1:Nat)):Int)=e.au.At+n-1:=by omega
 have hgt:¬(e.au.av.length:Int)-e.au.At<n:=by omega
 have e2:=qM e h (p9 e.au.av (aS e) r n) (e.au.At+n-1) 0 (gI (by have:=(hrs n).1;omega) (hrs n).2 (by omega) (by have:=(hrs n).1;omega)) (by omega)
 rw [hq]
 unfold wD
 generalize sW e (p9 e.au.av (aS e) r n) (e.au.At+n-1) 0=p at*
 generalize hE:kP _ _ _=R
 unfold kP at hE
 simp only [gL,gO,hO,hw]at e0 e2 hE
 simp [-ak,func204,f204,e0,e1,w1,w2,w4,hgt]at hE
 rw [aD (fun j=> .on ⟨[(9,V.v (.int .i64 (e.au.At+(j:Int)))),(8, .ref 8 0),(7,V.v (.int .i64 e.au.At)),(6,V.v (.int .i64 ((n:Int)))),(4, .ref 4 0),(3, .ref 3 0),(2, .ref 2 0)],
   [(8,[.own 2000000000,vI e.au.At]),(4,[V.v (.bool false),vI 0, .own 2000000001,vI 0,vI 0,vI 0,vI 0,vI 0,vI 0,vI 0,vI 0, .own 2000000002, .own 2000000003,vI 0, .own 2000000004,vI 0, .own 2000000005,vI 0, .own 2000000006,vI 0]),(3,[vI 1,vI r]),(2,[V.v (.bool e.Vi),vI e.bR, .aL (some 0) (ints e.au.av),vI e.au.At,vI e.bA,vI e.Op,vI e.bH,vI 114,vI e.dN,vI e.bG,vI e.iA, .aL (some 1) (aC e.aM.aA), .aL (some 2) (aG e.eO.bP),vI e.jT, .aL (some 3) (ints e.gG.av),vI e.gG.At, .aL (some 4) (ints e.bI),vI e.kV, .aL (some 5) (ints e.bT.av),vI e.bT.At])],
   [(2000000006,[]),(2000000005,[]),(2000000004,[]),(2000000003,[]),(2000000002,[]),(2000000001,[]),(2000000000,ints (p9 e.au.av (aS e) r j))],[]⟩) n ?_ ?_]at hE
 ·simp [-ak,w1,w2,e2]at hE
  exact hE.symm
 ·simp [p9]
 ·intro j hj
  have hlen:=(hrs j).1
  have k1:0≤e.au.At+(j:Int):=by omega
  have k2:(e.au.At+(j:Int)).toNat=aS e+j:=by omega
  have k3:e.au.At+(j:Int)<e.au.av.length:=by omega
  have k4:aS e+j<e.au.av.length:=by omega
  have w3:=bN (e.au.At+((j:Int)+1)) (by omega)
  have k5:e.au.At+(j:Int)+1=e.au.At+((j:Int)+1):=by omega
  have hset:∀x:Int,(ints (p9 e.au.av (aS e) r j)).set (aS e+j) [.a (.int .i64 x)]=ints ((p9 e.au.av (aS e) r j).set (aS e+j) x):=fun x=>zC _ _ x
  rw [p9]
  simp [-ak,hj,w1,w3,k1,k2,k3,k4,k5,hlen,hset]
theorem ad3 (k r:Int)(hw:¬e.eY=0)(hk:ji k r=true):kP [gL e,aK k r] [] []=some (kR (yx e k r (gY e))):=by
 obtain⟨a1,a2,a3,a4⟩:=h.aS
 obtain⟨n1,n2,n3⟩:=h.gY
 have eb:=jD e h
 unfold yx
 by_cases c1:k=1
 ·rw [if_neg (fun q=>q c1)]
  subst c1
  have hr:dh r=true:=by simpa [ji] using hk
  have hr0:¬r=0:=fun q=>by rw [q]at hr;exact absurd hr (by decide)
  have e0:=BH e h
  by_cases c2:e.eY=114
  ·rw [if_pos c2]
   by_cases c3:e.au.av.length<aS e+gY e
   ·rw [if_pos c3]
    have w1:=bN ((e.au.av.length:Int)-e.au.At) (by omega)
    have hgt:(e.au.av.length:Int)-e.au.At<gY e:=by omega
    generalize dJ e=p at*
    generalize gY e=n at*
    clear h hk
    generalize hE:kP _ _ _=R
    unfold kP at hE
    simp only [gL,gO,hO,c2]at eb e0 hE
    simp [-ak,func204,f204,eb,e0,w1,hgt]at hE
    exact hE.symm
   ·rw [if_neg c3]
    exact YL e h hm r _ rfl c2 (oG hr) (by omega)
  ·rw [if_neg c2]
   have hw':=Ms (h.wait.resolve_left hw) c2
   have e1:=Uc e.eY
   have hw3:=TP e.eY
   have e2:=Xf e.au.av (some 0) (aS e) (gY e) r (jd e.eY) a2 (by omega) ⟨n1,n2⟩ (by omega)
   rw [←a1]at e2
   by_cases c3:uq e.au.av r (jd e.eY) (gY e) (aS e)=none
   ·rw [if_pos c3]
    rw [c3]at e2
    simp only [uS,Option.isSome_none]at e2
    generalize dJ e=p at*
    generalize gY e=n at*
    generalize jd e.eY=how at*
    clear h hk
    generalize hE:kP _ _ _=R
    simp [kP, -ak,func204,f204,eb,e0,e1,e2,c2]at hE
    exact hE.symm
   ·rw [if_neg c3]
    obtain⟨q,hq⟩:=Option.ne_none_iff_exists'.1 c3
    rw [hq]at e2
    simp only [uS,Option.isSome_some]at e2
    have e3:=fV e h
    have h':=h.find' (PE e.eY hr hw')
    have e4:=Mw _ h' hm r (jd e.eY) (by omega)
    rw [if_neg hr0,show gY {e with dN:=r,bG:=jd e.eY}=gY e from rfl]at e4
    generalize rP {e with dN:=r,bG:=jd e.eY} r (jd e.eY) (gY e)=p at*
    generalize gY e=n at*
    generalize jd e.eY=how at*
    clear h h' hk
    generalize hE:kP _ _ _=R
    simp [kP, -ak,func204,f204,e0,e1,e2,e3,e4,c2]at hE
    exact hE.symm
 ·rw [if_pos c1]
  generalize dJ e=p at*
  clear h hk
  generalize hE:kP _ _ _=R
  simp [kP, -ak,func204,f204,eb,c1]at hE
  exact hE.symm
end
section
variable (e:dw) (h:fO e) (hm:e.bR=2)
include h hm
theorem abL:qU [gL e] [] []=some (kR (uQ e (gY e))):=by
 obtain⟨a1,a2,a3,a4⟩:=h.aS
 obtain⟨n1,n2,n3⟩:=h.gY
 unfold uQ
 by_cases hz:e.au.av.length=0
 ·rw [if_pos hz]
  have e1:=jD e h
  have hz':e.au.av= []:=List.length_eq_zero_iff.1 hz
  generalize dJ e=p at*
  clear h
  generalize hE:qU _ _ _=R
  unfold qU at hE
  simp only [gL,gO,hO,hz',aZ]at e1 hE
  simp [-ak,func285,f285,e1]at hE
  exact hE.symm
 rw [if_neg hz]
 have hz':¬e.au.av= []:=fun q=>hz (by rw [q];rfl)
 have e0:=BH e h
 generalize gY e=n at*
 have w1:=bN (e.au.At+n) (by omega)
 have e1:=lT e.au.av (some 0) e.au.At (by omega)
 have e4:=dn (e.au.At+n) e.au.av.length (by omega)
 have hq:max 0 (min (e.au.At+n) e.au.av.length)=((min (aS e+n) e.au.av.length:Nat):Int):=by omega
 rw [hq]at e4
 have hB1:min (aS e+n) e.au.av.length≤e.au.av.length:=by omega
 have hB2:aS e≤min (aS e+n) e.au.av.length:=by omega
 generalize min (aS e+n) e.au.av.length=b at*
 have hfs:=fun j (hj:aS e+j≤e.au.av.length)=>KR a4 (aS e) j hj
 have hfb:=hfs (b-aS e) (by omega)
 have e2:=qM e h (rQ e.au.av (aS e) (b-aS e)) b 0 (gI (by omega) hfb.2 (by omega) (by omega)) (by omega)
 unfold wD
 generalize sW e (rQ e.au.av (aS e) (b-aS e)) b 0=p at*
 generalize hE:qU _ _ _=R
 simp [qU, -ak,func285,f285,e0,e1,e4,w1,hz']at hE
 rw [aD (fun j=> .on ⟨[(6,V.v (.int .i64 (e.au.At+(j:Int)))),(5,V.v (.int .i64 ((b:Int)))),(4, .ref 4 0),(2, .ref 2 0),(1, .ref 1 0)],
   [(4,[.own 2000000000,vI e.au.At]),(2,[V.v (.bool false),vI 0, .own 2000000001,vI 0,vI 0,vI 0,vI 0,vI 0,vI 0,vI 0,vI 0, .own 2000000002, .own 2000000003,vI 0, .own 2000000004,vI 0, .own 2000000005,vI 0, .own 2000000006,vI 0]),(1,[V.v (.bool e.Vi),vI e.bR, .aL (some 0) (ints e.au.av),vI e.au.At,vI e.bA,vI e.Op,vI e.bH,vI e.eY,vI e.dN,vI e.bG,vI e.iA, .aL (some 1) (aC e.aM.aA), .aL (some 2) (aG e.eO.bP),vI e.jT, .aL (some 3) (ints e.gG.av),vI e.gG.At, .aL (some 4) (ints e.bI),vI e.kV, .aL (some 5) (ints e.bT.av),vI e.bT.At])],
   [(2000000006,[]),(2000000005,[]),(2000000004,[]),(2000000003,[]),(2000000002,[]),(2000000001,[]),(2000000000,ints (rQ e.au.av (aS e) j))],[]⟩) (b-aS e) ?_ ?_]at hE
 ·have hc:¬e.au.At+((b-aS e:Nat):Int)<b:=by omega
  simp [-ak,hc,e2]at hE
  exact hE.symm
 ·simp [rQ]
 ·intro j hj
  have hlen:=(hfs j (by omega)).1
  have k1:0≤e.au.At+(j:Int):=by omega
  have k2:(e.au.At+(j:Int)).toNat=aS e+j:=by omega
  have k3:e.au.At+(j:Int)<e.au.av.length:=by omega
  have k4:aS e+j<e.au.av.length:=by omega
  have k6:e.au.At+(j:Int)<b:=by omega
  have w3:=bN (e.au.At+((j:Int)+1)) (by omega)
  have k5:e.au.At+(j:Int)+1=e.au.At+((j:Int)+1):=by omega
  rw [rQ]
  generalize hX:rQ e.au.av (aS e) j=X at*
  have hjl:aS e+j<X.length:=by omega
  have hgd:X.getD (aS e+j) 0=X[aS e+j]:=by rw [List.getD_eq_getElem?_getD,List.getElem?_eq_getElem hjl];rfl
  rw [hgd]
  have hgu:=aQ hjl
  have hset:∀x:Int,(ints X).set (aS e+j) [.a (.int .i64 x)]=ints (X.set (aS e+j) x):=fun x=>zC _ _ x
  have alI:X.set (aS e+j) X[aS e+j]=X:=List.set_getElem_self hjl
  generalize hr:X[aS e+j]=r at*
  unfold aaW
  by_cases c1:iw r 97 122=true
  ·obtain⟨d1,d2⟩:=bC.1 c1
   have d3:¬r≤90:=by omega
   have d4:65≤r:=by omega
   have d5:65≤r-32∧r-32≤90:=by omega
   have u1:=bN (r-32) (by omega)
   simp [-ak,k1,k2,k3,k4,k5,k6,w3,hlen,hset,hgu,hr,c1,d1,d2,d3,d4,u1]
  ·by_cases c2:iw r 65 90=true
   ·obtain⟨d1,d2⟩:=bC.1 c2
    have d3:¬97≤r:=by omega
    have u1:=bN (r+32) (by omega)
    simp [-ak,k1,k2,k3,k4,k5,k6,w3,hlen,hset,hgu,hr,c1,c2,d1,d2,d3,u1]
   ·rw [if_neg c1,if_neg c2,alI]
    rcases KM (Bool.eq_false_iff.2 c1)with d1|⟨d1,d2⟩<;>rcases KM (Bool.eq_false_iff.2 c2)with f1|⟨f1,f2⟩
    ·simp [-ak,k1,k2,k3,k4,k5,k6,w3,hlen,hset,hgu,hr,d1,f1]
    ·simp [-ak,k1,k2,k3,k4,k5,k6,w3,hlen,hset,hgu,hr,d1,f1,f2]
    ·simp [-ak,k1,k2,k3,k4,k5,k6,w3,hlen,hset,hgu,hr,d1,d2,f1]
    ·simp [-ak,k1,k2,k3,k4,k5,k6,w3,hlen,hset,hgu,hr,d1,d2,f1,f2]
theorem Xi (a:Nat)(ha:a≤e.au.av.length):qH [gL e,vI (a:Int)] [] []=some (kR (AU e a (gY e))):=by
 obtain⟨a1,a2,a3,a4⟩:=h.aS
 obtain⟨n1,n2,n3⟩:=h.gY
 have eb:=jD e h
 have e0:=BH e h
 have e1:pR [.agg [.aL (some 0) (aC e.aM.aA)]] [] []=some ⟨.own 0,[],[(0,ints (bE e.aM.aA))]⟩:=G6 e.aM.aA h.ring
 obtain⟨t1,t2⟩:=yC h.ring
 unfold AU
 generalize gY e=n at*
 have hmul:(bE e.aM.aA).length*n≤400*999:=Nat.mul_le_mul t2 n2
 have w1:=bN ((bE e.aM.aA).length*n:Int) (by rw [←Int.natCast_mul];omega)
 by_cases h0:bE e.aM.aA= []
 ·rw [if_pos (.inl h0)]
  generalize dJ e=p at*
  rw [h0]at e1
  simp only [aZ]at e1
  clear h
  generalize hE:qH _ _ _=R
  simp [qH, -ak,func284,f284,eb,e0,e1]at hE
  exact hE.symm
 have hp:0<(bE e.aM.aA).length:=List.length_pos_iff.2 h0
 by_cases hbig:400<(bE e.aM.aA).length*n
 ·rw [if_pos (.inr (by omega))]
  have hbi:(400:Int)<(bE e.aM.aA).length*n:=by rw [←Int.natCast_mul];omega
  generalize dJ e=p at*
  generalize bE e.aM.aA=tp at*
  clear h
  generalize hE:qH _ _ _=R
  simp [qH, -ak,func284,f284,eb,e0,e1,w1,hbi,h0]at hE
  exact hE.symm
 have hbi:¬(400:Int)<(bE e.aM.aA).length*n:=by rw [←Int.natCast_mul];omega
 obtain⟨r1,r2⟩:=NZ t1 n
 have e3:=Pv e.au.av e.au.At a h.line
 rw [show max 0 (min (a:Int) e.au.av.length)=a by omega]at e3
 have hla:=h.Mr ha
 have e4:=CV e.au.av (mg n (bE e.aM.aA)) a hla r2 (by omega)
 rw [Int.toNat_natCast]at e4
 have hsz:∀j,j≤n→(bE e.aM.aA).length*j≤400:=fun j hj=>Nat.le_trans (Nat.mul_le_mul_left _ hj) (by omega)
 have hrl:∀j,j≤n→(mg j (bE e.aM.aA)).length=(bE e.aM.aA).length*j:=fun j _=>by rw [(NZ t1 j).1]
 generalize hE:qH _ _ _=R
 unfold qH at hE
 have hrn:=hrl n (Nat.le_refl _)
 have hlt:∀p:dw×Int,(400<e.au.av.length+(bE e.aM.aA).length*n∧p=dJ e)∨(¬400<e.au.av.length+(bE e.aM.aA).length*n∧p=wD e (AQ e.au.av a (mg n (bE e.aM.aA))) ((a+(bE e.aM.aA).length*n:Nat)-1))→R=some (kR p):=by
  intro p hp
  generalize htp:bE e.aM.aA=tp at*
  simp [-ak,func284,f284,e0,e1,w1,hbi,h0]at hE
  rw [aD (fun j=> .on ⟨[(9,V.v (.int .i64 ((j:Int)))),(8, .own 2000000000),(7,V.v (.int .i64 ((n:Int)))),(6, .own 2000000001),(4, .ref 4 0),(2, .ref 2 0),(1,V.v (.int .i64 ((a:Int))))],
    [(4,[V.v (.bool false),vI 0, .own 2000000002,vI 0,vI 0,vI 0,vI 0,vI 0,vI 0,vI 0,vI 0, .own 2000000003, .own 2000000004,vI 0, .own 2000000005,vI 0, .own 2000000006,vI 0, .own 2000000007,vI 0]),(2,[V.v (.bool e.Vi),vI e.bR, .aL (some 0) (ints e.au.av),vI e.au.At,vI e.bA,vI e.Op,vI e.bH,vI e.eY,vI e.dN,vI e.bG,vI e.iA, .aL (some 1) (aC e.aM.aA), .aL (some 2) (aG e.eO.bP),vI e.jT, .aL (some 3) (ints e.gG.av),vI e.gG.At, .aL (some 4) (ints e.bI),vI e.kV, .aL (some 5) (ints e.bT.av),vI e.bT.At])],
    [(2000000007,[]),(2000000006,[]),(2000000005,[]),(2000000004,[]),(2000000003,[]),(2000000002,[]),(2000000001,ints tp),(2000000000,ints (mg j tp))],[]⟩) n ?_ ?_]at hE
  ·rcases hp with⟨q,rfl⟩|⟨q,rfl⟩
   ·rw [if_neg (by omega)]at e4
    generalize dJ e=p at*
    simp [-ak,e3,e4,eb]at hE
    exact hE.symm
   ·rw [if_pos (by omega)]at e4
    have hpn:n≤tp.length*n:=Nat.le_mul_of_pos_left n hp
    obtain⟨i1,i2⟩:=zQ (u:=mg n tp) (by omega) a4 r2 ha
    have e6:=qM e h (AQ e.au.av a (mg n tp)) ((a:Int)+(mg n tp).length-1) 0 (i2 _ (by omega) (by omega)) (by omega)
    have w2:=bN ((a:Int)+(mg n tp).length-1) (by omega)
    rw [show ((a+tp.length*n:Nat):Int)-1=(a:Int)+(mg n tp).length-1 from by rw [hrn];omega]
    unfold wD
    generalize AQ e.au.av a (mg n tp)=X at*
    generalize mg n tp=u at*
    generalize sW e X ((a:Int)+u.length-1) 0=p at*
    simp [-ak,e3,e4,e6,w2]at hE
    exact hE.symm
  ·simp [mg,aZ]
  ·intro j hj
   have hw2:=bN ((j:Int)+1) (by omega)
   have z1:=hsz j (by omega)
   have z2:=hrl j (by omega)
   have g1:(mg j tp).length+tp.length≤4611686018427387904:=by omega
   have g2:((mg j tp).length+tp.length)*8≤140737488355328:=by omega
   rw [KO,ak]
   generalize mg j tp=u at*
   simp [-ak,hj,hw2,g1,g2]
 by_cases q:400<e.au.av.length+(bE e.aM.aA).length*n
 ·rw [if_pos (.inr q)];exact hlt _ (.inl ⟨q,rfl⟩)
 ·rw [if_neg (fun z=>z.elim h0 q)];exact hlt _ (.inr ⟨q,rfl⟩)
end
section
variable (e:dw) (h:fO e) (hm:e.bR=2) {f:Int} {l:List ByteArray} (hh:iB f l)
include h hm hh
theorem Uq (r:Int)(p:dw×Int)(hp:(r=120∧iZ [gL e,vI 100,vI e.au.At,vI ((min (aS e+gY e) e.au.av.length:Nat):Int)] [] []=some (kR p))∨
  (r=88∧iZ [gL e,vI 100,vI ((aS e-gY e:Nat):Int),vI e.au.At] [] []=some (kR p))∨
  (r=68∧iZ [gL e,vI 100,vI e.au.At,vI (e.au.av.length:Int)] [] []=some (kR p))∨
  (r=67∧iZ [gL e,vI 99,vI e.au.At,vI (e.au.av.length:Int)] [] []=some (kR p))∨
  (r=115∧iZ [gL e,vI 99,vI e.au.At,vI ((min (aS e+gY e) e.au.av.length:Nat):Int)] [] []=some (kR p))∨
  (r=83∧iZ [gL e,vI 99,vI 0,vI (e.au.av.length:Int)] [] []=some (kR p))∨
  (r=112∧qH [gL e,vI ((min (aS e+1) e.au.av.length:Nat):Int)] [] []=some (kR p))∨
  (r=80∧qH [gL e,vI e.au.At] [] []=some (kR p))∨
  (r=126∧qU [gL e] [] []=some (kR p))∨
  (r=117∧iP [gL e] [] []=some (kR p))∨
  ((r=107∨r=45)∧kK [gL e,aH f l,vI (-1)] [] []=some (kR p))∨
  ((r=106∨r=43)∧kK [gL e,aH f l,vI 1] [] []=some (kR p))∨
  (r=47∧nH [gL e] [] []=some (kR p))∨
  (r=105∧l7 [gL e,vI e.au.At] [] []=some (kR p))∨
  (r=73∧l7 [gL e,vI ((AP e.au.av:Nat):Int)] [] []=some (kR p))∨
  (r=97∧l7 [gL e,vI ((min (aS e+1) e.au.av.length:Nat):Int)] [] []=some (kR p))∨
  (r=65∧l7 [gL e,vI (e.au.av.length:Int)] [] []=some (kR p))∨
  (r=114∧p=({e with eY:=114},0))∨(p=dJ e∧¬r=120∧¬r=88∧¬r=68∧¬r=67∧¬r=115∧¬r=83∧¬r=112∧¬r=80∧¬r=126∧¬r=117∧¬r=107∧¬r=45∧¬r=106∧¬r=43∧¬r=47∧¬r=105∧¬r=73∧¬r=97∧¬r=65∧¬r=114)):
  nP [gL e,aH f l,vI r] [] []=some (kR p):=by
 obtain⟨a1,a2,a3,a4⟩:=h.aS
 obtain⟨n1,n2,n3⟩:=h.gY
 have e0:=BH e h
 have w1:=bN (e.au.At+gY e) (by omega)
 have w2:=bN (e.au.At-gY e) (by omega)
 have w3:=bN (e.au.At+1) (by omega)
 have c1:=dn (e.au.At+gY e) e.au.av.length (by omega)
 have c2:=dn (e.au.At-gY e) e.au.av.length (by omega)
 have c3:=dn (e.au.At+1) e.au.av.length (by omega)
 rw [show max 0 (min (e.au.At+gY e) e.au.av.length)=((min (aS e+gY e) e.au.av.length:Nat):Int)from by omega]at c1
 rw [show max 0 (min (e.au.At-gY e) e.au.av.length)=((aS e-gY e:Nat):Int)from by omega]at c2
 rw [show max 0 (min (e.au.At+1) e.au.av.length)=((min (aS e+1) e.au.av.length:Nat):Int)from by omega]at c3
 have e2:=DY e.au.av (some 0) (aS e) 1 a2 (by omega) (by omega) 94
 rw [←a1,show gQ e.au.av (aS e) 94 1=some (AP e.au.av,false)from rfl]at e2
 simp only [mR,Int.natCast_one]at e2
 have e3:=fV e h
 have e4:=jD e h
 generalize ((min (aS e+gY e) e.au.av.length:Nat):Int)=x1 at*
 generalize ((aS e-gY e:Nat):Int)=x2 at*
 generalize ((min (aS e+1) e.au.av.length:Nat):Int)=x3 at*
 generalize gY e=n at*
 generalize ((AP e.au.av:Nat):Int)=x4 at*
 clear h hh
 generalize hE:nP _ _ _=R
 unfold nP at hE
 rcases hp with⟨rfl,e1⟩|⟨rfl,e1⟩|⟨rfl,e1⟩|⟨rfl,e1⟩|⟨rfl,e1⟩|⟨rfl,e1⟩|⟨rfl,e1⟩|⟨rfl,e1⟩|⟨rfl,e1⟩|⟨rfl,e1⟩|⟨rfl|rfl,e1⟩|⟨rfl|rfl,e1⟩|⟨rfl,e1⟩|⟨rfl,e1⟩|⟨rfl,e1⟩|⟨rfl,e1⟩|⟨rfl,e1⟩|⟨rfl,rfl⟩|⟨rfl,aop,d88,d68,d67,aoq,d83,aor,d80,aos,aot,aou,d45,aov,d43,d47,aow,d73,d97,d65,aox⟩
 iterate 19
  ·simp [-ak,func267,f267,e0,w1,w2,w3,c1,c2,c3,e1,e2]at hE
   exact hE.symm
 ·simp [-ak,func267,f267,e0,e3]at hE
  exact hE.symm
 ·simp [-ak,func267,f267,e0,e4,aop,d88,d68,d67,aoq,d83,aor,d80,aos,aot,aou,d45,aov,d43,d47,aow,d73,d97,d65,aox]at hE
  exact hE.symm
theorem abM (r:Int)(hu:r=117→iP [gL e] [] []=some (kR (nQ e))):nP [gL e,aH f l,vI r] [] []=some (kR (Ar e f l r (gY e))):=by
 obtain⟨a1,a2,a3,a4⟩:=h.aS
 refine Uq e h hm hh r _ ?_
 unfold Ar JD
 by_cases c0:r=120
 ·rw [if_pos c0]
  have e1:=uT e h hm 100 rfl (aS e) (min (aS e+gY e) e.au.av.length) (by omega) (by omega)
  simp only [←a1]at e1
  exact(.inl ⟨c0,e1⟩)
 rw [if_neg c0]
 by_cases c1:r=88
 ·rw [if_pos c1]
  have e1:=uT e h hm 100 rfl (aS e-gY e) (aS e) (by omega) (by omega)
  simp only [←a1]at e1
  exact(.inr (.inl ⟨c1,e1⟩))
 rw [if_neg c1]
 by_cases c2:r=68
 ·rw [if_pos c2]
  have e1:=uT e h hm 100 rfl (aS e) e.au.av.length (by omega) (Nat.le_refl _)
  simp only [←a1]at e1
  exact(.inr (.inr (.inl ⟨c2,e1⟩)))
 rw [if_neg c2]
 by_cases c3:r=67
 ·rw [if_pos c3]
  have e1:=uT e h hm 99 rfl (aS e) e.au.av.length (by omega) (Nat.le_refl _)
  simp only [←a1]at e1
  exact(.inr (.inr (.inr (.inl ⟨c3,e1⟩))))
 rw [if_neg c3]
 by_cases c4:r=115
 ·rw [if_pos c4]
  have e1:=uT e h hm 99 rfl (aS e) (min (aS e+gY e) e.au.av.length) (by omega) (by omega)
  simp only [←a1]at e1
  exact(.inr (.inr (.inr (.inr (.inl ⟨c4,e1⟩)))))
 rw [if_neg c4]
 by_cases c5:r=83
 ·rw [if_pos c5]
  have e1:=uT e h hm 99 rfl 0 e.au.av.length (by omega) (Nat.le_refl _)
  exact(.inr (.inr (.inr (.inr (.inr (.inl ⟨c5,e1⟩))))))
 rw [if_neg c5]
 by_cases c6:r=114
 ·rw [if_pos c6];exact(.inr (.inr (.inr (.inr (.inr (.inr (.inr (.inr (.inr (.inr (.inr (.inr (.inr (.inr (.inr (.inr (.inr (.inl ⟨c6,rfl⟩))))))))))))))))))
 rw [if_neg c6]
 by_cases c7:r=112
 ·rw [if_pos c7]
  have e1:=Xi e h hm (min (aS e+1) e.au.av.length) (by omega)
  exact(.inr (.inr (.inr (.inr (.inr (.inr (.inl ⟨c7,e1⟩)))))))
 rw [if_neg c7]
 by_cases c8:r=80
 ·rw [if_pos c8]
  have e1:=Xi e h hm (aS e) (by omega)
  simp only [←a1]at e1
  exact(.inr (.inr (.inr (.inr (.inr (.inr (.inr (.inl ⟨c8,e1⟩))))))))
 rw [if_neg c8]
 by_cases c9:r=126
 ·rw [if_pos c9]
  have e1:=abL e h hm
  exact(.inr (.inr (.inr (.inr (.inr (.inr (.inr (.inr (.inl ⟨c9,e1⟩)))))))))
 rw [if_neg c9]
 by_cases c10:r=117
 ·rw [if_pos c10];exact(.inr (.inr (.inr (.inr (.inr (.inr (.inr (.inr (.inr (.inl ⟨c10,hu c10⟩))))))))))
 rw [if_neg c10]
 by_cases c11:r=107∨r=45
 ·rw [if_pos c11]
  have e1:=uH e h hh (-1) (.inr rfl)
  exact(.inr (.inr (.inr (.inr (.inr (.inr (.inr (.inr (.inr (.inr (.inl ⟨c11,e1⟩)))))))))))
 rw [if_neg c11]
 by_cases c12:r=106∨r=43
 ·rw [if_pos c12]
  have e1:=uH e h hh 1 (.inl rfl)
  exact(.inr (.inr (.inr (.inr (.inr (.inr (.inr (.inr (.inr (.inr (.inr (.inl ⟨c12,e1⟩))))))))))))
 rw [if_neg c12]
 by_cases c13:r=47
 ·rw [if_pos c13]
  have e1:=G8 e h (by omega)
  exact(.inr (.inr (.inr (.inr (.inr (.inr (.inr (.inr (.inr (.inr (.inr (.inr (.inl ⟨c13,e1⟩)))))))))))))
 rw [if_neg c13]
 by_cases c14:r=105
 ·rw [if_pos c14]
  have e1:=yE e h hm (aS e) (by omega)
  simp only [←a1]at e1
  exact(.inr (.inr (.inr (.inr (.inr (.inr (.inr (.inr (.inr (.inr (.inr (.inr (.inr (.inl ⟨c14,e1⟩))))))))))))))
 rw [if_neg c14]
 by_cases c15:r=73
 ·rw [if_pos c15]
  have e1:=yE e h hm (AP e.au.av) (cB _ _).1
  exact(.inr (.inr (.inr (.inr (.inr (.inr (.inr (.inr (.inr (.inr (.inr (.inr (.inr (.inr (.inl ⟨c15,e1⟩)))))))))))))))
 rw [if_neg c15]
 by_cases c16:r=97
 ·rw [if_pos c16]
  have e1:=yE e h hm (min (aS e+1) e.au.av.length) (by omega)
  exact(.inr (.inr (.inr (.inr (.inr (.inr (.inr (.inr (.inr (.inr (.inr (.inr (.inr (.inr (.inr (.inl ⟨c16,e1⟩))))))))))))))))
 rw [if_neg c16]
 by_cases c17:r=65
 ·rw [if_pos c17]
  have e1:=yE e h hm e.au.av.length (Nat.le_refl _)
  exact(.inr (.inr (.inr (.inr (.inr (.inr (.inr (.inr (.inr (.inr (.inr (.inr (.inr (.inr (.inr (.inr (.inl ⟨c17,e1⟩)))))))))))))))))
 rw [if_neg c17]
 exact .inr (.inr (.inr (.inr (.inr (.inr (.inr (.inr (.inr (.inr (.inr (.inr (.inr (.inr (.inr (.inr (.inr (.inr (⟨rfl,c0,c1,c2,c3,c4,c5,c7,c8,c9,c10,fun q=>c11 (.inl q),fun q=>c11 (.inr q),fun q=>c12 (.inl q),fun q=>c12 (.inr q),c13,c14,c15,c16,c17,c6⟩))))))))))))))))))
end
theorem Vk (t:List Int)(a n m:Nat)(r:Int):(gQ t a r n).isSome=(gQ t a r m).isSome:=by
 unfold gQ
 repeat' split
 all_goals rfl
theorem ai6 {fr fh:Int}(h:dO fr fh=true):0≤fh∧fh≤3:=by
 simp only [dO,Bool.or_eq_true,Bool.and_eq_true,beq_iff_eq]at h
 rcases h with h|h
 ·omega
 ·exact bC.1 h.2.2
section
variable (e:dw) (h:fO e) (hm:e.bR=2) {f:Int} {l:List ByteArray} (hh:iB f l)
include h hm hh
theorem ad4 (r:Int)(hr:dh r=true)(hu:e.Op=0→r=117→iP [gL e] [] []=some (kR (nQ e))):gZ [gL e,aH f l,vI r] [] []=some (kR (uE e f l r (gY e))):=by
 obtain⟨a1,a2,a3,a4⟩:=h.aS
 obtain⟨n1,n2,n3⟩:=h.gY
 have e0:=fV e h
 have eb:=jD e h
 have eh:=Uc r
 have hc:=h.cnt
 have hr0:¬r=0:=fun q=>by rw [q]at hr;exact absurd hr (by decide)
 have em:=DY e.au.av (some 0) (aS e) 1 a2 (by omega) (by omega) r
 rw [←a1,Int.natCast_one]at em
 have hms:=Vk e.au.av (aS e) 1 (gY e) r
 unfold uE GR
 by_cases c1:iw r 49 57=true∨(r=48∧¬e.bA=0)
 ·rw [if_pos c1]
  have w1:=bN (e.bA*10) (by omega)
  unfold JC
  simp only
  clear hms em
  rcases c1 with c1|⟨rfl,c2⟩
  ·obtain⟨c3,c4⟩:=bC.1 c1
   have w2:=bN (e.bA*10+r) (by omega)
   have w3:=bN (e.bA*10+r-48) (by omega)
   have ec:=dn (e.bA*10+r-48) 999 (by omega)
   rw [show max 0 (min (e.bA*10+r-48) 999)=min (10*e.bA+r-48) 999 by omega]at ec
   clear h hh
   generalize hE:gZ _ _ _=R
   simp [gZ, -ak,func205,f205,e0,w1,w2,w3,ec,c3,c4]at hE
   exact hE.symm
  ·have w2:=bN (e.bA*10+48) (by omega)
   have w3:=bN (e.bA*10+48-48) (by omega)
   have ec:=dn (e.bA*10+48-48) 999 (by omega)
   rw [show max 0 (min (e.bA*10+48-48) 999)=min (10*e.bA+48-48) 999 by omega]at ec
   have c5:0<e.bA:=by omega
   generalize min (10*e.bA+48-48) 999=y at*
   generalize hz:e.bA*10+48=z at*
   clear h hh
   generalize hE:gZ _ _ _=R
   simp [gZ, -ak,func205,f205,e0,w1,w2,w3,ec,c5,hz]at hE
   exact hE.symm
 rw [if_neg c1]
 have c2:¬(49≤r∧r≤57):=fun q=>c1 (.inl (bC.2 q))
 have c3:r=48→e.bA≤0:=fun q=>by have:=fun z=>c1 (.inr ⟨q,z⟩);omega
 by_cases c5:0≤jd r
 ·rw [if_pos c5]
  have c4:¬r=48:=fun q=>by rw [q]at c5;exact absurd c5 (by decide)
  generalize jd r=how at*
  simp only
  clear h hh hms em
  generalize hE:gZ _ _ _=R
  unfold gZ at hE
  by_cases d1:49≤r
  ·have d2:¬r≤57:=fun q=>c2 ⟨d1,q⟩
   simp [-ak,func205,f205,e0,eh,c4,c5,d1,d2]at hE
   exact hE.symm
  ·simp [-ak,func205,f205,e0,eh,c4,c5,d1]at hE
   exact hE.symm
 rw [if_neg c5]
 by_cases c6:r=59
 ·rw [if_pos c6]
  subst c6
  have e4:=Mw e h hm e.dN e.bG (ai6 h.find)
  rw [show jd 59= -1 from by decide]at eh
  simp only
  generalize (if e.dN=0 then dJ e else rP e e.dN e.bG (gY e))=p at*
  clear h hh hms em
  generalize hE:gZ _ _ _=R
  simp [gZ, -ak,func205,f205,e0,eh,e4]at hE
  exact hE.symm
 rw [if_neg c6]
 by_cases c7:r=44
 ·rw [if_pos c7]
  subst c7
  have hb:0≤uR e.bG∧uR e.bG≤3:=by unfold uR;repeat' split<;>omega
  have e4:=Mw e h hm e.dN (uR e.bG) hb
  have e5:=adM e.bG
  rw [show jd 44= -1 from by decide]at eh
  simp only
  generalize (if e.dN=0 then dJ e else rP e e.dN (uR e.bG) (gY e))=p at*
  generalize uR e.bG=bh at*
  clear h hh hms em
  generalize hE:gZ _ _ _=R
  simp [gZ, -ak,func205,f205,e0,eh,e4,e5]at hE
  exact hE.symm
 rw [if_neg c7]
 have c4:r=48→¬0<e.bA:=fun q=>by have:=c3 q;omega
 by_cases c8:e.Op=0∧opC r=true
 ·rw [if_pos c8]
  obtain⟨d1,d2⟩:=c8
  have hq:r=100∨r=99∨r=121:=by simp only [opC,Bool.or_eq_true,beq_iff_eq]at d2;omega
  simp only
  clear h hh hms em
  generalize hE:gZ _ _ _=R
  unfold gZ at hE
  simp only [gL,gO,hO,d1]at e0 hE
  rcases hq with rfl|rfl|rfl
  ·rw [show jd 100= -1 from by decide]at eh
   simp [-ak,func205,f205,e0,eh]at hE
   exact hE.symm
  ·rw [show jd 99= -1 from by decide]at eh
   simp [-ak,func205,f205,e0,eh]at hE
   exact hE.symm
  ·rw [show jd 121= -1 from by decide]at eh
   simp [-ak,func205,f205,e0,eh]at hE
   exact hE.symm
 rw [if_neg c8]
 simp only
 have aoy:e.Op=0→¬r=100∧¬r=99∧¬r=121:=fun q=>⟨fun z=>c8 ⟨q,by rw [z];rfl⟩,fun z=>c8 ⟨q,by rw [z];rfl⟩,fun z=>c8 ⟨q,by rw [z];rfl⟩⟩
 have amQ:¬e.Op=48:=fun z=>by
  rcases h.op with q|q
  ·omega
  ·rw [z]at q;exact absurd q (by decide)
 have go:∀p:dw×Int,
   ((¬e.Op=0∧r=e.Op∧iZ [gL e,vI e.Op,vI 0,vI e.au.av.length] [] []=some (kR p))∨
    (¬(¬e.Op=0∧r=e.Op)∧
     ((∃q,gQ e.au.av (aS e) r 1=some q∧jH [gL e,vI r] [] []=some (kR p))∨
      (gQ e.au.av (aS e) r 1=none∧¬e.Op=0∧p=dJ e)∨
      (gQ e.au.av (aS e) r 1=none∧e.Op=0∧nP [gL e,aH f l,vI r] [] []=some (kR p)))))→
   gZ [gL e,aH f l,vI r] [] []=some (kR p):=by
  intro p hp
  generalize gQ e.au.av (aS e) r 1=mo at*
  generalize dJ e=pb at*
  generalize jd r=how at*
  have tests:((49≤r∧¬r≤57)∨¬49≤r)∧((r=48∧¬0<e.bA)∨¬r=48):=by
   refine⟨?_,?_⟩
   ·by_cases q:49≤r
    ·exact .inl ⟨q,fun z=>c2 ⟨q,z⟩⟩
    ·exact .inr q
   ·by_cases q:r=48
    ·exact .inl ⟨q,c4 q⟩
    ·exact .inr q
  clear h hh hms c1 c2 c3 c4 hc hr
  generalize hE:gZ _ _ _=R
  unfold gZ at hE
  obtain⟨t1,t2⟩:=tests
  rcases hp with⟨p1,p2,p3⟩|⟨p1,p2⟩
  ·subst p2
   rcases t1 with⟨t1,t3⟩|t1<;>rcases t2 with⟨t2,t4⟩|t2
   ·omega
   ·simp [-ak,func205,f205,e0,eh,c5,c6,c7,p1,p3,t1,t3,t2]at hE
    exact hE.symm
   ·exact absurd t2 amQ
   ·simp [-ak,func205,f205,e0,eh,c5,c6,c7,p1,p3,t1,t2]at hE
    exact hE.symm
  ·by_cases d1:e.Op=0
   ·obtain⟨o1,o2,o3⟩:=aoy d1
    rcases p2 with⟨q,rfl,p3⟩|⟨-,p3, -⟩|⟨rfl, -,p3⟩
    ·simp only [mR]at em
     simp only [gL,gO,hO,d1]at e0 p3 hE
     rcases t1 with⟨t1,t3⟩|t1<;>rcases t2 with⟨t2,t4⟩|t2
     ·omega
     ·simp [-ak,func205,f205,e0,eh,em,c5,c6,c7,p3,o1,o2,o3,t1,t3,t2]at hE
      exact hE.symm
     ·subst t2
      simp [-ak,func205,f205,e0,eh,em,c5,c6,c7,p3,o1,o2,o3,t4]at hE
      exact hE.symm
     ·simp [-ak,func205,f205,e0,eh,em,c5,c6,c7,p3,o1,o2,o3,t1,t2]at hE
      exact hE.symm
    ·exact absurd d1 p3
    ·simp only [mR]at em
     simp only [gL,gO,hO,d1]at e0 p3 hE
     rcases t1 with⟨t1,t3⟩|t1<;>rcases t2 with⟨t2,t4⟩|t2
     ·omega
     ·simp [-ak,func205,f205,e0,eh,em,c5,c6,c7,p3,o1,o2,o3,t1,t3,t2]at hE
      exact hE.symm
     ·subst t2
      simp [-ak,func205,f205,e0,eh,em,c5,c6,c7,p3,o1,o2,o3,t4]at hE
      exact hE.symm
     ·simp [-ak,func205,f205,e0,eh,em,c5,c6,c7,p3,o1,o2,o3,t1,t2]at hE
      exact hE.symm
   ·have d2:¬r=e.Op:=fun q=>p1 ⟨d1,q⟩
    rcases p2 with⟨q,rfl,p3⟩|⟨rfl, -,rfl⟩|⟨-,p3, -⟩
    ·simp only [mR]at em
     rcases t1 with⟨t1,t3⟩|t1<;>rcases t2 with⟨t2,t4⟩|t2
     ·omega
     ·simp [-ak,func205,f205,e0,eh,em,c5,c6,c7,p3,d1,d2,t1,t3,t2]at hE
      exact hE.symm
     ·subst t2
      simp [-ak,func205,f205,e0,eh,em,c5,c6,c7,p3,d1,d2,t4]at hE
      exact hE.symm
     ·simp [-ak,func205,f205,e0,eh,em,c5,c6,c7,p3,d1,d2,t1,t2]at hE
      exact hE.symm
    ·simp only [mR]at em
     rcases t1 with⟨t1,t3⟩|t1<;>rcases t2 with⟨t2,t4⟩|t2
     ·omega
     ·simp [-ak,func205,f205,e0,eh,em,eb,c5,c6,c7,d1,d2,t1,t3,t2]at hE
      exact hE.symm
     ·subst t2
      simp [-ak,func205,f205,e0,eh,em,eb,c5,c6,c7,d1,d2,t4]at hE
      exact hE.symm
     ·simp [-ak,func205,f205,e0,eh,em,eb,c5,c6,c7,d1,d2,t1,t2]at hE
      exact hE.symm
    ·exact absurd p3 d1
 by_cases c9:¬e.Op=0∧r=e.Op
 ·rw [if_pos c9]
  have e4:=uT e h hm r (by rw [c9.2];exact h.op.resolve_left c9.1) 0 e.au.av.length (by omega) (Nat.le_refl _)
  rw [Int.natCast_zero]at e4
  refine go _ (.inl ⟨c9.1,c9.2,?_⟩)
  rw [←c9.2]
  exact e4
 rw [if_neg c9]
 cases hm2:gQ e.au.av (aS e) r (gY e)with
 | some q=>
  rw [hm2]at hms
  obtain⟨q1,hq1⟩:=Option.isSome_iff_exists.1 hms
  have e4:=yF e h hm r
  unfold l9 at e4
  rw [hm2]at e4
  exact go _ (.inr ⟨c9, .inl ⟨q1,hq1,e4⟩⟩)
 | none=>
  rw [hm2]at hms
  have hn1:gQ e.au.av (aS e) r 1=none:=by
   cases hz:gQ e.au.av (aS e) r 1 with
   | none=>rfl
   | some q=>rw [hz]at hms;cases hms
  simp only
  by_cases d1:e.Op=0
  ·rw [if_neg (fun q=>q d1)]
   exact go _ (.inr ⟨c9, .inr (.inr ⟨hn1,d1,abM e h hm hh r (hu d1)⟩)⟩)
  ·rw [if_pos d1]
   exact go _ (.inr ⟨c9, .inr (.inl ⟨hn1,d1,rfl⟩)⟩)
end
section
variable (e:dw) (h:fO e) (hm:e.bR=2) {f:Int} {l:List ByteArray} (hh:iB f l)
include h hm hh
theorem PL (hw:e.eY=0)(k r:Int)(p:dw×Int)(hp:(k=1∧gZ [gL e,aH f l,vI r] [] []=some (kR p))∨
  (k=4∧p=(e,2))∨(k=7∧e.bA=0∧e.Op=0∧p=dJ e)∨(k=7∧¬e.bA=0∧p=(sU e e.iA,0))∨(k=7∧e.bA=0∧¬e.Op=0∧p=(sU e e.iA,0))∨
  (k=8∧kK [gL e,aH f l,vI (-1)] [] []=some (kR p))∨(k=9∧kK [gL e,aH f l,vI 1] [] []=some (kR p))∨
  ((k=11∨k=5)∧jH [gL e,vI 104] [] []=some (kR p))∨(k=10∧jH [gL e,vI 108] [] []=some (kR p))∨
  (k=12∧jH [gL e,vI 48] [] []=some (kR p))∨(k=13∧jH [gL e,vI 36] [] []=some (kR p))∨
  (k=14∧iZ [gL e,vI 100,vI e.au.At,vI ((min (aS e+gY e) e.au.av.length:Nat):Int)] [] []=some (kR p))∨
  (k=2∧r=99∧p=(e,3))∨(k=2∧r=108∧p=(e,5))∨(k=2∧r=100∧e.au.av.length=0∧p=(e,4))∨(k=2∧r=100∧¬e.au.av.length=0∧p=dJ e)∨
  (k=2∧r=114∧nH [gL e] [] []=some (kR p))∨
  (k=2∧p=dJ e∧¬r=99∧¬r=108∧¬r=100∧¬r=114)∨
  (p=dJ e∧¬k=1∧¬k=4∧¬k=7∧¬k=8∧¬k=9∧¬k=11∧¬k=5∧¬k=10∧¬k=12∧¬k=13∧¬k=14∧¬k=2)):
  jR [gL e,aH f l,aK k r] [] []=some (kR p):=by
 obtain⟨a1,a2,a3,a4⟩:=h.aS
 obtain⟨n1,n2,n3⟩:=h.gY
 have e0:=BH e h
 have w1:=bN (e.au.At+gY e) (by omega)
 have c1:=dn (e.au.At+gY e) e.au.av.length (by omega)
 rw [show max 0 (min (e.au.At+gY e) e.au.av.length)=((min (aS e+gY e) e.au.av.length:Nat):Int)from by omega]at c1
 have e3:=fV e h
 have e4:=jD e h
 generalize ((min (aS e+gY e) e.au.av.length:Nat):Int)=x1 at*
 generalize gY e=n at*
 clear h hh
 generalize hE:jR _ _ _=R
 unfold jR at hE
 simp only [dJ,sU]at hp e4
 simp only [gL,gO,hO,hw]at e0 e3 e4 hp hE
 rcases hp with⟨rfl,e1⟩|⟨rfl,rfl⟩|⟨rfl,z1,z2,rfl⟩|⟨rfl,z1,rfl⟩|⟨rfl,z1,z2,rfl⟩|⟨rfl,e1⟩|⟨rfl,e1⟩|⟨rfl|rfl,e1⟩|⟨rfl,e1⟩|⟨rfl,e1⟩|⟨rfl,e1⟩|⟨rfl,e1⟩|⟨rfl,rfl,rfl⟩|⟨rfl,rfl,rfl⟩|⟨rfl,rfl,z1,rfl⟩|⟨rfl,rfl,z1,rfl⟩|⟨rfl,rfl,e1⟩|⟨rfl,rfl,d1,d2,d3,d4⟩|⟨rfl,d1,d2,d3,d4,d5,d6,d7,d8,d9,d10,d11,d12⟩
 ·simp [-ak,func116,f116,e1]at hE
  exact hE.symm
 ·simp [-ak,func116,f116,e3]at hE
  simp only [kR,gL,gO,hO,hw]
  exact hE.symm
 ·simp only [gL,gO,hO,z1,z2]at e4 hE
  simp [-ak,func116,f116,e4]at hE
  exact hE.symm
 ·simp [-ak,func116,f116,e4,z1]at hE
  exact hE.symm
 ·simp only [gL,gO,hO,z1]at e4 hE
  simp [-ak,func116,f116,e4,z2]at hE
  exact hE.symm
 iterate 7
  ·simp [-ak,func116,f116,e1]at hE
   exact hE.symm
 ·simp [-ak,func116,f116,e0,w1,c1,e1]at hE
  exact hE.symm
 iterate 2
  ·simp [-ak,func116,f116,e3]at hE
   simp only [kR,gL,gO,hO,hw]
   exact hE.symm
 ·have z2:e.au.av= []:=List.length_eq_zero_iff.1 z1
  simp only [gL,gO,hO,z2,aZ]at e3 hE
  simp [-ak,func116,f116,e3]at hE
  simp only [kR,gL,gO,hO,hw,z2,aZ]
  exact hE.symm
 ·have z2:¬e.au.av= []:=fun q=>z1 (by rw [q];rfl)
  simp [-ak,func116,f116,e4,z2]at hE
  exact hE.symm
 ·simp [-ak,func116,f116,e1]at hE
  exact hE.symm
 ·simp [-ak,func116,f116,e4,d1,d2,d3,d4]at hE
  exact hE.symm
 ·simp [-ak,func116,f116,e4,d1,d2,d3,d4,d5,d6,d7,d8,d9,d10,d11,d12]at hE
  exact hE.symm
theorem Vl (k r:Int)(hk:ji k r=true)(hu:k=1→e.eY=0→e.Op=0→r=117→iP [gL e] [] []=some (kR (nQ e))):jR [gL e,aH f l,aK k r] [] []=some (kR (if ¬e.eY=0 then yx e k r (gY e)else if ¬k=1 then yA e f l k r (gY e)else uE e f l r (gY e))):=by
 by_cases hw:e.eY=0
 ·rw [if_neg (fun q=>q hw)]
  refine PL e h hm hh hw k r _ ?_
  by_cases c1:k=1
  ·rw [if_neg (fun q=>q c1)]
   refine .inl ⟨c1,ad4 e h hm hh r ?_ (hu c1 hw)⟩
   subst c1;simpa [ji] using hk
  rw [if_pos c1]
  unfold yA
  by_cases c4:k=4
  ·rw [if_pos c4];exact .inr (.inl ⟨c4,rfl⟩)
  rw [if_neg c4]
  by_cases c7:k=7
  ·rw [if_pos c7]
   by_cases z1:e.bA=0
   ·by_cases z2:e.Op=0
    ·rw [if_pos ⟨z1,z2,h.opz.resolve_left (fun q=>q z2),hw⟩]
     exact .inr (.inr (.inl ⟨c7,z1,z2,rfl⟩))
    ·rw [if_neg (fun q=>z2 q.2.1)]
     exact .inr (.inr (.inr (.inr (.inl ⟨c7,z1,z2,rfl⟩))))
   ·rw [if_neg (fun q=>z1 q.1)]
    exact .inr (.inr (.inr (.inl ⟨c7,z1,rfl⟩)))
  rw [if_neg c7]
  refine .inr (.inr (.inr (.inr (.inr ?_))))
  by_cases c8:k=8
  ·rw [if_pos c8];exact .inl ⟨c8,uH e h hh (-1) (.inr rfl)⟩
  rw [if_neg c8]
  by_cases c9:k=9
  ·rw [if_pos c9];exact .inr (.inl ⟨c9,uH e h hh 1 (.inl rfl)⟩)
  rw [if_neg c9]
  refine .inr (.inr ?_)
  by_cases c11:k=11∨k=5
  ·rw [if_pos c11];exact .inl ⟨c11,yF e h hm 104⟩
  rw [if_neg c11]
  by_cases c10:k=10
  ·rw [if_pos c10];exact .inr (.inl ⟨c10,yF e h hm 108⟩)
  rw [if_neg c10]
  by_cases c12:k=12
  ·rw [if_pos c12];exact .inr (.inr (.inl ⟨c12,yF e h hm 48⟩))
  rw [if_neg c12]
  by_cases c13:k=13
  ·rw [if_pos c13];exact .inr (.inr (.inr (.inl ⟨c13,yF e h hm 36⟩)))
  rw [if_neg c13]
  refine .inr (.inr (.inr (.inr ?_)))
  by_cases c14:k=14
  ·rw [if_pos c14]
   obtain⟨a1,a2,a3,a4⟩:=h.aS
   have e1:=uT e h hm 100 rfl (aS e) (min (aS e+gY e) e.au.av.length) (by omega) (by omega)
   rw [←a1]at e1
   exact .inl ⟨c14,e1⟩
  rw [if_neg c14]
  refine .inr ?_
  by_cases c2:k=2
  ·rw [if_pos c2]
   by_cases r1:r=99
   ·rw [if_pos r1];exact .inl ⟨c2,r1,rfl⟩
   rw [if_neg r1]
   by_cases r2:r=108
   ·rw [if_pos r2];exact .inr (.inl ⟨c2,r2,rfl⟩)
   rw [if_neg r2]
   refine .inr (.inr ?_)
   by_cases r3:r=100
   ·by_cases hz:e.au.av.length=0
    ·rw [if_pos ⟨r3,hz⟩];exact .inl ⟨c2,r3,hz,rfl⟩
    ·rw [if_neg (fun q=>hz q.2),if_neg (by omega)];exact .inr (.inl ⟨c2,r3,hz,rfl⟩)
   rw [if_neg (fun q=>r3 q.1)]
   by_cases r4:r=114
   ·rw [if_pos r4];exact .inr (.inr (.inl ⟨c2,r4,G8 e h (by omega)⟩))
   rw [if_neg r4]
   exact .inr (.inr (.inr (.inl ⟨c2,rfl,r1,r2,r3,r4⟩)))
  rw [if_neg c2]
  exact .inr (.inr (.inr (.inr (.inr (.inr ⟨rfl,c1,c4,c7,c8,c9,fun q=>c11 (.inl q),fun q=>c11 (.inr q),c10,c12,c13,c14,c2⟩)))))
 ·rw [if_pos hw]
  have e1:=ad3 e h hm k r hw hk
  generalize yx e k r (gY e)=p at*
  clear h hh
  generalize hE:jR _ _ _=R
  simp [jR, -ak,func116,f116,e1,hw]at hE
  exact hE.symm
end
section
variable (e:dw) (h:fO e) {f:Int} {l:List ByteArray} (hh:iB f l)
include h hh
theorem ai7 (k r:Int)(hk:ji k r=true)(hm:e.bR=1∨e.bR=2)(hu:e.bR=2→k=1→e.eY=0→e.Op=0→r=117→iP [gL e] [] []=some (kR (nQ e))):oU [gL e,aH f l,aK k r] [] []=some (kR (viE e f l k r)):=by
 obtain⟨a1,a2,a3,a4⟩:=h.aS
 have ea:=sD e (fD.2 h)
 have eb:=uP f l hh
 have ec:=nJ k r
 rw [hk]at ec
 unfold viE
 by_cases m1:e.bR=1
 ·rw [if_pos m1]
  have e1:=JU e h hh k r hk (.inr m1)
  cases hp:p8 e f l k r with
  | some p=>
   rw [hp]at e1
   simp only
   clear h hh
   generalize hE:oU _ _ _=R
   unfold oU at hE
   simp only [gL,gO,hO,m1]at ea e1 hE
   simp [-ak,func40,f40,ea,eb,ec,e1]at hE
   exact hE.symm
  | none=>
   rw [hp]at e1
   simp only [kRo,JI,yH,aZ,show aC []= []from rfl,show aG []= []from rfl]at e1
   simp only
   by_cases c7:k=7
   ·rw [if_pos c7]
    subst c7
    have e2:=fV e h
    have w1:=bN (e.au.At-1) (by omega)
    have c1:=dn (e.au.At-1) e.au.av.length (by omega)
    rw [show max 0 (min (e.au.At-1) e.au.av.length)=max (e.au.At-1) 0 by omega]at c1
    have e5:e.bA=e.bA∧e.Op=0∧e.bH=0∧e.eY=0:=by
     have:=h.cmd.resolve_left (by omega)
     exact⟨rfl,this.1,this.2.2,this.2.1⟩
    obtain⟨-,o1,o2,o3⟩:=e5
    have e6:=wE e
    unfold ake
    clear h hh
    generalize hE:oU _ _ _=R
    unfold oU at hE
    simp only [gL,gO,hO,m1,o1,o2,o3]at ea e1 e2 e6 hE
    simp [-ak,func40,f40,ea,eb,ec,e1,e2,e6,w1,c1]at hE
    simp only [kR,gL,gO,hO,o1,o2,o3]
    exact hE.symm
   ·rw [if_neg c7]
    have e2:=jD e h
    generalize dJ e=p at*
    clear h hh
    generalize hE:oU _ _ _=R
    unfold oU at hE
    simp only [gL,gO,hO,m1]at ea e1 e2 hE
    simp [-ak,func40,f40,ea,eb,ec,e1,e2,c7]at hE
    exact hE.symm
 rw [if_neg m1]
 have m2:e.bR=2:=hm.resolve_left m1
 have e1:=Vl e h m2 hh k r hk (hu m2)
 generalize (if ¬e.eY=0 then yx e k r (gY e)else if ¬k=1 then yA e f l k r (gY e)else uE e f l r (gY e))=p at*
 clear h hh
 generalize hE:oU _ _ _=R
 unfold oU at hE
 simp only [gL,gO,hO,m2]at ea e1 hE
 simp [-ak,func40,f40,ea,eb,ec,e1]at hE
 exact hE.symm
end
@[simp] theorem akZ (P:Program)(s:S)(n:TypeId)(ps:Array (Nat×Operand)):jl P s (.build n ps)=bnd (P.underlying n) fun d=>bnd (zI d) fun fs=>grd (jr P n=true) (bnd (jN P n) fun z=>bnd (bK (o9 s) ps.toList) fun vs=>bnd (sN P fs z vs) fun cs=>some (.agg cs)):=id rfl
@[simp] theorem alJ (P:Program)(s:S)(c x y:Operand):jl P s (.pick c x y)=bnd (s.ev c) fun c=>bnd (Fw c) fun b=>s.ev (if b then x else y):=id rfl
def abN (l:List ByteArray)(sub:List UInt8)(i:Nat):Bool:=Lib.contains (l.getD i ⟨#[]⟩).data.toList sub
theorem abO {l:List ByteArray}{i:Nat}(h:i<l.length):l.getD i ⟨#[]⟩=l[i]:=by rw [List.getD_eq_getElem?_getD,List.getElem?_eq_getElem h];rfl
theorem Vm {f:Int}{sub:List UInt8}{fr:Int}{l:List ByteArray}(n0:Nat):∀n,n0≤n→(∀i,n0≤i→i<n→fr<f+i)→je f sub fr l n=je f sub fr l n0
 | n,h,hs=>by
  induction n with
  | zero=>rw [show n0=0 by omega]
  | succ n ih=>
   by_cases e:n0=n+1
   ·rw [e]
   ·have e2:je f sub fr l (n+1)=je f sub fr l n:=by
     show(if f+n≤fr∧(l[n]?.map fun s=>Lib.contains s.data.toList sub)=some true then f+n else je f sub fr l n)=_
     exact if_neg (by have:=hs n (by omega) (by omega);omega)
    rw [e2]
    exact ih (by omega) (fun i h1 h2=>hs i h1 (by omega))
theorem Lv {f:Int}{sub:List UInt8}{fr:Int}{l:List ByteArray}:∀n:Nat,(∀i:Nat,i<n→f+i≤fr)→n≤l.length→
  (je f sub fr l n=0∧∀i,i<n→abN l sub i=false)∨(∃i:Nat,i<n∧abN l sub i=true∧(∀j,i<j→j<n→abN l sub j=false)∧je f sub fr l n=f+i)
 | 0,_,_=> .inl ⟨rfl,fun i h=>absurd h (Nat.not_lt_zero _)⟩
 | n+1,h1,h2=>by
  have hn:n<l.length:=by omega
  have hh:abN l sub n=Lib.contains l[n].data.toList sub:=by unfold abN;rw [abO hn]
  unfold je
  rw [List.getElem?_eq_getElem hn]
  cases hc:abN l sub n
  ·rw [if_neg (by rw [hh]at hc;simp [hc])]
   rcases Lv (f:=f) (sub:=sub) (fr:=fr) (l:=l) n (fun i hi=>h1 i (by omega)) (by omega)with⟨q1,q2⟩|⟨i,q1,q2,q3,q4⟩
   ·refine .inl ⟨q1,fun i hi=>?_⟩
    by_cases e:i=n
    ·rw [e];exact hc
    ·exact q2 i (by omega)
   ·refine .inr ⟨i,by omega,q2,fun j hj hj2=>?_,q4⟩
    by_cases e:j=n
    ·rw [e];exact hc
    ·exact q3 j hj (by omega)
  ·rw [hh]at hc
   rw [if_pos ⟨h1 n (by omega),by simp [hc]⟩]
   exact .inr ⟨n,by omega,by rw [hh];exact hc,fun j hj hj2=>by omega,rfl⟩
theorem ad5 (s t:ByteArray)(hs:s.size<4294967281):lK [V.v (.string s),V.v (.string t)] [] []=some ⟨V.v (.bool (Lib.contains s.data.toList t.data.toList)),[],[]⟩:=by
 unfold lK
 simp only
 rw [if_pos hs]
theorem aff (s t:ByteArray)(hs:s.size<4294967281):sj [V.v (.string s),V.v (.string t)] [] []=some ⟨vI (Lib.index s.data.toList t.data.toList),[],[]⟩:=by
 unfold sj
 simp only
 rw [if_pos hs]
theorem abP (f:Int)(l:List ByteArray)(hh:iB f l)(s:ByteArray)(fr:Int)(hfr: -2≤fr∧fr≤2000000000):Ae [.agg [vI f, .aL (some 0) (strs l)],V.v (.string s),vI fr,vI (-1),V.v (.bool false)] [] []=some ⟨vI (je f s.data.toList fr l l.length),[],[]⟩:=by
 have h1:=hh.first
 have h2:=hh.len
 have e1:=E9 f l hh
 have w1:=bN (f+l.length) (by omega)
 have w2:=bN (f+l.length-1) (by omega)
 obtain⟨n0,hn0,hle,hup,hdn⟩:∃n0:Nat,n0≤l.length∧(∀i:Nat,i<n0→f+i≤fr)∧(∀i:Nat,n0≤i→i<l.length→fr<f+i)∧((n0=0∧min fr (f+l.length-1)<f)∨(0<n0∧min fr (f+l.length-1)=f+n0-1)):=by
  by_cases c:fr<f
  ·exact⟨0,by omega,fun i hi=>by omega,fun i _ _=>by omega, .inl ⟨rfl,by omega⟩⟩
  ·refine⟨min (fr-f+1).toNat l.length,by omega,fun i hi=>by omega,fun i _ _=>by omega,?_⟩
   by_cases c2:l.length=0
   ·exact .inl ⟨by omega,by omega⟩
   ·exact .inr ⟨by omega,by omega⟩
 rw [Vm n0 l.length hn0 hup]
 have ge:∀i (hi:i<l.length),lK [V.v (.string (l[i])),V.v (.string s)] [] []=some ⟨V.v (.bool (abN l s.data.toList i)),[],[]⟩:=fun i hi=>by
  have:=hh.each _ (List.getElem_mem hi)
  rw [ad5 _ _ (by omega)]
  unfold abN
  rw [abO hi]
 generalize hE:Ae _ _ _=R
 simp [Ae,func173,f173,e1,w1,w2]at hE
 generalize hm:min fr (f+ ↑l.length-1)=m0 at*
 have inl:∀x:Int,xL [vI x,vI f,vI (f+ ↑l.length-1)] [] []=some ⟨V.v (.bool (iw x f (f+ ↑l.length-1))),[],[]⟩:=fun x=>dH _ _ _
 generalize hla:f+ ↑l.length-1=la at*
 rcases Lv (f:=f) (sub:=s.data.toList) (fr:=fr) (l:=l) n0 hle hn0 with⟨q1,q2⟩|⟨i,q1,q2,q3,q4⟩
 ·rw [q1]
  rw [aD (fun j=> .on ⟨[(12,V.v (.int .i64 (m0-j))),(11,V.v (.int .i64 la)),(5, .ref 5 0),(4,V.v (.bool false)),(3,V.v (.int .i64 ((-1)))),(1,V.v (.string s))],[(5,[vI f, .aL (some 0) (strs l)])],[],[]⟩) n0 ?_ ?_]at hE
  ·have hno:iw (m0-n0) f la=false:=by
    cases hq:iw (m0-n0) f la
    ·rfl
    ·have:=bC.1 hq;omega
   simp [inl,hno]at hE
   exact hE.symm
  ·simp
  ·intro j hj
   have hi:n0-1-j<l.length:=by omega
   have g1:=ge (n0-1-j) hi
   rw [q2 _ (by omega)]at g1
   have hin:iw (m0-j) f la=true:=bC.2 (by omega)
   have hx:m0-j-f=((n0-1-j:Nat):Int):=by omega
   have w3:=bN ((n0-1-j:Nat):Int) (by omega)
   have w4:=bN (m0-j+ -1) (by omega)
   have hs:m0-((j+1:Nat):Int)=m0-j+ -1:=by omega
   simp only [gL,gO,hO,hs]
   generalize m0-(j:Int)=x at*
   have hix:((n0-1-j:Nat):Int)<l.length:=by omega
   generalize n0-1-j=i at*
   simp [inl,hin,hx,w3,w4,hi,hix,mE hi,g1]
 ·rw [q4]
  rw [aD (fun j=> .on ⟨[(12,V.v (.int .i64 (m0-j))),(11,V.v (.int .i64 la)),(5, .ref 5 0),(4,V.v (.bool false)),(3,V.v (.int .i64 ((-1)))),(1,V.v (.string s))],[(5,[vI f, .aL (some 0) (strs l)])],[],[]⟩) (n0-1-i) ?_ ?_]at hE
  ·have hi:i<l.length:=by omega
   have g1:=ge i hi
   rw [q2]at g1
   have hx0:m0-((n0-1-i:Nat):Int)=f+i:=by omega
   rw [hx0]at hE
   have hin:iw (f+i) f la=true:=bC.2 (by omega)
   have hx:f+(i:Int)-f=i:=by omega
   have w3:=bN (i:Int) (by omega)
   have hix:(i:Int)<l.length:=by omega
   generalize hy:f+(i:Int)=y at*
   simp [inl,hin,hx,w3,hi,hix,mE hi,g1]at hE
   exact hE.symm
  ·simp
  ·intro j hj
   have hi:n0-1-j<l.length:=by omega
   have g1:=ge (n0-1-j) hi
   rw [q3 _ (by omega) (by omega)]at g1
   have hin:iw (m0-j) f la=true:=bC.2 (by omega)
   have hx:m0-j-f=((n0-1-j:Nat):Int):=by omega
   have w3:=bN ((n0-1-j:Nat):Int) (by omega)
   have w4:=bN (m0-j+ -1) (by omega)
   have hs:m0-((j+1:Nat):Int)=m0-j+ -1:=by omega
   simp only [gL,gO,hO,hs]
   generalize m0-(j:Int)=x at*
   have hix:((n0-1-j:Nat):Int)<l.length:=by omega
   generalize n0-1-j=i' at*
   simp [inl,hin,hx,w3,w4,hi,hix,mE hi,g1]
theorem Ur (s:ByteArray)(hs:s.size≤65536):∃b,zo [V.v (.string s)] [] []=some ⟨.fU [.own 0,V.v (.bool b)],[],[(0,ints (sV s))]⟩:=by
 have hr:=uw s.data.toList
 have e1:=Mk s _ _ hr hs
 refine⟨(rO s.data.toList).isEmpty,e1.trans ?_⟩
 unfold sV
 by_cases hz:rO s.data.toList= []
 ·have hz':(rO s.data.toList).isEmpty=true:=by rw [hz];rfl
  rw [if_pos hz,if_pos hz']
 ·have hz':¬(rO s.data.toList).isEmpty=true:=by simpa using hz
  rw [if_neg hz,if_neg hz']
  rfl
section
variable (e:dw) (h:fO e) {f:Int} {l:List ByteArray} (hh:iB f l)
include h hh
theorem ad6 (n:Int)(q:List Int)(hm:e.bR=3)(hq:q.all dh=true)(hq2:q.length≤41)(hn:n=0∨(f≤n∧n≤f+l.length-1)):vZ [gL e,aH f l,vI n, .aL (some 7) (ints q)] [] []=some (sR (nI e f l n q)):=by
 have h1:=hh.first
 have h2:=hh.len
 have e1:=NQ e (fD.2 h)
 have e2:=eF e h
 unfold nI
 by_cases KY:q.length≤40
 ·rw [if_pos KY]
  have alK:¬(40:Int)<q.length:=by omega
  have e3:=JN f l hh n
  have e4:=WX q (by omega)
  have e5:=j5 e.bT.av (some 0) e.bT.At (by have:=(bU h.back).1;omega)
  have e6:=lg q (some 0) (by omega)
  generalize hE:vZ _ _ _=R
  unfold vZ at hE
  simp only [gL,gO,hO,hm]at e1 e2 hE
  simp [func175,f175,e1,KY,alK]at hE
  rw [aD (fun j=> .on ⟨[(36,V.v (.int .i64 ((j:Int)))),(35,V.v (.int .i64 ((q.length:Int)))),(34, .aL (some 7) (ints q)),(8, .ref 8 0),(5, .ref 5 0),(4, .ref 4 0),(3, .aL (some 7) (ints q)),(2,V.v (.int .i64 n))],[(8,[V.v (.bool false),vI 0, .own 2000000000,vI 0,vI 0,vI 0,vI 0,vI 0,vI 0,vI 0,vI 0, .own 2000000001, .own 2000000002,vI 0, .own 2000000003,vI 0, .own 2000000004,vI 0, .own 2000000005,vI 0]),(5,[vI f, .aL (some 6) (strs l)]),(4,[V.v (.bool e.Vi),vI 3, .aL (some 0) (ints e.au.av),vI e.au.At,vI e.bA,vI e.Op,vI e.bH,vI e.eY,vI e.dN,vI e.bG,vI e.iA, .aL (some 1) (aC e.aM.aA), .aL (some 2) (aG e.eO.bP),vI e.jT, .aL (some 3) (ints e.gG.av),vI e.gG.At, .aL (some 4) (ints e.bI),vI e.kV, .aL (some 5) (ints e.bT.av),vI e.bT.At])],[(2000000005,[]),(2000000004,[]),(2000000003,[]),(2000000002,[]),(2000000001,[]),(2000000000,[])],[]⟩) q.length ?_ ?_]at hE
  ·have hzl:=qd ⟨#[]⟩ (by decide)
   have hz:mK ⟨#[]⟩=some []:=by
    unfold mK
    obtain⟨q1,q2⟩:=yD reads_nil
    rw [q1,q2,if_pos ⟨rfl,by decide⟩]
   rw [hz]at hzl
   simp only [aZ,List.length_nil,Int.natCast_zero]at hzl
   have hdl:(⟨(bM q).toArray⟩:ByteArray).data.toList=bM q:=rfl
   cases hg:pY f l n with
   | none=>
    rw [hg]at e3
    have e7:=aff ⟨#[]⟩ ⟨(bM q).toArray⟩ (by decide)
    simp [e3,hzl,e4,e7]at hE
    exact hE.symm
   | some s=>
    rw [hg]at e3
    have hss:=sI hh hg
    have e7:=aff s ⟨(bM q).toArray⟩ (by omega)
    rw [hdl]at e7
    have e8:=qd s (by omega)
    simp only
    cases hl:mK s with
    | none=>
     rw [hl]at e8
     simp [e3,e8,e4,e7]at hE
     exact hE.symm
    | some t=>
     rw [hl]at e8
     simp only
     obtain⟨to1,to2⟩:=KL hl
     have htl:t.length≤400:=by simp only [eT,Bool.and_eq_true,decide_eq_true_eq]at to1;exact to1.1
     have hge:=Lib.index_ge s.data.toList (bM q)
     by_cases hi:0≤Lib.index s.data.toList (bM q)
     ·rw [if_pos hi]
      have hroom:=Lib.index_room s.data.toList (bM q) hi
      have hsz:(s.data.toList.length:Int)=s.size:=by rw [Array.length_toList];rfl
      obtain⟨I,hI⟩:=Int.eq_ofNat_of_zero_le hi
      have hI2:I≤s.size:=by omega
      rw [hI]at e7⊢
      rw [Int.toNat_natCast]
      obtain⟨b9,e9⟩:=Ur (s.extract 0 I) (by simp [ByteArray.size_extract];omega)
      have hext:(s.extract 0 I).data.toList=s.data.toList.take I:=by simp [ByteArray.data_extract]
      have hle:=TQ to2 I (s.extract 0 I) hext
      have hI3:(I:Int)≤s.size:=by omega
      have hI0:¬(I:Int)<0:=by omega
      generalize sV (s.extract 0 I)=front at*
      by_cases hn0:e.jT=0
      ·simp only [gL,gO,hO,hn0]at e2 hE⊢
       simp [e2,e3,e4,e5,e6,e7,e8,e9,hI2,hI3,hI0]at hE
       exact hE.symm.trans (by rw [←hm,if_pos trivial];rfl)
      ·simp [e2,e3,e4,e5,e6,e7,e8,e9,hI2,hI3,hI0,hn0]at hE
       exact hE.symm.trans (by rw [if_neg hn0,←hm];rfl)
     ·rw [if_neg hi]
      have hi':Lib.index s.data.toList (bM q)<0:=by omega
      simp [e3,e8,e4,e7,hi']at hE
      exact hE.symm
  ·simp
  ·intro j hj
   have hw:=bN ((j:Int)+1) (by omega)
   have hp:=List.all_eq_true.1 hq q[j] (List.getElem_mem hj)
   simp [hj,hw,aQ hj,aR,hp]
 ·rw [if_neg KY]
  have alK:(40:Int)<q.length:=by omega
  generalize hE:vZ _ _ _=R
  unfold vZ at hE
  simp only [gL,gO,hO,hm]at e1 e2 hE
  simp [func175,f175,e1,alK]at hE
  exact hE.symm
theorem afg (q:List Int)(fr:Int)(hm:e.bR=3)(hq:q.all dh=true)(hq2:q.length≤41)(hfr: -2≤fr∧fr≤2000000000):Nu [gL e,aH f l, .aL (some 7) (ints q),vI fr] [] []=some (kR (JE e f l q fr)):=by
 have h1:=hh.first
 have h2:=hh.len
 have hlast:0≤gM f l∧gM f l≤1000000059:=by unfold gM;split<;>omega
 have e0:=eF e h
 have e1:=QG f l hh
 have e2:=WX q (by omega)
 have e3:=abP f l hh ⟨(bM q).toArray⟩ (if e.kV=0 then gM f l else fr) (by split<;>omega)
 have hdl:(⟨(bM q).toArray⟩:ByteArray).data.toList=bM q:=rfl
 rw [hdl]at e3
 have e4:=ad6 e h hh (je f (bM q) (if e.kV=0 then gM f l else fr) l l.length) q hm hq hq2 (by
  rcases JM (sub:=bM q) (fr:=if e.kV=0 then gM f l else fr) (l:=l) h1.1 l.length with h|⟨k,h3,h4⟩
  ·exact .inl h
  ·exact .inr (by omega))
 unfold JE
 generalize je f (bM q) (if e.kV=0 then gM f l else fr) l l.length=n at*
 generalize hE:Nu _ _ _=R
 unfold Nu at hE
 cases hs:nI e f l n q with
 | none=>
  rw [hs]at e4
  simp only
  by_cases hz:e.kV=0
  ·rw [if_pos hz]at e3
   simp only [gL,gO,hO,hz]at e0 e4 hE
   simp [func97,f97,e0,e1,e2,e3,e4]at hE
   exact hE.symm.trans (by rw [←hz])
  ·rw [if_neg hz]at e3
   simp [func97,f97,e0,e1,e2,e3,e4,hz]at hE
   exact hE.symm
 | some x=>
  rw [hs]at e4
  simp only
  by_cases hz:e.kV=0
  ·rw [if_pos hz]at e3
   simp only [gL,gO,hO,hz]at e0 e4 hE
   simp [func97,f97,e0,e1,e2,e3,e4]at hE
   exact hE.symm
  ·rw [if_neg hz]at e3
   simp [func97,f97,e0,e1,e2,e3,e4,hz]at hE
   exact hE.symm
theorem Us (r:Int)(hm:e.bR=3)(hp:dh r=true):dx [gL e,aH f l,aK 1 r] [] []=some (kR (JE e f l (e.bI++ [r]) e.kV)):=by
 have e1:=qO e h hh 1 r hp
 have KY:=h.ql
 have hhit:=h.hit
 have e2:=lg e.bI (some 0) (by omega)
 have e3:=afg e h hh (e.bI++ [r]) e.kV hm (by rw [List.all_append,h.qp];simp [hp]) (by simp;omega) (by omega)
 have g1:(e.bI.length+1)*8≤140737488355328:=by omega
 have g2:e.bI.length+1≤4611686018427387904:=by omega
 have g3:e.bI.length≤4611686018427387903:=by omega
 generalize JE e f l (e.bI++ [r]) e.kV=p at*
 rw [ak]at e3
 simp only [OL,aZ]at e3
 generalize hE:dx _ _ _=R
 unfold dx at hE
 simp only [gL,gO,hO,hm]at e1 e3 hE
 simp [func36,f36,e1,e2,e3,g1,g2,g3]at hE
 exact hE.symm
end
theorem Fj (s t:ByteArray){i:Nat}(h:i+t.size≤s.size):((s.extract i (i+t.size)).toList==t.toList)=Lib.occAt s.data.toList t.data.toList i:=(Lib.occ_of_piece s t i h).symm
theorem ai8 (s t:ByteArray)(hs:s.size≤1000000)(ht:t.size≤1000000):Jp [V.v (.string s),V.v (.string t),V.v (.bool false)] [] []=some ⟨V.v (.bool (Lib.contains s.data.toList t.data.toList)),[],[]⟩:=by
 have hsz:s.data.toList.length=s.size:=by rw [Array.length_toList];rfl
 have htz:t.data.toList.length=t.size:=by rw [Array.length_toList];rfl
 have st:∀j,j+t.size≤s.size→(0:Int)≤j∧(j:Int)+t.size≤s.size∧(j:Int)≤(j:Int)+t.size∧0≤(j:Int)+t.size∧((j:Int)+t.size).toNat=j+t.size∧IntKind.i64.wrap ((j:Int)+t.size)=(j:Int)+t.size∧IntKind.i64.wrap ((j:Int)+1)=(j:Int)+1:=fun j hj=>⟨by omega,by omega,by omega,by omega,by omega,bN _ (by omega),bN _ (by omega)⟩
 generalize hE:Jp _ _ _=R
 simp [Jp,func260,f260]at hE
 rcases Lib.index_spec s.data.toList t.data.toList with⟨e1,e2⟩|⟨i,e1,e2,e3,e4⟩
 ·rw [show Lib.contains s.data.toList t.data.toList=false from by unfold Lib.contains;rw [e1];rfl]
  rw [aD (fun j=> .on ⟨[(7,V.v (.int .i64 ((j:Int)))),(2,V.v (.bool false)),(1,V.v (.string t)),(0,V.v (.string s))],[],[],[]⟩) (s.size+1-t.size) ?_ ?_]at hE
  ·have c:¬((s.size+1-t.size:Nat):Int)+t.size≤s.size:=by omega
   have w:=bN (((s.size+1-t.size:Nat):Int)+t.size) (by omega)
   simp [c,w]at hE
   exact hE.symm
  ·simp
  ·intro j hj
   have hjl:j+t.size≤s.size:=by omega
   obtain⟨q1,q2,q3,q4,q5,q6,q7⟩:=st j hjl
   have p:=Fj s t hjl
   rw [e2 j (by omega)]at p
   simp [q1,q2,q3,q4,q5,q6,q7,p]
 ·rw [show Lib.contains s.data.toList t.data.toList=true from by unfold Lib.contains;rw [e1];simp]
  have hroom:=Lib.index_room s.data.toList t.data.toList (by rw [e1];omega)
  rw [e1,hsz,htz]at hroom
  rw [aD (fun j=> .on ⟨[(7,V.v (.int .i64 ((j:Int)))),(2,V.v (.bool false)),(1,V.v (.string t)),(0,V.v (.string s))],[],[],[]⟩) i ?_ ?_]at hE
  ·obtain⟨q1,q2,q3,q4,q5,q6,q7⟩:=st i (by omega)
   have p:=Fj s t (i:=i) (by omega)
   rw [e3]at p
   simp [q1,q2,q3,q4,q5,q6,q7,p]at hE
   exact hE.symm
  ·simp
  ·intro j hj
   obtain⟨q1,q2,q3,q4,q5,q6,q7⟩:=st j (by omega)
   have p:=Fj s t (i:=j) (by omega)
   rw [e4 j hj]at p
   simp [q1,q2,q3,q4,q5,q6,q7,p]
theorem Ut (s:ByteArray)(hs:s.size≤65536):∃b,zA [V.v (.string s)] [] []=some ⟨.fU [.own 0,V.v (.bool b)],[],[(0,ints (sV s))]⟩:=by
 have hr:=uw s.data.toList
 have e1:=Tz s _ _ hr hs
 refine⟨(rO s.data.toList).isEmpty,e1.trans ?_⟩
 unfold sV
 by_cases hz:rO s.data.toList= []
 ·have hz':(rO s.data.toList).isEmpty=true:=by rw [hz];rfl
  rw [if_pos hz,if_pos hz']
 ·have hz':¬(rO s.data.toList).isEmpty=true:=by simpa using hz
  rw [if_neg hz,if_neg hz']
  rfl
noncomputable def KS (s:ByteArray)(t:List UInt8):Int:=if 0≤Lib.index s.data.toList t then((sV (s.extract 0 (Lib.index s.data.toList t).toNat)).length:Int)else -1
theorem QS (s t:ByteArray)(hs:s.size≤65536)(ht:t.size≤1000000):Ak [V.v (.string s),V.v (.string t)] [] []=some ⟨vI (KS s t.data.toList),[],[]⟩:=by
 have hsz:s.data.toList.length=s.size:=by rw [Array.length_toList];rfl
 have htz:t.data.toList.length=t.size:=by rw [Array.length_toList];rfl
 have st:∀j,j+t.size≤s.size→(0:Int)≤j∧(j:Int)+t.size≤s.size∧(j:Int)≤(j:Int)+t.size∧0≤(j:Int)+t.size∧((j:Int)+t.size).toNat=j+t.size∧IntKind.i64.wrap ((j:Int)+t.size)=(j:Int)+t.size∧IntKind.i64.wrap ((j:Int)+1)=(j:Int)+1:=fun j hj=>⟨by omega,by omega,by omega,by omega,by omega,bN _ (by omega),bN _ (by omega)⟩
 unfold KS
 generalize hE:Ak _ _ _=R
 simp [Ak,func259,f259]at hE
 rcases Lib.index_spec s.data.toList t.data.toList with⟨e1,e2⟩|⟨i,e1,e2,e3,e4⟩
 ·rw [e1,if_neg (by decide)]
  rw [aD (fun j=> .on ⟨[(5,V.v (.int .i64 ((j:Int)))),(1,V.v (.string t)),(0,V.v (.string s))],[],[],[]⟩) (s.size+1-t.size) ?_ ?_]at hE
  ·have c:¬((s.size+1-t.size:Nat):Int)+t.size≤s.size:=by omega
   have w:=bN (((s.size+1-t.size:Nat):Int)+t.size) (by omega)
   simp [c,w]at hE
   exact hE.symm
  ·simp
  ·intro j hj
   have hjl:j+t.size≤s.size:=by omega
   obtain⟨q1,q2,q3,q4,q5,q6,q7⟩:=st j hjl
   have p:=Fj s t hjl
   rw [e2 j (by omega)]at p
   simp [q1,q2,q3,q4,q5,q6,q7,p]
 ·rw [e1,if_pos (by omega),Int.toNat_natCast]
  have hroom:=Lib.index_room s.data.toList t.data.toList (by rw [e1];omega)
  rw [e1,hsz,htz]at hroom
  obtain⟨b9,e9⟩:=Ut (s.extract 0 i) (by simp [ByteArray.size_extract];omega)
  rw [aD (fun j=> .on ⟨[(5,V.v (.int .i64 ((j:Int)))),(1,V.v (.string t)),(0,V.v (.string s))],[],[],[]⟩) i ?_ ?_]at hE
  ·obtain⟨q1,q2,q3,q4,q5,q6,q7⟩:=st i (by omega)
   have p:=Fj s t (i:=i) (by omega)
   rw [e3]at p
   have q8:i≤s.size:=by omega
   have q9:(i:Int)≤s.size:=by omega
   generalize sV (s.extract 0 i)=front at*
   simp [q1,q2,q3,q4,q5,q6,q7,q8,q9,p,e9]at hE
   exact hE.symm
  ·simp
  ·intro j hj
   obtain⟨q1,q2,q3,q4,q5,q6,q7⟩:=st j (by omega)
   have p:=Fj s t (i:=j) (by omega)
   rw [e4 j hj]at p
   simp [q1,q2,q3,q4,q5,q6,q7,p]
theorem abQ (f:Int)(l:List ByteArray)(hh:iB f l)(s:ByteArray)(hs:s.size≤1000000)(fr:Int)(hfr: -2≤fr∧fr≤2000000000):Aj [.agg [vI f, .aL (some 0) (strs l)],V.v (.string s),vI fr,vI (-1),V.v (.bool false)] [] []=some ⟨vI (je f s.data.toList fr l l.length),[],[]⟩:=by
 have h1:=hh.first
 have h2:=hh.len
 have e1:=uP f l hh
 generalize hE:Aj _ _ _=R
 simp [Aj,func202,f202,e1]at hE
 rw [aD (fun j=> .on ⟨[(29,V.v (.int .i64 ((j:Int)))),(28,V.v (.int .i64 ((l.length:Int)))),(27, .aL (some 0) (strs l)),(11,V.v (.int .i64 (je f s.data.toList fr l j))),(5, .ref 5 0),(4,V.v (.bool false)),(3,V.v (.int .i64 ((-1)))),(2,V.v (.int .i64 fr)),(1,V.v (.string s))],[(5,[vI f, .aL (some 0) (strs l)])],[],[]⟩) l.length ?_ ?_]at hE
 ·simp at hE
  exact hE.symm
 ·simp [je]
 ·intro j hj
  have hw:=bN ((j:Int)+1) (by omega)
  have w1:=bN (f+j) (by omega)
  have hz:=hh.each _ (List.getElem_mem hj)
  have e2:=ai8 l[j] s (by omega) hs
  rw [je,List.getElem?_eq_getElem hj]
  simp only [Option.map_some,Option.some.injEq]
  generalize je f s.data.toList fr l j=best at*
  cases hc:Lib.contains l[j].data.toList s.data.toList
  ·rw [hc]at e2
   simp [hj,hw,w1,mE hj,e2]
  ·rw [hc]at e2
   by_cases c:f+(j:Int)≤fr
   ·have c':¬fr<f+(j:Int):=by omega
    by_cases b0:best=0
    ·simp [hj,hw,w1,mE hj,e2,c,c',b0]
    ·simp [hj,hw,w1,mE hj,e2,c,c',b0]
   ·have c':fr<f+(j:Int):=by omega
    simp [hj,hw,w1,mE hj,e2,c,c']
section
variable (e:dw) (h:fO e)
include h
theorem abR (hm:e.bR=3):vC [gL e] [] []=some ⟨(gO (yB e)),[],(hO (yB e))⟩:=by
 have ea:=sD e (fD.2 h)
 have e0:=fV e h
 have hl:=bU h.line
 unfold yB
 cases hv:e.Vi with
 | true=>
  have e1:=qW {e with bR:=2,bI:= [],kV:=0,bT:=⟨[],0⟩} ⟨hl.2.2.1,by show e.au.At≤1000;omega⟩
  simp only [gL,gO,hO,hv,aZ]at e1
  rw [if_pos rfl]
  generalize jq 2 e.au.av e.au.At=ia at*
  clear h
  generalize hE:vC _ _ _=R
  unfold vC at hE
  simp only [gL,gO,hO,hv,hm]at ea e0 hE
  simp [-ak,func114,f114,ea,e0,e1]at hE
  exact hE.symm
 | false=>
  have e1:=qW {e with bR:=0,bI:= [],kV:=0,bT:=⟨[],0⟩} ⟨hl.2.2.1,by show e.au.At≤1000;omega⟩
  simp only [gL,gO,hO,hv,aZ]at e1
  rw [if_neg (by decide)]
  generalize jq 0 e.au.av e.au.At=ia at*
  clear h
  generalize hE:vC _ _ _=R
  unfold vC at hE
  simp only [gL,gO,hO,hv,hm]at ea e0 hE
  simp [-ak,func114,f114,ea,e0,e1]at hE
  exact hE.symm
end
end Go.Proofs.YtlpdjhiggpblcaaGreat
