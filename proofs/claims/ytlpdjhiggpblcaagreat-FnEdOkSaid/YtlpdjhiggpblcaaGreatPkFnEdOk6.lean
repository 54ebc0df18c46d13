/- Part 6 of a proof in several texts (an abstract evaluator, what the functions compute). -/
import Derived.Test.YtlpdjhiggpblcaaGreatPkFnEdOk5
import Derived.Scope
namespace Go.Proofs.YtlpdjhiggpblcaaGreat
set_option linter.unusedSectionVars false
set_option linter.unusedSimpArgs false
set_option linter.unusedVariables false
open Go.RowKit
section
variable {P:Program} {G:List (FuncId×Bool×aN)} {ops:Array Oper} {bars:List (Nat×List Nat)} {c:Ctx}
theorem MR {listed:Array Bool}{j:Nat}:j∈Region.ready .any ops listed↔listed.getD j true=false∧∃o,ops[j]?=some o∧∀e∈qz o,listed.getD e false=true:=by
 rw [mem_ready]
 refine and_congr_right fun _=>exists_congr fun o=>and_congr_right fun _=>?_
 unfold qz
 simp only [List.mem_map,List.mem_filter,Array.mem_toList_iff]
 constructor
 ·rintro h e ⟨x,⟨h1,h2⟩,rfl⟩;exact h x h1 h2
 ·intro h x h1 h2;exact h x.on ⟨x,⟨h1,h2⟩,rfl⟩
theorem Good.same {c:Ctx}{s s':S}{a:Act}{w:World}(g:Good c s a w)(hE:∀t v,look t s'.env=some v→look t s.env=some v)(hB:s'.box.Perm s.box)(hT:s'.tree.Perm s.tree)(hF:s'.dG=s.dG):Good c s' a w:=by
 obtain⟨y,A⟩:=g
 have kB:∀b,b∈s'.box.map (·.1)↔b∈s.box.map (·.1):=fun b=>(hB.map _).mem_iff
 have kT:∀b,b∈(s'.tree++s'.dG).map (·.1)↔b∈(s.tree++s.dG).map (·.1):=fun b=>by
  rw [hF];exact((hT.append_right _).map _).mem_iff
 have le:(aX c s y).le (aX c s' y):=⟨fun _ _ h=>h,fun b o ⟨p,h1,h2⟩=>⟨p,by rw [hF];exact h1,h2⟩,rfl,fun b h=>⟨(kB b).2 h,rfl⟩,fun p h=>⟨(kT p).2 h,rfl⟩⟩
 refine⟨y,A.defers,A.size,?_,fun t v e=>(A.env t v (hE t v e)).le le,fun b cs h=>(A.box b cs (hB.mem_iff.1 h)).le le,fun p rows h=>A.dG p rows (by rw [←hF];exact h),(hB.map _).nodup_iff.2 A.nb,?_,A.fix⟩
 ·rw [hF]
  refine A.st.perm (List.Perm.append ?_ (List.Perm.append ?_ (List.Perm.refl _)))
  ·exact(hB.map _).symm
  ·exact(hT.map _).symm
 ·rw [hF]
  exact((hT.append_right s.dG).map _).nodup_iff.2 A.nt
theorem Gf.good {s s2:S}(h:Gf s s2){a:Act}{w:World}(g:Good c s a w):Good c s2 a w:=
 g.same (fun t v e=>by rw [←h.env t];exact e) h.box h.tree h.dG
theorem Good.nd {s:S}{a:Act}{w:World}(g:Good c s a w):Nd s:=by
 obtain⟨y,A⟩:=g
 exact⟨A.nb,A.nt⟩
theorem Good.NJ {s:S}{a:Act}{w:World}(g:Good c s a w):∀r v,look r s.env=some v→NJ (· ∈oO s) (· ∈iH s) v:=by
 obtain⟨y,A⟩:=g
 exact fun r v e=>RV.NJ (A.env r v e)
theorem ae9 {l:List Pd}{i:Nat}(h:i∈l.map (·.i)):∃l1 x l2,l=l1++x::l2∧x.i=i:=by
 obtain⟨x,hx,rfl⟩:=List.mem_map.1 h
 obtain⟨l1,l2,e⟩:=List.append_of_mem hx
 exact⟨l1,x,l2,e,rfl⟩
theorem TQ {α:Type}{l1 l2:List α}{x:α}{d:List α}(h:(l1++x::l2).Sublist d):∃A B,d=A++x::B∧l1.Sublist A∧l2.Sublist B:=by
 obtain⟨A,R,rfl,hA,hR⟩:=List.append_sublist_iff.1 h
 obtain⟨r1,r2,rfl,hx,h2⟩:=List.cons_sublist_iff.1 hR
 obtain⟨u,v,rfl⟩:=List.append_of_mem hx
 refine⟨A++u,v++r2,by simp,hA.trans (List.sublist_append_left _ _),h2.trans (List.sublist_append_right _ _)⟩
theorem afa {L:List (Nat×Oper)}(hO:Z0 ops bars L):(L.map (·.1)).Nodup:=by
 have:∀B A,L=A++B→(A.map (·.1)).Nodup→(L.map (·.1)).Nodup:=by
  intro B
  induction B with
  | nil=>intro A e n;rw [List.append_nil]at e;rw [e];exact n
  | cons x B ih=>
   intro A e n
   refine ih (A++ [x]) (by rw [e];simp) ?_
   rw [List.map_append]
   refine List.nodup_append.2 ⟨n,by simp,fun a ha b hb e2=>?_⟩
   rw [List.map_cons,List.map_nil,List.mem_singleton]at hb
   obtain⟨y,hy,rfl⟩:=List.mem_map.1 ha
   exact((hO.at_ A x B e).2.2 y hy).1 (e2.trans hb)
 exact this L [] rfl List.nodup_nil
theorem ach {listed:Array Bool}(hsz:listed.size=ops.size){j:Nat}(hj:j<ops.size):listed.getD j true=listed.getD j false:=by
 rw [Array.getD_eq_getD_getElem?,Array.getD_eq_getD_getElem?,Array.getElem?_eq_getElem (by omega)];rfl
theorem afb (hC:ED P G){L:List (Nat×Oper)}(hO:Z0 ops bars L)(hd:∀o∈ops.toList,fM c.n o.dst=true){q:S}{Q1:Exit→Act→World→Prop}(k:∀a w,Good c q a w→Q1 .normal a w):
  ∀(fuel:Nat) (listed:Array Bool) (a:Act) (w:World) (done rest:List (Nat×Oper)) (pend:List Pd) (s t tt:S),
   listed.size=ops.size→L=done++rest→(∀i,i<ops.size→(listed.getD i false=true↔i∈done.map (·.1)∧i∉pend.map (·.i)))→
   (pend.map both).Sublist done→(∀x r,rest=x::r→look x.1 bars≠none)→(∀x∈pend,look x.i bars=none)→
   Seg P G ops s pend t→Gf t tt→om P G ops bars rest (.on tt)=some (.on q)→
   (∀i o,listed.getD i false=true→ops.toList[i]?=some o→∀e∈qz o,listed.getD e false=true)→
   pend.length+rest.length≤fuel→Good c s a w→wpAny P .any ops Q1 fuel listed a w:=by
 have hnd:=afa hO
 have hlt:∀x∈L,x.1<ops.size:=fun x hx=>(Array.getElem?_eq_some_iff.1 (hO.mem x hx)).1
 have hback:∀i o,ops[i]?=some o→∀e∈qz o,e<ops.size:=fun i o hi e he=>by
  obtain⟨x,hx,e1⟩:=List.mem_map.1 (hO.all i (Array.getElem?_eq_some_iff.1 hi).1)
  obtain⟨A,B,e2⟩:=List.append_of_mem hx
  have h3:=hO.mem x hx
  rw [e1,hi]at h3;injection h3 with h3
  obtain⟨y,hy,e4⟩:=List.mem_map.1 ((hO.at_ A x B e2).1 e (h3▸he))
  rw [←e4];exact hlt y (by rw [e2];simp [hy])
 intro fuel
 induction fuel with
 | zero=>
  intro listed a w done rest pend s t tt hsz hL hl hsub hbar hpb hS hE hev hcl hf g
  have hp0:pend= []:=List.eq_nil_of_length_eq_zero (by omega)
  have hr0:rest= []:=List.eq_nil_of_length_eq_zero (by omega)
  subst hp0 hr0
  cases hS
  simp only [om]at hev
  injection hev with hev;injection hev with hev
  refine⟨List.eq_nil_iff_forall_not_mem.2 fun j hj=>?_,k a w (hev▸hE.good g)⟩
  obtain⟨h1,o,h2,_⟩:=MR.1 hj
  have hj':j<ops.size:=(Array.getElem?_eq_some_iff.1 h2).1
  have h3:listed.getD j false=true:=(hl j hj').2 ⟨by have:=hO.all j hj';rw [hL,List.append_nil]at this;exact this,by simp⟩
  rw [ach hsz hj',h3]at h1
  cases h1
 | succ fuel ih=>
  intro listed a w done rest pend s t tt hsz hL hl hsub hbar hpb hS hE hev hcl hf g
  have un:∀j,j<ops.size→listed.getD j true=listed.getD j false:=fun j hj=>ach hsz hj
  have nl:∀j,j<ops.size→(j∉done.map (·.1)∨j∈pend.map (·.i))→listed.getD j false=false:=fun j hj h=>by
   cases e:listed.getD j false with
   | false=>rfl
   | true=>exact h.elim (fun h=>absurd ((hl j hj).1 e).1 h) (fun h=>absurd h ((hl j hj).1 e).2)
  have hpd:∀x∈pend,both x∈done:=fun x hx=>hsub.subset (List.mem_map.2 ⟨x,hx,rfl⟩)
  have hnr:∀x∈rest,x.1∉done.map (·.1):=fun x hx h=>by
   rw [hL,List.map_append]at hnd
   exact(List.nodup_append.1 hnd).2.2 x.1 h x.1 (List.mem_map.2 ⟨x,hx,rfl⟩) rfl
  refine⟨fun hr=>?_,fun i hi=>?_⟩
  ·have hno:∀A x B,L=A++x::B→listed.getD x.1 false=false→(∀y∈A,listed.getD y.1 false=true)→False:=fun A x B e h1 h2=>by
    have hx:x∈L:=by rw [e];simp
    have:x.1∈Region.ready .any ops listed:=MR.2 ⟨by rw [un _ (hlt x hx)];exact h1,x.2,hO.mem x hx,fun e' he=>by
     obtain⟨y,hy,e3⟩:=List.mem_map.1 ((hO.at_ A x B e).1 e' he)
     rw [←e3];exact h2 y hy⟩
    rw [hr]at this;cases this
   cases pend with
   | cons x l=>
    exfalso
    obtain⟨A,B,e1,_,e3⟩:=TQ (l1:= []) (l2:=l.map both) (x:=both x) (by simpa using hsub)
    refine hno A (both x) (B++rest) (by rw [hL,e1];simp) (nl _ (hlt _ (by rw [hL];exact List.mem_append_left _ (hpd x (by simp)))) (.inr (by simp [both]))) fun y hy=>?_
    have hyL:y∈L:=by rw [hL,e1];simp [hy]
    refine(hl _ (hlt y hyL)).2 ⟨List.mem_map.2 ⟨y,by rw [e1];simp [hy],rfl⟩,fun hm=>?_⟩
    rw [hL,e1,List.map_append,List.map_append]at hnd
    have h4:=(List.nodup_append.1 (List.nodup_append.1 hnd).1).2.2 y.1 (List.mem_map.2 ⟨y,hy,rfl⟩)
    rw [List.map_cons,List.mem_cons]at hm
    rcases hm with hm|hm
    ·exact h4 _ (by simp [both]) hm
    ·obtain⟨z,hz,e5⟩:=List.mem_map.1 hm
     refine h4 z.i ?_ e5.symm
     rw [List.map_cons]
     exact List.mem_cons_of_mem _ (List.mem_map.2 ⟨both z,e3.subset (List.mem_map.2 ⟨z,hz,rfl⟩),rfl⟩)
   | nil=>
    cases rest with
    | cons x r=>
     exfalso
     refine hno done x r hL (nl _ (hlt x (by rw [hL];simp)) (.inl (hnr x (by simp)))) fun y hy=>?_
     exact(hl _ (hlt y (by rw [hL];simp [hy]))).2 ⟨List.mem_map.2 ⟨y,hy,rfl⟩,by simp⟩
    | nil=>
     cases hS
     simp only [om]at hev
     injection hev with hev;injection hev with hev
     exact k a w (hev▸hE.good g)
  ·obtain⟨h1,o,h2,h3⟩:=MR.1 hi
   have hi':i<ops.size:=(Array.getElem?_eq_some_iff.1 h2).1
   rw [un i hi']at h1
   have h3':∀o,ops.toList[i]?=some o→∀e∈qz o,listed.getD e false=true:=fun o' ho' e he=>by
    rw [Array.getElem?_toList,h2]at ho';injection ho' with ho';subst ho';exact h3 e he
   have Z6:∀j,Reach ops.toList i j→listed.getD j false=true:=fun j hr=>Vd (L:=fun j=>listed.getD j false=true) hcl hr h3'
   have hsz2:(listed.setIfInBounds i true).size=ops.size:=by rw [Array.size_setIfInBounds];exact hsz
   have hget:∀j,j<ops.size→(listed.setIfInBounds i true).getD j false=if j=i then true else listed.getD j false:=fun j hj=>by
    by_cases e:j=i
    ·subst e;rw [if_pos rfl,Array.getD_eq_getD_getElem?,Array.getElem?_setIfInBounds_self_of_lt (by omega)];rfl
    ·rw [if_neg e];exact getD_set_ne false (fun e2=>e e2.symm)
   have aiZ:∀j o,(listed.setIfInBounds i true).getD j false=true→ops.toList[j]?=some o→∀e∈qz o,(listed.setIfInBounds i true).getD e false=true:=fun j o' hj ho' e he=>by
    have ho2:ops[j]?=some o':=by rw [←Array.getElem?_toList];exact ho'
    have hjlt:j<ops.size:=(Array.getElem?_eq_some_iff.1 ho2).1
    have ako:e<ops.size:=hback j o' ho2 e he
    rw [hget e ako]
    rw [hget j hjlt]at hj
    by_cases e2:e=i
    ·rw [if_pos e2]
    ·rw [if_neg e2]
     by_cases e3:j=i
     ·subst e3;exact h3' o' ho' e he
     ·rw [if_neg e3]at hj;exact hcl j o' hj ho' e he
   have hiL:i∈done.map (·.1)∨i∈rest.map (·.1):=by
    have:=hO.all i hi'
    rw [hL,List.map_append,List.mem_append]at this;exact this
   by_cases hm:i∈pend.map (·.i)
   ·obtain⟨l1,x,l2,rfl,hxi⟩:=ae9 hm
    subst hxi
    rw [List.map_append,List.map_cons]at hsub
    obtain⟨A,B,e1,e2,e3⟩:=TQ hsub
    have hxL:both x∈L:=by rw [hL,e1];simp
    have hxo:ops[x.i]?=some x.o:=hO.mem _ hxL
    have ho:o=x.o:=by rw [hxo]at h2;injection h2 with h2;exact h2.symm
    have hap:∀y∈l1,x.o.apart ops y.o=true:=fun y hy=>by
     have hyA:both y∈A:=e2.subset (List.mem_map.2 ⟨y,hy,rfl⟩)
     rcases((hO.at_ A (both x) (B++rest) (by rw [hL,e1];simp)).2.2 (both y) hyA).2 with h|h
     ·exfalso
      have h4:=Z6 y.i h
      rw [nl y.i (hlt (both y) (by rw [hL,e1];simp [hyA])) (.inr (by simp [List.mem_map.2 ⟨y,hy,rfl⟩]))]at h4
      cases h4
     ·exact h.1
    obtain⟨hok,t2,hS2,hE2⟩:=hS.front hap g.nd g.NJ
    refine agB hC hok hxo (hd x.o (by rw [Array.mem_toList_iff];exact Array.mem_of_getElem? hxo)) g fun a' w' g'=>?_
    have hni:x.i∉(l1++l2).map (·.i):=fun h=>by
     have hn:((l1++x::l2).map (·.i)).Nodup:=by
      have h5:((l1++x::l2).map (·.i)).Sublist (done.map (·.1)):=by
       have:=hsub.map (·.1)
       simpa [both,Function.comp_def] using this
      rw [hL,List.map_append]at hnd
      exact h5.nodup (List.nodup_append.1 hnd).1
     rw [List.map_append,List.map_cons]at hn
     obtain⟨n1,n2,n3⟩:=List.nodup_append.1 hn
     rw [List.map_append,List.mem_append]at h
     rcases h with h|h
     ·exact n3 _ h _ (by simp) rfl
     ·exact(List.nodup_cons.1 n2).1 h
    refine ih _ a' w' done rest (l1++l2) _ t2 tt hsz2 hL (fun j hj=>?_) ?_ hbar (fun y hy=>hpb y ?_) hS2 (hE2.symm.trans hE) hev aiZ ?_ g'
    ·rw [hget j hj]
     by_cases e:j=x.i
     ·rw [if_pos e];subst e
      exact⟨fun _=>⟨List.mem_map.2 ⟨both x,by rw [e1];simp,rfl⟩,hni⟩,fun _=>rfl⟩
     ·rw [if_neg e,hl j hj]
      simp only [List.map_append,List.map_cons,List.mem_append,List.mem_cons,e,false_or]
    ·rw [List.map_append]
     exact((List.Sublist.refl _).append (List.sublist_cons_self _ _)).trans hsub
    ·rcases List.mem_append.1 hy with hy|hy<;>simp [hy]
    ·simp only [List.length_append,List.length_cons]at hf⊢;omega
   ·have hir:i∈rest.map (·.1):=by
     rcases hiL with h|h
     ·rw [(hl i hi').2 ⟨h,hm⟩]at h1;cases h1
     ·exact h
    obtain⟨x,hx,hxi⟩:=List.mem_map.1 hir
    subst hxi
    obtain⟨R1,R2,rfl⟩:=List.append_of_mem hx
    have hxL:x∈L:=by rw [hL];simp
    have hxo:ops[x.1]?=some x.2:=hO.mem x hxL
    have ho:o=x.2:=by rw [hxo]at h2;injection h2 with h2;exact h2.symm
    have hR1:R1= []:=by
     cases R1 with
     | nil=>rfl
     | cons b R1=>
      exfalso
      have hb:=hbar b _ rfl
      have hbr:b∈b::R1++x::R2:=by simp
      rcases((hO.at_ (done++b::R1) x R2 (by rw [hL];simp)).2.2 b (by simp)).2 with h|h
      ·have h4:=Z6 b.1 h
       rw [nl b.1 (hlt b (by rw [hL];simp)) (.inl (hnr b hbr))]at h4
       cases h4
      ·exact hb h.2.1
    subst hR1
    rw [List.nil_append]at*
    have hat:=hO.at_ done x R2 hL
    have GV:∀y∈pend,x.2.apart ops y.o=true∧∃fl,look x.1 bars=some fl∧y.i∈fl:=fun y hy=>by
     rcases(hat.2.2 (both y) (hpd y hy)).2 with h|h
     ·exfalso
      have h4:=Z6 y.i h
      rw [nl y.i (hlt (both y) (by rw [hL];simp [hpd y hy])) (.inr (List.mem_map.2 ⟨y,hy,rfl⟩))]at h4
      cases h4
     ·refine⟨h.1,?_⟩
      rcases h.2.2 with h5|h5
      ·exact absurd h5 (hbar x _ rfl)
      ·exact h5
    have hdo:=hd x.2 (by rw [Array.mem_toList_iff];exact Array.mem_of_getElem? hxo)
    rw [J7]at hev
    obtain⟨gd,h4,hev⟩:=aj hev
    have next:∀(pend:List Pd) (s1 t1 q1:S) (a':Act) (w':World),(pend.map both).Sublist done→(∀x∈pend,look x.i bars=none)→(∀j,j<ops.size→((listed.setIfInBounds x.1 true).getD j false=true↔j∈(done++ [x]).map (·.1)∧j∉pend.map (·.i)))→pend.length+R2.length≤fuel→
      Seg P G ops s1 pend t1→Gf t1 q1→om P G ops bars R2 (.on q1)=some (.on q)→Good c s1 a' w'→wpAny P .any ops Q1 fuel (listed.setIfInBounds x.1 true) a' w':=fun pend s1 t1 q1 a' w' hsub hpb hl hf hS hE hev g'=>by
     obtain⟨TR,t2,l2,k1,k2,k3,k4,k5⟩:=collect hev
     have n1:Nd q1:=hE.nd (hS.nd g'.nd)
     obtain⟨t3,k6,k7⟩:=k2.eqv hE.symm n1
     refine ih _ a' w' (done++ [x]++TR.map both) l2 (pend++TR) s1 t3 t2 hsz2 (by rw [hL,k1];simp) (fun j hj=>?_) ?_ k4 (fun y hy=>?_) (hS.append k6) k7.symm k3 aiZ ?_ g'
     ·rw [hl j hj,List.map_append (l₁:=done++ [x]),List.map_append (l₁:=pend),List.mem_append,List.mem_append]
      have hm2:∀j,j∈(TR.map both).map (·.1)↔j∈TR.map (·.i):=fun j=>by simp [both,Function.comp_def]
      rw [hm2]
      constructor
      ·rintro ⟨m1,m2⟩
       refine⟨.inl m1,fun m3=>m3.elim m2 fun m3=>?_⟩
       rw [hL,k1]at hnd
       rw [show done++x::(TR.map both++l2)=(done++ [x])++(TR.map both++l2) by simp,List.map_append]at hnd
       exact(List.nodup_append.1 hnd).2.2 j m1 j (by rw [List.map_append];exact List.mem_append_left _ ((hm2 j).2 m3)) rfl
      ·rintro ⟨m1|m1,m2⟩
       ·exact⟨m1,fun m3=>m2 (.inl m3)⟩
       ·exact absurd (.inr m1) m2
     ·rw [List.map_append]
      exact(hsub.trans (List.sublist_append_left _ _)).append (List.Sublist.refl _)
     ·rcases List.mem_append.1 hy with hy|hy
      ·exact hpb y hy
      ·exact k5 y hy
     ·have:=congrArg List.length k1
      simp only [List.length_append,List.length_map]at this⊢
      omega
    have htab:∀j,j<ops.size→((listed.setIfInBounds x.1 true).getD j false=true↔j∈(done++ [x]).map (·.1)∧j∉pend.map (·.i)):=fun j hj=>by
     rw [hget j hj]
     by_cases e:j=x.1
     ·rw [if_pos e];subst e;exact⟨fun _=>⟨by simp,hm⟩,fun _=>rfl⟩
     ·rw [if_neg e,hl j hj];simp [e]
    have hf2:pend.length+R2.length≤fuel:=by simp only [List.length_cons]at hf;omega
    have afc:pend= []→∀(q1:S) (a':Act) (w':World),om P G ops bars R2 (.on q1)=some (.on q)→Good c q1 a' w'→wpAny P .any ops Q1 fuel (listed.setIfInBounds x.1 true) a' w':=fun hp q1 a' w' hev g'=>by
     subst hp
     exact next [] q1 q1 q1 a' w' (List.nil_sublist _) hpb htab hf2 (.nil _) (.refl _) hev g'
    unfold wpOp
    rw [hxo]
    simp only
    cases hb:look x.1 bars with
    | none=>exact absurd hb (hbar x _ rfl)
    | some fl=>
     cases fl with
     | nil=>
      have hp0:pend= []:=by
       cases pend with
       | nil=>rfl
       | cons y l=>
        obtain⟨_,fl,e1,e2⟩:=GV y (by simp)
        rw [hb]at e1;injection e1 with e1;subst e1;cases e2
      have hS0:=hS
      subst hp0
      cases hS0
      have g2:=hE.good g
      obtain⟨y,A⟩:=g2
      rw [za A h4]
      cases gd with
      | true=>
       rw [if_pos rfl]at hev⊢
       obtain⟨q1,h5,hev⟩:=aj hev
       rw [hb,acJ]at h5
       cases e:iJ P G tt x.2.dst x.2.op with
       | none=>rw [e]at h5;cases h5
       | some s1=>
        rw [e,og]at h5;injection h5 with h5;subst h5
        exact .inl (Le hC hdo e a w ⟨y,A⟩ _ _ fun a' w' g'=>afc rfl s1 a' w' hev g')
      | false=>
       rw [if_neg (by simp)]at hev⊢
       obtain⟨q1,h5,hev⟩:=aj hev
       rw [og]at h5;injection h5 with h5;subst h5
       exact afc rfl _ _ _ hev ⟨y,A.value (v:= .fK []) ⟨[],rfl,rfl⟩ hdo⟩
     | cons f fr=>
      have hgd:=hat.2.1 fr f hb
      rw [hgd]at h4
      simp only [S.wants]at h4
      injection h4 with h4;subst h4
      rw [if_pos rfl]at hev
      obtain⟨q1,h5,hev⟩:=aj hev
      rw [hb,Xb]at h5
      have hz:(x.1,f::fr)∈bars:=by
       have:∀l:List (Nat×List Nat),look x.1 l=some (f::fr)→(x.1,f::fr)∈l:=by
        intro l;induction l with
        | nil=>intro h;cases h
        | cons z l ih=>
         intro h
         simp only [look]at h
         split at h
         ·rename_i e;injection h with h;obtain⟨z1,z2⟩:=z;simp only at e h;subst e h;simp
         ·exact List.mem_cons_of_mem _ (ih h)
       exact this bars hb
      have Z7:EJ ops (Xv ops x.1) (pend.map both)=true:=by
       refine ae4 ?_ (hO.fl _ hz)
       have:(pend.map both).filter (fun y=>(f::fr).contains y.1)=pend.map both:=List.filter_eq_self.2 fun y hy=>by
        obtain⟨z,hz,rfl⟩:=List.mem_map.1 hy
        obtain⟨_,fl,e1,e2⟩:=GV z hz
        rw [hb]at e1;injection e1 with e1;subst e1
        simpa [both] using e2
       rw [←this]
       exact(hsub.trans (by rw [hL];exact List.sublist_append_left _ _)).filter _
      have happ:Xv ops x.1=isApp x.2.op:=by unfold Xv;rw [hxo]
      rw [happ]at Z7
      by_cases hgen:∃(x0:Bar) (u0:Unit),EJ ops false (pend.map both)=true∧sD P G tt x.2.dst x.2.op=some x0∧oM P ops tt (tt.iB x.2.dst x0) (f::fr)=some u0∧q1= .on (tt.iB x.2.dst x0)
      ·obtain⟨x0,u0,hfl,eb,ev,hq⟩:=hgen
       subst hq
       obtain⟨v1,v2,v3,v4⟩:=hS.vals hfl
       have hE1:Gf s {s with box:=tt.box,tree:=tt.tree}:=⟨fun _=>rfl,by rw [←v1];exact hE.box,by rw [←v2];exact hE.tree,rfl⟩
       obtain⟨t',hS',hE'⟩:=hS.eqv hE1 g.nd
       obtain⟨v1',v2',v3',v4'⟩:=hS'.vals hfl
       have g2:=hE1.good g
       have ahR:∀r,look r t'.env=look r tt.env:=fun r=>by rw [hE'.env,hE.env]
       have hap:∀y∈pend,∀d,y.o.dst=some d→d∉x.2.looksAt ops:=fun y hy d hyd=>(Oper.apart_spec (GV y hy).1).2.2 d hyd
       have hbe:sD P G {s with box:=tt.box,tree:=tt.tree} x.2.dst x.2.op=some x0:=by
        have hfro:tt.dG=s.dG:=by rw [hE.dG,v3]
        have:({s with box:=tt.box,tree:=tt.tree}:S)= {tt with env:=s.env}:=by rw [←hfro]
        rw [this]
        refine Z5 (fun z hz v hv=>?_) eb
        cases z with
        | tmp r=>
         have hr:r∈x.2.looksAt ops:=List.mem_append_left _ (List.mem_filterMap.2 ⟨.tmp r,hz,rfl⟩)
         have hv:look r tt.env=some v:=hv
         show look r s.env=some v
         rw [←ahR,v4' r fun y hy e=>hap y hy r e hr]at hv
         exact hv
        | const c=>exact hv
        | func f=>exact hv
        | global g=>cases hv
       obtain⟨y,A⟩:=g2
       rw [za A (g:=true) (by rw [hgd];rfl),if_pos rfl]
       refine .inl (Le hC hdo (TL hbe) a w ⟨y,A⟩ _ _ fun a' w' g'=>?_)
       have hfro:tt.dG=s.dG:=by rw [hE.dG,v3]
       obtain⟨t2,w1,w2⟩:=hS'.bar (dst:=x.2.dst) (x0:=x0) (T1:=tt.iB x.2.dst x0) hfl
        (fun y hy d hd=>⟨(Oper.apart_spec (GV y hy).1).1 d hd,(Oper.apart_spec (GV y hy).1).2.1 d hd⟩)
        rfl rfl hfro (fun r=>by rw [sU,sU,ahR])
        (fun y hy=>by
         obtain⟨_,fl,e1,e2⟩:=GV y hy
         rw [hb]at e1;injection e1 with e1;subst e1
         obtain⟨o',d,v,u1,u2,u3,u4,u5⟩:=Ll ev e2
         have:ops[y.i]?=some y.o:=hO.mem (both y) (by rw [hL];simp [hpd y hy])
         rw [this]at u1;injection u1 with u1;subst u1
         exact⟨d,v,u2,u3,u4,by rw [ahR];exact u5⟩) g'.nd
       exact next pend _ t2 _ a' w' hsub hpb htab hf2 w1 w2 hev g'
      by_cases hia:isApp x.2.op=true
      ·rw [if_pos hia]at h5
       rw [hia]at Z7
       cases eb:sD P G tt x.2.dst x.2.op with
       | none=>rw [eb]at h5;cases h5
       | some x0=>
        rw [eb,aY]at h5
        cases hin:x0.inn with
        | cons p0 r0=>
         unfold MB at h5
         rw [hin]at h5
         simp only at h5
         obtain⟨sq,h6,h5⟩:∃sq,grd (J6 ops (f::fr)=true) (bnd (oM P ops tt (tt.iB x.2.dst x0) (f::fr)) fun _=>some (tt.iB x.2.dst x0))=some sq∧q1= .on sq:=by
          cases e:grd (J6 ops (f::fr)=true) (bnd (oM P ops tt (tt.iB x.2.dst x0) (f::fr)) fun _=>some (tt.iB x.2.dst x0))with
          | none=>rw [e]at h5;cases h5
          | some sq=>rw [e,og]at h5;injection h5 with h5;exact⟨sq,rfl,h5.symm⟩
         obtain⟨hvf,h6⟩:=aB h6
         obtain⟨u0,ev,h6⟩:=aj h6
         injection h6 with h6;subst h6
         refine absurd ⟨x0,u0,TP Z7 fun z hz=>?_,eb,ev,h5⟩ hgen
         obtain⟨y,hy,rfl⟩:=List.mem_map.1 hz
         obtain⟨_,fl,e1,e2⟩:=GV y hy
         rw [hb]at e1;injection e1 with e1;subst e1
         have hyo:ops[y.i]?=some y.o:=hO.mem (both y) (by rw [hL];simp [hpd y hy])
         have:=List.all_eq_true.1 hvf y.i e2
         rw [hyo]at this
         exact this
        | nil=>
        unfold MB at h5
        rw [hin]at h5
        simp only at h5
        obtain⟨sq,h6,h5⟩:∃sq,Bc x0.box tt.box (bnd (Da ops tt x0.kills (f::fr)) fun _=>some (tt.iB x.2.dst x0))=some sq∧q1= .on sq:=by
         cases e:Bc x0.box tt.box (bnd (Da ops tt x0.kills (f::fr)) fun _=>some (tt.iB x.2.dst x0))with
         | none=>rw [e]at h5;cases h5
         | some sq=>rw [e,og]at h5;injection h5 with h5;exact⟨sq,rfl,h5.symm⟩
        subst h5
        obtain⟨hbx,h6⟩:=xZ h6
        obtain⟨u0,ek,h6⟩:=aj h6
        injection h6 with h6;subst h6
        have n1:Nd t:=by
         have:∀{l:List Pd} {s t:S},Seg P G ops s l t→Nd s→Nd t:=fun h n=>h.nd n
         exact this hS g.nd
        have W2:Bj s tt:=hS.wide.trans (hE.wide n1)
        have hap:∀y∈pend,∀d,y.o.dst=some d→d∉x.2.looksAt ops:=fun y hy d hyd=>(Oper.apart_spec (GV y hy).1).2.2 d hyd
        have hsame:∀z∈x.2.op.operands.toList,EF (· ∈oO s) (· ∈iH s) tt s z:=fun z hz v hv=>by
         cases z with
         | tmp r=>
          have hr:r∈x.2.looksAt ops:=List.mem_append_left _ (List.mem_filterMap.2 ⟨.tmp r,hz,rfl⟩)
          have hv:look r tt.env=some v:=hv
          have hv2:look r s.env=some v:=by rw [hE.env,hS.env fun y hy e=>hap y hy r e hr]at hv;exact hv
          exact⟨hv2,g.NJ r v hv2⟩
         | const c=>exact⟨hv,PW hv⟩
         | func f=>exact⟨hv,by have hv:some (V.fn f [])=some v:=hv;injection hv with hv;subst hv;trivial⟩
         | global g=>cases hv
        have hfr:∀t,fresh tt t=true→fresh s t=true:=fun t h=>by
         unfold fresh at h⊢
         simp only [Bool.and_eq_true,Option.isNone_iff_eq_none]at h⊢
         refine⟨?_,by rw [←W2.dG];exact h.2⟩
         cases e:look t s.tree with
         | none=>rfl
         | some z=>
          have hm:t∈iH s:=by unfold iH;rw [List.map_append,List.mem_append];exact .inl (List.mem_map.2 ⟨_,fD e,rfl⟩)
          rw [←W2.tree t hm,h.1]at e;cases e
        obtain⟨t0,R,hd0,hf0,hv0,ht0,hk0,hb1,hb2,hk1,ahr⟩:∃t0 R,x.2.dst=some t0∧fresh tt t0=true∧x0.val= .own t0∧x0.tree=(t0,R)::nL x0.kills tt.tree∧(∀p∈x0.kills,∃rows,look p s.tree=some rows)∧(∀p∈x0.kills,x0.box=oK p tt.box)∧(x0.kills= []→x0.box=tt.box)∧(x0.kills= []∨∃p,x0.kills= [p])∧
          sD P G s x.2.dst x.2.op=some ⟨.own t0,(match x0.kills with| []=>s.box|p::_=>oK p s.box),(t0,R)::nL x0.kills s.tree,x0.kills,[]⟩:=by
         generalize x.2.op=op at hia eb hsame
         cases op<;>simp only [isApp]at hia<;>try (cases hia;done)
         rename_i cl
         split at hia
         ·rename_i b hcl
          simp only [sD,xY,hcl]at eb⊢
          obtain⟨args,e1,e2⟩:=aj eb
          obtain⟨e3,e4⟩:=DF (fun z hz=>hsame z (by simp only [Op.operands,Call.operands,Array.toList_append];exact List.mem_append_right _ hz)) e1
          obtain⟨t0,R,a1,a2,a3,a4,a5,a6,a7,a8,a9⟩:=ac9 W2.down e4 hfr hin e2
          exact⟨t0,R,a1,a2,a3,a4,a5,a6,a7,a8,by rw [e3,aY];exact a9⟩
         ·cases hia
        have hsb:(match x0.kills with| []=>s.box|p::_=>oK p s.box)=s.box:=by
         rcases hk1 with hk1|⟨p,hk1⟩
         ·rw [hk1]
         ·rw [hk1]
          have hkb:oK p tt.box=tt.box:=by rw [←hb1 p (by rw [hk1];simp)];exact hbx
          have m1:∀l:List (Nat×List V),oK p l=l→∀z∈l,zV p z.2=z.2:=by
           intro l;induction l with
           | nil=>intro _ z hz;cases hz
           | cons y l ih=>
            intro h z hz
            simp only [oK]at h
            injection h with h1 h2
            rcases List.mem_cons.1 hz with rfl|hz
            ·exact congrArg Prod.snd h1
            ·exact ih h2 z hz
          have m2:∀l:List (Nat×List V),(∀z∈l,zV p z.2=z.2)→oK p l=l:=by
           intro l;induction l with
           | nil=>intro _;rfl
           | cons y l ih=>
            intro h
            simp only [oK]
            rw [ih fun z hz=>h z (List.mem_cons_of_mem _ hz),h y (by simp)]
          refine m2 _ fun z hz=>m1 _ hkb z ?_
          have hm:z.1∈oO s:=List.mem_map.2 ⟨z,hz,rfl⟩
          have:=W2.box z.1 hm
          rw [jZ g.nd.1 (show(z.1,z.2)∈s.box from hz)]at this
          exact fD this
        rw [hsb]at ahr
        have hks:∀p∈x0.kills,p∈iH s:=fun p hp=>by
         obtain⟨rows,e⟩:=hk0 p hp
         unfold iH;rw [List.map_append,List.mem_append];exact .inl (List.mem_map.2 ⟨_,fD e,rfl⟩)
        have akp:t0∉iH t:=fun h=>by
         have h:=hE.iH.2 h
         unfold iH at h
         unfold fresh at hf0
         simp only [Bool.and_eq_true,Option.isNone_iff_eq_none]at hf0
         rw [List.map_append,List.mem_append]at h
         rcases h with h|h
         ·exact jY hf0.1 h
         ·exact jY hf0.2 h
        obtain⟨t2,w1,w2⟩:=hS.past (t0:=t0) (R:=R) (ks:=x0.kills) Z7 (fun y hy=>⟨(Oper.apart_spec (GV y hy).1).1 t0 hd0,fun e=>(Oper.apart_spec (GV y hy).1).2.1 t0 hd0 e⟩) (fun y hy=>by
         obtain⟨_,fl,e1,e2⟩:=GV y hy
         rw [hb]at e1;injection e1 with e1;subst e1
         obtain⟨o',d,v,u1,u2,u3,u4,u5⟩:=Qc ek e2
         have hyo:ops[y.i]?=some y.o:=hO.mem (both y) (by rw [hL];simp [hpd y hy])
         rw [hyo]at u1;injection u1 with u1;subst u1
         refine⟨⟨d,v,u2,by rw [←hE.env];exact u3,u4⟩,fun r hr v hv=>?_⟩
         have hgy:y.o.guard=none:=by
          have hf:=List.all_eq_true.2 (fun(z:Nat×Oper) (hz:z∈pend.map both)=>(show z.2.guard.isNone=true from by
           have:∀l:List (Nat×Oper),EJ ops true l=true→∀z∈l,z.2.guard.isNone=true:=by
            intro l;induction l with
            | nil=>intro _ z hz;cases hz
            | cons q l ih=>
             intro h z hz
             obtain⟨_,k2,_,_,_,k6⟩:=Jb h
             rcases List.mem_cons.1 hz with rfl|hz
             ·rw [k2];rfl
             ·exact ih k6 z hz
           exact this _ Z7 z hz))
          have:=List.all_eq_true.1 hf (both y) (List.mem_map.2 ⟨y,hy,rfl⟩)
          simpa [both] using this
         unfold Oper.looksAt at hr
         rw [hgy]at hr
         simp only [List.append_nil]at hr
         obtain⟨z,hz1,hz2⟩:=List.mem_filterMap.1 hr
         cases z<;>simp at hz2
         subst hz2
         have:=List.all_eq_true.1 u5 _ hz1
         simp only [mq]at this
         rw [hE.env,hv]at this
         exact this) hks akp g.nd
        have hfin:tt.iB x.2.dst x0=tt.grown t0 R x0.kills:=by
         unfold S.grown S.iB
         rw [hd0,hv0,ht0,hbx,hin]
        have hst:s.iB x.2.dst ⟨.own t0,s.box,(t0,R)::nL x0.kills s.tree,x0.kills,[]⟩=s.grown t0 R x0.kills:=by rw [hd0];rfl
        have dp:∀(k:Nat) {l m:List (Nat×List (List D))},l.Perm m→(drop1 k l).Perm (drop1 k m):=by
         intro k l m h
         induction h with
         | nil=>exact .refl _
         | cons y _ ih=>
          obtain⟨j,y⟩:=y
          simp only [drop1]
          split
          ·exact ih
          ·exact .cons _ ih
         | swap y z l=>
          obtain⟨j,y⟩:=y;obtain⟨i,z⟩:=z
          simp only [drop1]
          split<;>split<;>first|exact .refl _|exact .swap _ _ _
         | trans _ _ a b=>exact a.trans b
        have dps:∀(ks:List Nat) {l m:List (Nat×List (List D))},l.Perm m→(nL ks l).Perm (nL ks m):=by
         intro ks;induction ks with
         | nil=>intro l m h;exact h
         | cons k ks ih=>intro l m h;exact ih (dp k h)
        have hEg:Gf (t.grown t0 R x0.kills) (tt.grown t0 R x0.kills):=⟨fun r=>by rw [AB,AB,hE.env],hE.box, .cons _ (dps _ hE.tree),hE.dG⟩
        have g2:=g
        obtain⟨y,A⟩:=g2
        rw [za A (g:=true) (by rw [hgd];rfl),if_pos rfl]
        refine .inl (Le hC hdo ((TL ahr).trans (by rw [hst])) a w ⟨y,A⟩ _ _ fun a' w' g'=>?_)
        rw [hfin]at hev
        exact next pend _ t2 _ a' w' hsub hpb htab hf2 w1 (w2.symm.trans hEg) hev g'
      rw [if_neg hia]at h5
      have hia:isApp x.2.op=false:=by simpa using hia
      rw [hia]at Z7
      cases eb:sD P G tt x.2.dst x.2.op with
      | none=>rw [eb]at h5;cases h5
      | some x0=>
       rw [eb,aY]at h5
       cases ev:oM P ops tt (tt.iB x.2.dst x0) (f::fr)with
       | none=>rw [ev]at h5;cases h5
       | some u0=>
        rw [ev,aY,og]at h5;injection h5 with h5
        exact absurd ⟨x0,u0,Z7,eb,ev,h5.symm⟩ hgen
theorem ada (hC:ED P G)(hm:P.follows .mixedOrders=true){b:List Nat×List (Nat×List Nat)}(hO:Vb ops b=true)(hd:∀o∈ops.toList,fM c.n o.dst=true){s q:S}{Q1:Exit→Act→World→Prop}{id:Nat}{a:Act}{w:World}
  (h:om P G ops b.2 (z8 ops b.1) (.on s)=some (.on q)) (g:Good c s a w) (k:∀a w,Good c q a w→Q1 .normal a w):(Code.region id ops true).wp P Q1 a w:=by
 refine wp_region_any hm ?_
 have hD:=Xw hO
 obtain⟨pend,t,l2,k1,k2,k3,k4,k5⟩:=collect h
 have g':Good c s a {w with drawn:=w.drawn+1}:=by
  obtain⟨y,A⟩:=g
  exact⟨y,A.defers,A.size,A.st.drew,A.env,A.box,A.dG,A.nb,A.nt,A.fix⟩
 have hnone:∀i,(Array.replicate ops.size false).getD i false=false:=fun i=>by
  rw [Array.getD_eq_getD_getElem?,Array.getElem?_replicate];split<;>rfl
 have hlen:=hD.len
 rw [k1,List.length_append,List.length_map]at hlen
 refine afb hC hD hd k _ _ a _ (pend.map both) l2 pend s t t (by simp) k1 (fun i hi=>?_) (List.Sublist.refl _) k4 k5 k2 (.refl _) k3 (fun i o hi=>by rw [hnone]at hi;cases hi) (by omega) g'
 rw [hnone]
 refine⟨(fun h=>by cases h),fun h=>absurd ?_ h.2⟩
 have:=h.1
 simpa [both,Function.comp_def] using this
end
def jU (gh:mg)(n:Nat):Code→Bool
 | .region id ops d=>ops.toList.all (fun o=>fM n o.dst)&&(!d||Vb ops (gh.bars id))
 | .seq x y=>jU gh n x&&jU gh n y
 | .cond _ x y=>jU gh n x&&jU gh n y
 | .block _ x=>jU gh n x
 | .loop x=>jU gh n x
 | .scope x=>jU gh n x
 | .skip=>true
 | .label _=>true
 | .exit _=>true
 | .ret=>true
 | _=>false
def DK (c:Ctx):Q→Act→World→Prop
 | .on s=>Good c s
 | .off=>fun _ _=>False
def agC:Ex→Exit
 | .normal=> .normal
 | .exit i=> .exit i
 | .ret=> .ret
structure EN (gh:mg):Prop where
 head:∀(c:Ctx) (id:Nat) (s s':S),gh.head id s=some s'→∀a w,Good c s a w→Good c s' a w
 reg:∀(c:Ctx) (id:Nat) (s s':S),gh.reg id s=some s'→∀a w,Good c s a w→Good c s' a w
section
variable {P:Program} {c:Ctx} {G:List (FuncId×Bool×aN)} {gh:mg}
theorem Xy {ops:Array Oper}:∀(l:List Oper) (s:S),Cc P G ops l (.on s)≠some .off:=by
 intro l;induction l with
 | nil=>intro s h;simp only [Cc]at h;injection h with h;cases h
 | cons o l ih=>
  intro s h
  rw [Po]at h
  obtain⟨gd,_,h⟩:=aj h
  split at h
  ·obtain⟨q,h4,h⟩:=aj h
   cases e:iJ P G s o.dst o.op with
   | none=>rw [e]at h4;cases h4
   | some s1=>rw [e,og]at h4;injection h4 with h4;subst h4;exact ih _ h
  ·obtain⟨q,h4,h⟩:=aj h
   rw [og]at h4;injection h4 with h4;subst h4;exact ih _ h
theorem afd {ops:Array Oper}{bars:List (Nat×List Nat)}:∀(l:List (Nat×Oper)) (s:S),om P G ops bars l (.on s)≠some .off:=by
 intro l;induction l with
 | nil=>intro s h;simp only [om]at h;injection h with h;cases h
 | cons o l ih=>
  intro s h
  rw [J7]at h
  obtain⟨gd,_,h⟩:=aj h
  split at h
  ·obtain⟨q,h4,h⟩:=aj h
   cases e:KW P G ops (look o.1 bars) s o.2.dst o.2.op with
   | none=>rw [e]at h4;cases h4
   | some s1=>rw [e,og]at h4;injection h4 with h4;subst h4;exact ih _ h
  ·obtain⟨q,h4,h⟩:=aj h
   rw [og]at h4;injection h4 with h4;subst h4;exact ih _ h
theorem NQ (hM:EN gh){id:Nat}{q q':Q}(h:Nw gh id q=some q'){a:Act}{w:World}(g:DK c q a w):DK c q' a w:=by
 cases q with
 | off=>cases g
 | on s=>
  simp only [Nw]at h
  cases e:gh.head id s with
  | none=>rw [e]at h;cases h
  | some s1=>rw [e,og]at h;injection h with h;subst h;exact hM.head c id s s1 e a w g
theorem Qd {x:Code}{f:Q→Option (Ex×Q)}{id:Nat}{Q1:Exit→Act→World→Prop}{r:Ex×Q}(hM:EN gh)(hf:∀q,f q=Bd (Eo P G gh x q) fun q=>bnd (Nw gh id q) fun q=>some (.normal,q))
  (hx:∀(q:Q) (r:Ex×Q) (a:Act) (w:World) (Q2:Exit→Act→World→Prop),Eo P G gh x q=some r→DK c q a w→(∀a w,DK c r.2 a w→Q2 (agC r.1) a w)→x.wp P Q2 a w)
  (hk:∀a w,DK c r.2 a w→Q1 (agC r.1) a w):∀(n:Nat) (q:Q) (a:Act) (w:World),rounds f n q=some r→DK c q a w→Code.rounds P x Q1 n a w
 | 0,q,a,w,h,_=>by cases h
 | n+1,q,a,w,h,g=>by
  rw [rounds,hf]at h
  cases e:Eo P G gh x q with
  | none=>rw [e,ME]at h;cases h
  | some r1=>
   rw [e]at h
   obtain⟨ex,q1⟩:=r1
   rw [rounds_succ]
   refine hx q (ex,q1) a w _ e g fun a' w' g'=>?_
   cases ex with
   | normal=>
    rw [Gq]at h
    cases e2:Nw gh id q1 with
    | none=>rw [e2,aei]at h;cases h
    | some q2=>
     rw [e2,aY]at h
     exact Qd hM hf hx hk n q2 a' w' h (NQ hM e2 g')
   | exit i=>rw [MC]at h;injection h with h;subst h;exact hk a' w' g'
   | ret=>rw [Pn]at h;injection h with h;subst h;exact hk a' w' g'
theorem pJ (hC:ED P G)(hM:EN gh)(hm:P.follows .mixedOrders=true):∀(x:Code) (q:Q) (r:Ex×Q) (a:Act) (w:World) (Q1:Exit→Act→World→Prop),jU gh c.n x=true→Eo P G gh x q=some r→DK c q a w→(∀a w,DK c r.2 a w→Q1 (agC r.1) a w)→x.wp P Q1 a w
 | x, .off,r,a,w,Q1,_,h,g,k=>g.elim
 | .skip, .on s,r,a,w,Q1,_,h,g,k=>by
  rw [aes]at h;injection h with h;subst h
  exact wp_skip (k a w g)
 | .label l, .on s,r,a,w,Q1,_,h,g,k=>by
  rw [acG]at h;injection h with h;subst h
  exact wp_label (k a w g)
 | .exit i, .on s,r,a,w,Q1,_,h,g,k=>by
  rw [aew]at h;injection h with h;subst h
  exact wp_exit (k a w g)
 | .ret, .on s,r,a,w,Q1,_,h,g,k=>by
  rw [agj]at h;injection h with h;subst h
  exact wp_ret (k a w g)
 | .region id ops d, .on s,r,a,w,Q1,ho,h,g,k=>by
  unfold jU at ho
  rw [Bool.and_eq_true]at ho
  obtain⟨h1,ho⟩:=ho
  rw [ZF]at h
  obtain⟨q1,h2,h⟩:=aj h
  obtain⟨q2,h3,h⟩:=aj h
  injection h with h;subst h
  cases e:gh.reg id s with
  | none=>rw [e]at h2;cases h2
  | some s1=>
   rw [e,og]at h2;injection h2 with h2;subst h2
   have h1:=List.all_eq_true.1 h1
   have g1:=hM.reg c id s s1 e a w g
   cases d with
   | false=>
    rw [acH]at h3
    cases hb:(gh.bars id).1 with
    | nil=>
     rw [hb]at h3
     simp only [UR]at h3
     cases q2 with
     | off=>exact absurd h3 (Xy _ _)
     | on s2=>exact wp_region_list (Ja hC h1 h3 g1 k)
    | cons i l=>
     rw [hb]at h3
     simp only [UR]at h3
     cases q2 with
     | off=>
      unfold Te at h3
      obtain⟨x,_,h3⟩:=aj h3
      obtain⟨_,_,h3⟩:=aj h3
      exact absurd (aB h3).2 (Xy _ _)
     | on s2=>exact wp_region_list (ac5 hC h1 h3 g1 k)
   | true=>
    unfold Xa at h3
    rw [if_pos rfl]at h3
    rw [Bool.not_true,Bool.false_or]at ho
    cases q2 with
    | off=>exact absurd h3 (afd _ _)
    | on s2=>exact ada hC hm ho h1 h3 g1 k
 | .seq x y, .on s,r,a,w,Q1,ho,h,g,k=>by
  unfold jU at ho
  simp only [Bool.and_eq_true]at ho
  rw [agi]at h
  cases e:Eo P G gh x (.on s)with
  | none=>rw [e,ME]at h;cases h
  | some r1=>
   rw [e]at h
   obtain⟨ex,q1⟩:=r1
   refine wp_seq (pJ hC hM hm x (.on s) (ex,q1) a w _ ho.1 e g fun a' w' g'=>?_)
   cases ex with
   | normal=>rw [Gq]at h;exact pJ hC hM hm y q1 r a' w' Q1 ho.2 h g' k
   | exit i=>rw [MC]at h;injection h with h;subst h;exact k a' w' g'
   | ret=>rw [Pn]at h;injection h with h;subst h;exact k a' w' g'
 | .cond cd x y, .on s,r,a,w,Q1,ho,h,g,k=>by
  unfold jU at ho
  simp only [Bool.and_eq_true]at ho
  rw [aeu]at h
  obtain⟨v,h1,h⟩:=aj h
  obtain⟨b,h2,h⟩:=aj h
  rw [Ny h2]at h1
  obtain⟨y',A⟩:=g
  have hc:a.eval cd= .bool b:=A.ev h1
  refine wp_cond hc ?_
  cases b with
  | true=>exact pJ hC hM hm x (.on s) r a w Q1 ho.1 h ⟨y',A⟩ k
  | false=>exact pJ hC hM hm y (.on s) r a w Q1 ho.2 h ⟨y',A⟩ k
 | .block id x, .on s,r,a,w,Q1,ho,h,g,k=>by
  unfold jU at ho
  rw [acL]at h
  obtain⟨r1,h1,h⟩:=aj h
  obtain⟨ex,q1⟩:=r1
  refine wp_block (pJ hC hM hm x (.on s) (ex,q1) a w _ ho h1 g fun a' w' g'=>?_)
  cases ex with
  | normal=>simp only [Gr]at h;injection h with h;subst h;exact k a' w' g'
  | ret=>simp only [Gr]at h;injection h with h;subst h;exact k a' w' g'
  | exit j=>
   simp only [Gr]at h
   by_cases hj:j=id
   ·rw [if_pos hj]at h;injection h with h;subst h
    show Exit.inBlock id Q1 (.exit j) a' w'
    simp only [Exit.inBlock,if_pos hj]
    exact k a' w' g'
   ·rw [if_neg hj]at h;injection h with h;subst h
    show Exit.inBlock id Q1 (.exit j) a' w'
    simp only [Exit.inBlock,if_neg hj]
    exact k a' w' g'
 | .scope x, .on s,r,a,w,Q1,ho,h,g,k=>by
  unfold jU at ho
  rw [acM]at h
  refine wp_scope_straight (pJ hC hM hm x (.on s) r a w _ ho h g fun a' w' g'=>?_)
  have:=k a' w' g'
  cases e:r.1<;>rw [e]at this<;>exact this
 | .loop x, .on s,r,a,w,Q1,ho,h,g,k=>by
  unfold jU at ho
  rw [aev]at h
  obtain⟨q1,h1,h⟩:=aj h
  obtain⟨n,hn⟩:=J9 h
  have g1:DK c q1 a w:=NQ hM (id:=Code.first x) (q:= .on s) (by rw [aer];exact h1) g
  refine wp_loop_rounds n (Qd (G:=G) (id:=Code.first x) hM (fun q=>rfl) (fun q r1 a w Q2 e g' k'=>pJ hC hM hm x q r1 a w Q2 ho e g' k') k n q1 a w hn g1)
 | .goto _, .on _,_,_,_,_,ho,_,_,_=>by cases ho
 | .rangeFunc .., .on _,_,_,_,_,ho,_,_,_=>by cases ho
 | .refuse .., .on _,_,_,_,_,ho,_,_,_=>by cases ho
end
end Go.Proofs.YtlpdjhiggpblcaaGreat
namespace Go.Proofs.YtlpdjhiggpblcaaGreat
open Go.RowKit
set_option linter.unusedSimpArgs false
set_option linter.unusedVariables false
mutual
theorem RV.sub {ρ ρ':Rel}(hK:ρ'.K=ρ.K)(hZ:∀b o,ρ.Z b o→ρ'.Z b o)(hs:ρ'.src=ρ.src)(hb:∀b,ρ.Lb b→ρ'.Lb b∧ρ'.bl b=ρ.bl b):
  ∀{v:V} {u:Value},(∀q,aM q v=true→ρ.Lt q→ρ'.Lt q∧ρ'.hd q=ρ.hd q)→RV ρ v u→RV ρ' v u
 | .v _,_,_,h=>h
 | .nil,_,_,h=>h
 | .aP _ _,_,_,h=>⟨by rw [hK];exact h.1,fun j i=>by rw [hs];exact h.2 j i⟩
 | .own q,_,m,h=>by
  have:=m q (by simp [aM]) h.1
  exact⟨this.1,by rw [this.2];exact h.2⟩
 | .inn q _ _ _,_,m,h=>by
  have:=m q (by simp [aM]) h.1
  exact⟨this.1,by rw [this.2];exact h.2⟩
 | .fz _,_,_,h=>wL.mono h hZ
 | .mp _,_,_,h=>Pw.mono h hZ
 | .ref b _,_,_,h=>⟨(hb b h.1).1,by rw [(hb b h.1).2];exact h.2⟩
 | .pe _ _ _ _,_,m,h=>by obtain⟨ub,h1,h2⟩:=h;exact⟨ub,RV.sub hK hZ hs hb (fun q hq=>m q (by simpa [aM] using hq)) h1,h2⟩
 | .agg _,_,m,h=>by obtain⟨us,h1,h2⟩:=h;exact⟨us,h1,jk.sub hK hZ hs hb (fun q hq=>m q (by simpa [aM] using hq)) h2⟩
 | .fK _,_,m,h=>by obtain⟨us,h1,h2⟩:=h;exact⟨us,h1,jk.sub hK hZ hs hb (fun q hq=>m q (by simpa [aM] using hq)) h2⟩
 | .fn _ _,_,m,h=>by obtain⟨us,h1,h2⟩:=h;exact⟨us,h1,jk.sub hK hZ hs hb (fun q hq=>m q (by simpa [aM] using hq)) h2⟩
 | .dead,_,_,_=>trivial
theorem jk.sub {ρ ρ':Rel}(hK:ρ'.K=ρ.K)(hZ:∀b o,ρ.Z b o→ρ'.Z b o)(hs:ρ'.src=ρ.src)(hb:∀b,ρ.Lb b→ρ'.Lb b∧ρ'.bl b=ρ.bl b):
  ∀{vs:List V} {us:List Value},(∀q,aM.any q vs=true→ρ.Lt q→ρ'.Lt q∧ρ'.hd q=ρ.hd q)→jk ρ vs us→jk ρ' vs us
 | [],_,_,h=>h
 | _::_,_,m,h=>by
  obtain⟨u,q,h1,h2,h3⟩:=h
  exact⟨u,q,h1,RV.sub hK hZ hs hb (fun q hq=>m q (by simp [aM.any,hq])) h2,jk.sub hK hZ hs hb (fun q hq=>m q (by simp [aM.any,hq])) h3⟩
end
theorem Lm {k:Nat}:∀{l:List Nat} {i:Nat},pos k l i=none→k∉l
 | [],_,_=>by simp
 | j::r,i,h=>by
  simp only [pos]at h
  split at h
  ·cases h
  ·rename_i e;simp only [List.mem_cons,not_or];exact⟨e,Lm h⟩
theorem wT {k:Nat}:∀{l:List Nat} {i m:Nat},pos k l i=some m→∃d,m=i+d∧l[d]?=some k
 | [],_,_,h=>by cases h
 | j::r,i,m,h=>by
  simp only [pos]at h
  split at h
  ·rename_i e;subst e;injection h with h;subst h;exact⟨0,rfl,rfl⟩
  ·obtain⟨d,e1,e2⟩:=wT h
   exact⟨d+1,by omega,by simpa using e2⟩
structure ahS (ρ ρ':Rel) (s:S) (ld:iF) (SU:List Value):Prop where
 src:∀j u,SU[j]?=some u→ρ'.src j=u
 b:∀i b,ld.box[i]?=some b→ρ'.Lb i∧ρ'.bl i=ρ.bl b
 t:∀i p,ld.tree[i]?=some p→ρ'.Lt i∧ρ'.hd i=ρ.hd p
 rd:∀v∈ld.src,∀u rows,RV ρ v u→s.rows v=some rows→wL ρ'.K (.l rows) u
structure iF.le (l l':iF) (U U':List Value):Prop where
 src:l.src <+: l'.src
 box:l.box <+: l'.box
 tree:l.tree <+: l'.tree
 val:U <+: U'
theorem iF.le.refl (l:iF)(U:List Value):l.le l U U:=⟨List.prefix_refl _,List.prefix_refl _,List.prefix_refl _,List.prefix_refl _⟩
theorem iF.le.trans {a b d:iF}{U V W:List Value}(h:a.le b U V)(k:b.le d V W):a.le d U W:=⟨h.src.trans k.src,h.box.trans k.box,h.tree.trans k.tree,h.val.trans k.val⟩
structure iF.ok (l:iF) (ρ:Rel) (s:S) (U:List Value):Prop where
 src:jk ρ l.src U
 nb:l.box.Nodup
 nt:l.tree.Nodup
 kt:∀p∈l.tree,look p s.dG=none
theorem yg {α:Type}{l l':List α}(h:l <+: l'){i:Nat}{x:α}(e:l[i]?=some x):l'[i]?=some x:=by
 obtain⟨t,rfl⟩:=h
 rw [List.getElem?_append_left (List.getElem?_eq_some_iff.1 e).1];exact e
theorem Z8 {α:Type}{l l':List α}(h:l <+: l'){x:α}(e:x∈l):x∈l':=by
 obtain⟨t,rfl⟩:=h
 exact List.mem_append_left _ e
section
variable {ρ:Rel} {s:S}
def Seen (ρ:Rel)(s:S)(l:iF)(U:List Value)(v':V)(u:Value):Prop:= ∀(ρ':Rel) (ld:iF) (SU:List Value),l.le ld U SU→ahS ρ ρ' s ld SU→RV ρ' v' u
def Qe (ρ:Rel)(s:S)(l:iF)(U:List Value)(vs:List V)(us:List Value):Prop:= ∀(ρ':Rel) (ld:iF) (SU:List Value),l.le ld U SU→ahS ρ ρ' s ld SU→jk ρ' vs us
theorem AF {l:iF}{U:List Value}(o:l.ok ρ s U){v:V}{u:Value}{rows:List (List D)}(hv:RV ρ v u)(hr:s.rows v=some rows):
  ∃U',l.le {l with src:=l.src++ [v]} U U'∧iF.ok {l with src:=l.src++ [v]} ρ s U'∧Seen ρ s {l with src:=l.src++ [v]} U' (.aP (some l.src.length) rows) u:=by
 have hl:=o.src.len
 refine⟨U++ [u],⟨List.prefix_append _ _,List.prefix_refl _,List.prefix_refl _,List.prefix_append _ _⟩,⟨o.src.app ⟨u,[],rfl,hv,rfl⟩,o.nb,o.nt,o.kt⟩,fun ρ' ld SU le L=>?_⟩
 refine⟨L.rd v (Z8 le.src (by simp)) u rows hv hr,fun j e=>?_⟩
 injection e with e;subst e
 exact L.src _ _ (yg le.val (by rw [←hl];simp))
mutual
theorem NR:∀{l l':iF} {U:List Value} {v v':V} {u:Value},l.ok ρ s U→jW s l v=some (v',l')→RV ρ v u→∃U',l.le l' U U'∧l'.ok ρ s U'∧Seen ρ s l' U' v' u
 | l,l',U, .v x,v',u,o,h,hv=>by
  simp only [jW]at h;injection h with h;injection h with h1 h2;subst h1;subst h2
  exact⟨U,iF.le.refl _ _,o,fun _ _ _ _ _=>hv⟩
 | l,l',U, .ref b off,v',u,o,h,hv=>by
  simp only [jW]at h
  cases e:pos b l.box 0 with
  | some i=>
   rw [e]at h;simp only [I4]at h;injection h with h;injection h with h1 h2;subst h1;subst h2
   obtain⟨d,e1,e2⟩:=wT e
   have:i=d:=by omega
   subst this
   refine⟨U,iF.le.refl _ _,⟨o.src,o.nb,o.nt,o.kt⟩,fun ρ' ld SU le L=>?_⟩
   obtain⟨k1,k2⟩:=L.b i b (yg le.box e2)
   exact⟨k1,by rw [k2];exact hv.2⟩
  | none=>
   rw [e]at h;simp only [I4]at h;injection h with h;injection h with h1 h2;subst h1;subst h2
   have hn:=Lm e
   refine⟨U,⟨List.prefix_refl _,List.prefix_append _ _,List.prefix_refl _,List.prefix_refl _⟩,⟨o.src,?_,o.nt,o.kt⟩,fun ρ' ld SU le L=>?_⟩
   ·exact List.nodup_append.2 ⟨o.nb,by simp,fun x hx z hz e9=>by simp at hz;rw [e9,hz]at hx;exact hn hx⟩
   ·obtain⟨k1,k2⟩:=L.b l.box.length b (yg le.box (by simp))
    exact⟨k1,by rw [k2];exact hv.2⟩
 | l,l',U, .agg cs,v',u,o,h,hv=>by
  simp only [jW]at h
  obtain⟨x,h1,h⟩:=aj h
  injection h with h;injection h with h2 h3;subst h2;subst h3
  obtain⟨us,e1,e2⟩:=hv
  obtain⟨U',k1,k2,k3⟩:=Cj (l':=x.2) (vs':=x.1) o h1 e2
  exact⟨U',k1,k2,fun ρ' ld SU le L=>⟨us,e1,k3 ρ' ld SU le L⟩⟩
 | l,l',U, .fn f cs,v',u,o,h,hv=>by
  simp only [jW]at h
  obtain⟨x,h1,h⟩:=aj h
  injection h with h;injection h with h2 h3;subst h2;subst h3
  obtain⟨us,e1,e2⟩:=hv
  obtain⟨U',k1,k2,k3⟩:=Cj (l':=x.2) (vs':=x.1) o h1 e2
  exact⟨U',k1,k2,fun ρ' ld SU le L=>⟨us,e1,k3 ρ' ld SU le L⟩⟩
 | l,l',U, .nil,v',u,o,h,hv=>by
  simp only [jW]at h;injection h with h;injection h with h1 h2;subst h1;subst h2
  exact AF o hv rfl
 | l,l',U, .aP q rows,v',u,o,h,hv=>by
  simp only [jW]at h;injection h with h;injection h with h1 h2;subst h1;subst h2
  exact AF o hv rfl
 | l,l',U, .fz rows,v',u,o,h,hv=>by
  simp only [jW]at h;injection h with h;injection h with h1 h2;subst h1;subst h2
  exact AF o hv rfl
 | l,l',U, .own p,v',u,o,h,hv=>by
  simp only [jW]at h
  obtain⟨rows,h1,h⟩:=aj h
  injection h with h;injection h with h2 h3;subst h2;subst h3
  exact AF o hv h1
 | l,l',U, .inn p i1 j1 k1,v',u,o,h,hv=>by
  simp only [jW]at h
  obtain⟨rows,h1,h⟩:=aj h
  injection h with h;injection h with h2 h3;subst h2;subst h3
  exact AF o hv h1
 | l,l',U, .pe _ _ _ _,v',u,o,h,hv=>by simp only [jW]at h;cases h
 | l,l',U, .fK _,v',u,o,h,hv=>by simp only [jW]at h;cases h
 | l,l',U, .dead,v',u,o,h,hv=>by simp only [jW]at h;cases h
theorem Cj:∀{l l':iF} {U:List Value} {vs vs':List V} {us:List Value},l.ok ρ s U→vT s l vs=some (vs',l')→jk ρ vs us→∃U',l.le l' U U'∧l'.ok ρ s U'∧Qe ρ s l' U' vs' us
 | l,l',U,[],vs',us,o,h,hv=>by
  simp only [vT]at h;injection h with h;injection h with h1 h2;subst h1;subst h2
  exact⟨U,iF.le.refl _ _,o,fun _ _ _ _ _=>hv⟩
 | l,l',U,v::vs,vs',us,o,h,hv=>by
  simp only [vT]at h
  obtain⟨x,h1,h⟩:=aj h
  obtain⟨z,h2,h⟩:=aj h
  injection h with h;injection h with h3 h4;subst h3;subst h4
  obtain⟨u,q,rfl,e1,e2⟩:=hv
  obtain⟨U1,a1,a2,a3⟩:=NR (l':=x.2) (v':=x.1) o h1 e1
  obtain⟨U2,b1,b2,b3⟩:=Cj (l':=z.2) (vs':=z.1) a2 h2 e2
  exact⟨U2,a1.trans b1,b2,fun ρ' ld SU le L=>⟨u,q,rfl,a3 ρ' ld SU (b1.trans le) L,b3 ρ' ld SU le L⟩⟩
end
theorem nA (hap:∀(p:Nat) (r1 r2:List (List D)),look p s.tree=some r1→look p s.dG=some r2→False):∀{l l':iF} {U:List Value} {vs vs':List V} {us:List Value},l.ok ρ s U→cZ s l vs=some (vs',l')→jk ρ vs us→∃U',l.le l' U U'∧l'.ok ρ s U'∧Qe ρ s l' U' vs' us
 | l,l',U,[],vs',us,o,h,hv=>by
  simp only [cZ]at h;injection h with h;injection h with h1 h2;subst h1;subst h2
  exact⟨U,iF.le.refl _ _,o,fun _ _ _ _ _=>hv⟩
 | l,l',U,v::vs,vs',us,o,h,hv=>by
  obtain⟨u,q,rfl,e1,e2⟩:=hv
  have gen:(bnd (jW s l v) fun x=>bnd (cZ s x.2 vs) fun y=>some (x.1::y.1,y.2))=some (vs',l')→∃U',l.le l' U U'∧l'.ok ρ s U'∧Qe ρ s l' U' vs' (u::q):=by
   intro h
   obtain⟨x,h1,h⟩:=aj h
   obtain⟨z,h2,h⟩:=aj h
   injection h with h;injection h with h3 h4;subst h3;subst h4
   obtain⟨U1,a1,a2,a3⟩:=NR (l':=x.2) (v':=x.1) o h1 e1
   obtain⟨U2,b1,b2,b3⟩:=nA hap (l':=z.2) (vs':=z.1) a2 h2 e2
   exact⟨U2,a1.trans b1,b2,fun ρ' ld SU le L=>⟨u,q,rfl,a3 ρ' ld SU (b1.trans le) L,b3 ρ' ld SU le L⟩⟩
  cases v with
  | own p=>
   simp only [cZ]at h
   cases e:pos p l.tree 0 with
   | some i=>rw [e]at h;simp only [Cb]at h;cases h
   | none=>
    have hn:=Lm e
    rw [e]at h
    cases e3:look p s.dG with
    | some rows=>
     rw [e3]at h;simp only [Cb]at h
     obtain⟨x,h1,h⟩:=aj h
     injection h with h;injection h with h3 h4;subst h3;subst h4
     have hr:s.rows (.own p)=some rows:=by
      simp only [S.rows]
      cases e4:look p s.tree with
      | none=>rw [e3];rfl
      | some r0=>exact(hap p r0 rows e4 e3).elim
     obtain⟨U1,a1,a2,a3⟩:=AF o e1 hr
     obtain⟨U2,b1,b2,b3⟩:=nA hap (l':=x.2) (vs':=x.1) a2 h1 e2
     exact⟨U2,a1.trans b1,b2,fun ρ' ld SU le L=>⟨u,q,rfl,a3 ρ' ld SU (b1.trans le) L,b3 ρ' ld SU le L⟩⟩
    | none=>
     rw [e3]at h;simp only [Cb]at h
     obtain⟨x,h1,h⟩:=aj h
     injection h with h;injection h with h3 h4;subst h3;subst h4
     have o':iF.ok ⟨l.src,l.box,l.tree++ [p]⟩ ρ s U:=⟨o.src,o.nb,List.nodup_append.2 ⟨o.nt,by simp,fun x hx z hz e9=>by simp at hz;rw [e9,hz]at hx;exact hn hx⟩,fun p' hp'=>by
      rcases List.mem_append.1 hp' with hp'|hp'
      ·exact o.kt p' hp'
      ·simp at hp';subst hp';exact e3⟩
     obtain⟨U2,b1,b2,b3⟩:=nA hap (l':=x.2) (vs':=x.1) o' h1 e2
     have le0:l.le ⟨l.src,l.box,l.tree++ [p]⟩ U U:=⟨List.prefix_refl _,List.prefix_refl _,List.prefix_append _ _,List.prefix_refl _⟩
     refine⟨U2,le0.trans b1,b2,fun ρ' ld SU le L=>⟨u,q,rfl,?_,b3 ρ' ld SU le L⟩⟩
     obtain⟨k1,k2⟩:=L.t l.tree.length p (yg (b1.trans le).tree (by simp))
     exact⟨k1,by rw [k2];exact e1.2⟩
  | dead=>
   simp only [cZ]at h
   obtain⟨x,h1,h⟩:=aj h
   injection h with h;injection h with h3 h4;subst h3;subst h4
   obtain⟨U2,b1,b2,b3⟩:=nA hap (l':=x.2) (vs':=x.1) o h1 e2
   exact⟨U2,b1,b2,fun ρ' ld SU le L=>⟨u,q,rfl,trivial,b3 ρ' ld SU le L⟩⟩
  | _=>simp only [cZ]at h;exact gen h
theorem GX (hap:∀(p:Nat) (r1 r2:List (List D)),look p s.tree=some r1→look p s.dG=some r2→False):∀{l l':iF} {U:List Value} {vs vs':List V} {us:List Value},l.ok ρ s U→qj s l vs=some (vs',l')→jk ρ vs us→∃U',l.le l' U U'∧l'.ok ρ s U'∧Qe ρ s l' U' vs' us
 | l,l',U,[],vs',us,o,h,hv=>by
  simp only [qj]at h;injection h with h;injection h with h1 h2;subst h1;subst h2
  exact⟨U,iF.le.refl _ _,o,fun _ _ _ _ _=>hv⟩
 | l,l',U,v::vs,vs',us,o,h,hv=>by
  obtain⟨u,q,rfl,e1,e2⟩:=hv
  have gen:(bnd (cZ s l [v]) fun x=>bnd (qj s x.2 vs) fun y=>some (x.1++y.1,y.2))=some (vs',l')→∃U',l.le l' U U'∧l'.ok ρ s U'∧Qe ρ s l' U' vs' (u::q):=by
   intro h
   obtain⟨x,h1,h⟩:=aj h
   obtain⟨z,h2,h⟩:=aj h
   injection h with h;injection h with h3 h4;subst h3;subst h4
   obtain⟨U1,a1,a2,a3⟩:=nA hap (l':=x.2) (vs':=x.1) (vs:= [v]) (us:= [u]) o h1 ⟨u,[],rfl,e1,rfl⟩
   obtain⟨U2,b1,b2,b3⟩:=GX hap (l':=z.2) (vs':=z.1) a2 h2 e2
   exact⟨U2,a1.trans b1,b2,fun ρ' ld SU le L=>(a3 ρ' ld SU (b1.trans le) L).app (b3 ρ' ld SU le L)⟩
  cases v with
  | agg cs=>
   simp only [qj]at h
   obtain⟨us,k1,k2⟩:=e1
   obtain⟨x,h1,h⟩:=aj h
   obtain⟨z,h2,h⟩:=aj h
   injection h with h;injection h with h3 h4;subst h3;subst h4
   obtain⟨U1,a1,a2,a3⟩:=nA hap (l':=x.2) (vs':=x.1) o h1 k2
   obtain⟨U2,b1,b2,b3⟩:=GX hap (l':=z.2) (vs':=z.1) a2 h2 e2
   exact⟨U2,a1.trans b1,b2,fun ρ' ld SU le L=>⟨u,q,rfl,⟨us,k1,a3 ρ' ld SU (b1.trans le) L⟩,b3 ρ' ld SU le L⟩⟩
  | _=>simp only [qj]at h;exact gen h
theorem Xz (hap:∀(p:Nat) (r1 r2:List (List D)),look p s.tree=some r1→look p s.dG=some r2→False){m:Bool}{l l':iF}{U:List Value}{vs vs':List V}{us:List Value}(o:l.ok ρ s U)(h:Ns m s l vs=some (vs',l'))(hv:jk ρ vs us):∃U',l.le l' U U'∧l'.ok ρ s U'∧Qe ρ s l' U' vs' us:=by
 unfold Ns at h
 split at h
 ·exact GX hap o h hv
 ·exact Cj o h hv
end
end Go.Proofs.YtlpdjhiggpblcaaGreat
namespace Go.Proofs.YtlpdjhiggpblcaaGreat
set_option linter.unusedSectionVars false
set_option linter.unusedSimpArgs false
set_option linter.unusedVariables false
open Go.RowKit
theorem NS {l1:List Nat}:∀{l2:List Nat},l1.Nodup→l2.Nodup→(∀x,x∈l1↔x∈l2)→l1.Perm l2:=by
 induction l1 with
 | nil=>
  intro l2 _ _ h
  cases l2 with
  | nil=>exact List.Perm.refl _
  | cons x l=>exact absurd ((h x).2 (by simp)) (by simp)
 | cons a t ih=>
  intro l2 n1 n2 h
  have ha:a∈l2:=(h a).1 (by simp)
  obtain⟨p,q,rfl⟩:=List.append_of_mem ha
  have n3:=List.perm_middle.nodup_iff.1 n2
  have n4:=List.nodup_cons.1 n3
  have n5:=List.nodup_cons.1 n1
  refine(List.Perm.cons a (ih n5.2 n4.2 fun x=>?_)).trans List.perm_middle.symm
  constructor
  ·intro hx
   have:=(h x).1 (by simp [hx])
   rcases List.mem_append.1 this with h1|h1
   ·exact List.mem_append_left _ h1
   ·rcases List.mem_cons.1 h1 with h1|h1
    ·subst h1;exact absurd hx n5.1
    ·exact List.mem_append_right _ h1
  ·intro hx
   have:x∈a::t:=(h x).2 (by
    rcases List.mem_append.1 hx with h1|h1
    ·exact List.mem_append_left _ h1
    ·exact List.mem_append_right _ (List.mem_cons_of_mem _ h1))
   rcases List.mem_cons.1 this with h1|h1
   ·subst h1;exact absurd hx n4.1
   ·exact h1
section
variable {α:Type}
theorem dX {k:Nat}{l:List (Nat×α)}:k∈l.map (·.1)↔∃x,look k l=some x:=by
 constructor
 ·intro h
  cases e:look k l with
  | none=>exact absurd h (jY e)
  | some x=>exact⟨x,rfl⟩
 ·intro⟨x,h⟩
  exact List.mem_map.2 ⟨_,fD h,rfl⟩
theorem Qf {k:Nat}{x:α}:∀{l:List (Nat×α)} (j:Nat),look j (upd k x l)=if j=k then(look j l).map (fun _=>x)else look j l
 | [],j=>by simp only [upd,look];split<;>rfl
 | (i,y)::r,j=>by
  unfold upd
  by_cases h:k=i
  ·subst h;rw [if_pos rfl];simp only [look]
   by_cases h3:j=k
   ·subst h3;rw [if_pos rfl,if_pos rfl,if_pos rfl];rfl
   ·rw [if_neg h3,if_neg h3,if_neg h3]
  ·rw [if_neg h];simp only [look]
   by_cases h3:j=i
   ·subst h3;rw [if_pos rfl,if_pos rfl,if_neg fun e=>h e.symm]
   ·rw [if_neg h3,if_neg h3,Qf j]
theorem Jd {k:Nat}:∀{l:List (Nat×α)} {q:Nat},q∈(drop1 k l).map (·.1)↔q∈l.map (·.1)∧q≠k:=by
 intro l q
 rw [dX,dX]
 rw [ru]
 by_cases h:q=k
 ·rw [if_pos h];simp [h]
 ·rw [if_neg h];simp [h]
theorem Ck {k:Nat}:∀{l:List (Nat×α)},(l.map (·.1)).Nodup→((drop1 k l).map (·.1)).Nodup
 | [],h=>h
 | (i,z)::r,h=>by
  simp only [List.map_cons,List.nodup_cons]at h
  unfold drop1
  split
  ·exact Ck h.2
  ·rw [List.map_cons,List.nodup_cons]
   exact⟨fun hx=>h.1 (Jd.1 hx).1,Ck h.2⟩
theorem afe {β:Type}{f:Nat×α→β}(d:α){l:List (Nat×α)}(n:(l.map (·.1)).Nodup):l.map f=(l.map (·.1)).map fun k=>f (k,(look k l).getD d):=by
 rw [List.map_map]
 apply List.map_congr_left
 intro x hx
 have:=jZ n (k:=x.1) (x:=x.2) hx
 simp only [Function.comp,this,Option.getD_some]
theorem mF:∀{l:List α} {n:Nat} (i:Nat),look (n+i) (bO n l)=l[i]?
 | [],n,i=>by simp only [bO,look];simp
 | x::r,n,0=>by simp only [bO,look];simp
 | x::r,n,i+1=>by
  simp only [bO,look]
  rw [if_neg (by omega),show n+(i+1)=n+1+i by omega,mF i]
  simp
theorem gP:∀{l:List α} {n:Nat},(bO n l).map (·.1)=List.range' n l.length
 | [],n=>rfl
 | x::r,n=>by
  simp only [bO,List.map_cons,List.length_cons,List.range'_succ]
  rw [gP]
theorem jE {l:List α}{n:Nat}:((bO n l).map (·.1)).Nodup:=by
 rw [gP];exact List.nodup_range'
end
theorem Cm:∀{l:List Nat} {i:Nat} {b n:Nat},l.Nodup→l[i]?=some b→pos b l n=some (n+i)
 | [],i,b,n,_,h=>by simp at h
 | a::r,0,b,n,_,h=>by simp at h;subst h;simp only [pos];simp
 | a::r,i+1,b,n,nd,h=>by
  simp only [pos]
  have h:r[i]?=some b:=by simpa using h
  have nd:=List.nodup_cons.1 nd
  rw [if_neg (fun e=>nd.1 (by rw [←e];exact List.mem_of_getElem? h)),Cm nd.2 h]
  congr 1;omega
def Left (rt:List (Nat×List (List D)))(ps:List Nat)(i:Nat)(v:V):Prop:= ∀j p,ps[j]?=some p→look (i+j) rt=none→aM p v=false
theorem JJ (rt:List (Nat×List (List D))):∀(ps:List Nat) (i:Nat) (s:S),(gT rt ps i s).dG=s.dG
 | [],_,_=>rfl
 | p::ps,i,s=>by
  simp only [gT]
  rw [JJ rt ps]
  cases look i rt<;>rfl
theorem GY (rt:List (Nat×List (List D))):∀(ps:List Nat) (i:Nat) (s:S),(gT rt ps i s).box.map (·.1)=s.box.map (·.1)
 | [],_,_=>rfl
 | p::ps,i,s=>by
  simp only [gT]
  rw [GY rt ps]
  cases look i rt with
  | none=>exact EA p s.box
  | some r=>rfl
theorem JK {rt:List (Nat×List (List D))}:∀{ps:List Nat} {i:Nat} {s:S} {t:Nat} {v:V},look t (gT rt ps i s).env=some v→v= .dead∨(look t s.env=some v∧Left rt ps i v)
 | [],_,_,_,_,h=> .inr ⟨h,fun j p e=>by simp at e⟩
 | p::ps,i,s,t,v,h=>by
  simp only [gT]at h
  rcases JK h with h1|⟨h1,h2⟩
  ·exact .inl h1
  ·cases e:look i rt with
   | some r=>
    rw [e]at h1
    refine .inr ⟨h1,fun j q e1 e2=>?_⟩
    cases j with
    | zero=>rw [Nat.add_zero,e]at e2;cases e2
    | succ j=>exact h2 j q (by simpa using e1) (by rw [show i+1+j=i+(j+1) by omega];exact e2)
   | none=>
    rw [e]at h1
    have h1:look t (zU p s.env)=some v:=h1
    rw [EB]at h1
    obtain⟨v0,h3,h4⟩:=Option.map_eq_some_iff.1 h1
    cases e3:aM p v0 with
    | true=>rw [e3,if_pos rfl]at h4;exact .inl h4.symm
    | false=>
     rw [e3,if_neg (by simp)]at h4;subst h4
     refine .inr ⟨h3,fun j q e1 e2=>?_⟩
     cases j with
     | zero=>simp at e1;subst e1;exact e3
     | succ j=>exact h2 j q (by simpa using e1) (by rw [show i+1+j=i+(j+1) by omega];exact e2)
theorem TS (p:Nat):∀(l:List V),(zV p l).length=l.length
 | []=>rfl
 | v::r=>by simp only [zV,List.length_cons,TS p r]
theorem TT {p:Nat}:∀{l:List V} {k:Nat} {v:V},(zV p l)[k]?=some v→v= .dead∨(l[k]?=some v∧aM p v=false)
 | [],k,v,h=>by simp [zV]at h
 | x::r,0,v,h=>by
  simp only [zV,List.getElem?_cons_zero,Option.some.injEq]at h
  cases e:aM p x with
  | true=>rw [e,if_pos rfl]at h;exact .inl h.symm
  | false=>rw [e,if_neg (by simp)]at h;subst h;exact .inr ⟨by simp,e⟩
 | x::r,k+1,v,h=>by
  simp only [zV,List.getElem?_cons_succ]at h⊢
  exact TT h
theorem JL {rt:List (Nat×List (List D))}:∀{ps:List Nat} {i:Nat} {s:S} {b:Nat} {cs:List V},(b,cs)∈(gT rt ps i s).box→∃cs0,(b,cs0)∈s.box∧cs.length=cs0.length∧∀(k:Nat) (v:V),cs[k]?=some v→v= .dead∨(cs0[k]?=some v∧Left rt ps i v)
 | [],_,_,b,cs,h=>⟨cs,h,rfl,fun k v e=> .inr ⟨e,fun j p e=>by simp at e⟩⟩
 | p::ps,i,s,b,cs,h=>by
  simp only [gT]at h
  obtain⟨cs1,h1,h2,h3⟩:=JL h
  cases e:look i rt with
  | some r=>
   rw [e]at h1
   refine⟨cs1,h1,h2,fun k v ek=>(h3 k v ek).imp _root_.id fun h4=>⟨h4.1,fun j q e1 e2=>?_⟩⟩
   cases j with
   | zero=>rw [Nat.add_zero,e]at e2;cases e2
   | succ j=>exact h4.2 j q (by simpa using e1) (by rw [show i+1+j=i+(j+1) by omega];exact e2)
  | none=>
   rw [e]at h1
   obtain⟨cs0,h5,rfl⟩:=MK (show(b,cs1)∈oK p s.box from h1)
   refine⟨cs0,h5,h2.trans (TS p cs0),fun k v ek=>?_⟩
   rcases h3 k v ek with h6|⟨h6,h7⟩
   ·exact .inl h6
   ·rcases TT h6 with h8|⟨h8,h9⟩
    ·exact .inl h8
    ·refine .inr ⟨h8,fun j q e1 e2=>?_⟩
     cases j with
     | zero=>simp at e1;subst e1;exact h9
     | succ j=>exact h7 j q (by simpa using e1) (by rw [show i+1+j=i+(j+1) by omega];exact e2)
theorem GZ {rt:List (Nat×List (List D))}:∀{ps:List Nat} {i:Nat} {s:S},ps.Nodup→(∀p∈ps,p∈s.tree.map (·.1))→(s.tree.map (·.1)).Nodup→((gT rt ps i s).tree.map (·.1)).Nodup∧∀n,look n (gT rt ps i s).tree=match pos n ps i with|some m=>look m rt|none=>look n s.tree
 | [],i,s,_,_,nd=>⟨nd,fun n=>rfl⟩
 | p::ps,i,s,n1,hp,nd=>by
  have n2:=List.nodup_cons.1 n1
  simp only [gT]
  have h1:∀q∈ps,q∈(I5 s p (look i rt)).tree.map (·.1):=by
   intro q hq
   have:=hp q (by simp [hq])
   cases look i rt with
   | some r=>show q∈(upd p r s.tree).map (·.1);rw [oN];exact this
   | none=>exact Jd.2 ⟨this,fun e=>n2.1 (by rw [←e];exact hq)⟩
  have h2:((I5 s p (look i rt)).tree.map (·.1)).Nodup:=by
   cases look i rt with
   | some r=>show((upd p r s.tree).map (·.1)).Nodup;rw [oN];exact nd
   | none=>exact Ck nd
  obtain⟨a1,a2⟩:=GZ (rt:=rt) (i:=i+1) n2.2 h1 h2
  refine⟨a1,fun n=>?_⟩
  rw [a2 n]
  simp only [pos]
  by_cases h:n=p
  ·subst h
   rw [if_pos rfl]
   cases e:pos n ps (i+1)with
   | some m=>exfalso;obtain⟨d,_,e2⟩:=wT e;exact n2.1 (List.mem_of_getElem? e2)
   | none=>
    simp only
    obtain⟨r0,hr0⟩:=dX.1 (hp n (by simp))
    cases e3:look i rt with
    | some r=>show look n (upd n r s.tree)=some r;rw [Qf,if_pos rfl,hr0];rfl
    | none=>show look n (drop1 n s.tree)=none;rw [ru,if_pos rfl]
  ·rw [if_neg h]
   cases e:pos n ps (i+1)with
   | some m=>rfl
   | none=>
    simp only
    cases e3:look i rt with
    | some r=>show look n (upd p r s.tree)=_;rw [Qf,if_neg h]
    | none=>show look n (drop1 p s.tree)=_;rw [ru,if_neg h]
theorem Dk {ld:iF}{t:Nat}:∀{rt:List (Nat×List (List D))} {s s':S},jP ld t rt s=some s'→(rt.map (·.1)).Nodup→(s.tree.map (·.1)).Nodup→(∀q q',gV ld t q=gV ld t q'→¬q<ld.tree.length→¬q'<ld.tree.length→q=q')→
  s'.env=s.env∧s'.box=s.box∧s'.dG=s.dG∧(s'.tree.map (·.1)).Nodup∧(∀n,n∈s'.tree.map (·.1)↔n∈s.tree.map (·.1)∨∃q,q∈rt.map (·.1)∧¬q<ld.tree.length∧gV ld t q=n)∧
  (∀q rows,(q,rows)∈rt→¬q<ld.tree.length→look (gV ld t q) s'.tree=some rows∧look (gV ld t q) s.tree=none∧look (gV ld t q) s.dG=none∧gV ld t q<1000000000)∧(∀n rows,look n s.tree=some rows→look n s'.tree=some rows)
 | [],s,s',h,_,nd,_=>by
  simp only [jP]at h;injection h with h;subst h
  exact⟨rfl,rfl,rfl,nd,(fun n=>by simp),(fun q rows h=>by cases h),fun n rows h=>h⟩
 | (q,rows)::r,s,s',h,n1,nd,inj=>by
  simp only [List.map_cons,List.nodup_cons]at n1
  simp only [jP]at h
  by_cases hq:q<ld.tree.length
  ·rw [if_pos hq]at h
   obtain⟨a1,a2,a3,a4,a5,a6,a7⟩:=Dk h n1.2 nd inj
   refine⟨a1,a2,a3,a4,fun n=>?_,fun q' rows' hm hq'=>?_,a7⟩
   ·rw [a5 n]
    constructor
    ·rintro (h|⟨q',h1,h2,h3⟩)
     ·exact .inl h
     ·exact .inr ⟨q',by simp only [List.map_cons,List.mem_cons];exact .inr h1,h2,h3⟩
    ·rintro (h|⟨q',h1,h2,h3⟩)
     ·exact .inl h
     ·simp only [List.map_cons,List.mem_cons]at h1
      rcases h1 with h1|h1
      ·subst h1;exact absurd hq h2
      ·exact .inr ⟨q',h1,h2,h3⟩
   ·rcases List.mem_cons.1 hm with hm|hm
    ·injection hm with h1 h2;subst h1;exact absurd hq hq'
    ·exact a6 q' rows' hm hq'
  ·rw [if_neg hq]at h
   obtain⟨⟨hf,akq⟩,h⟩:=aB h
   unfold fresh at hf
   rw [Bool.and_eq_true]at hf
   have f1:=oH hf.1
   have f2:=oH hf.2
   obtain⟨a1,a2,a3,a4,a5,a6,a7⟩:=Dk (s:= {s with tree:=(gV ld t q,rows)::s.tree}) h n1.2 (by rw [List.map_cons,List.nodup_cons];exact⟨jY f1,nd⟩) inj
   have hself:look (gV ld t q) s'.tree=some rows:=a7 _ _ (by show look _ ((gV ld t q,rows)::s.tree)=_;simp only [look,if_true])
   refine⟨a1,a2,a3,a4,fun n=>?_,fun q' rows' hm hq'=>?_,fun n rows' hn=>?_⟩
   ·rw [a5 n]
    show n∈gV ld t q::s.tree.map (·.1)∨_↔_
    simp only [List.map_cons,List.mem_cons]
    constructor
    ·rintro ((h|h)|⟨q',h1,h2,h3⟩)
     ·exact .inr ⟨q, .inl rfl,hq,h.symm⟩
     ·exact .inl h
     ·exact .inr ⟨q', .inr h1,h2,h3⟩
    ·rintro (h|⟨q',h1,h2,h3⟩)
     ·exact .inl (.inr h)
     ·rcases h1 with h1|h1
      ·subst h1;exact .inl (.inl h3.symm)
      ·exact .inr ⟨q',h1,h2,h3⟩
   ·rcases List.mem_cons.1 hm with hm|hm
    ·injection hm with h1 h2;subst h1;subst h2;exact⟨hself,f1,f2,akq⟩
    ·obtain⟨b1,b2,b3⟩:=a6 q' rows' hm hq'
     refine⟨b1,?_,b3⟩
     have b2:look (gV ld t q') ((gV ld t q,rows)::s.tree)=none:=b2
     simp only [look]at b2
     split at b2
     ·cases b2
     ·exact b2
   ·refine a7 n rows' ?_
    show look n ((gV ld t q,rows)::s.tree)=_
    simp only [look]
    split
    ·rename_i e;rw [e,f1]at hn;cases hn
    ·exact hn
theorem G5 {ld:iF}{t:Nat}:∀{bs:List Nat} {css:List (List V)} {s s':S},iO ld t bs css s=some s'→bs.Nodup→(∀b∈bs,b∈s.box.map (·.1))→(s.box.map (·.1)).Nodup→
  s'.env=s.env∧s'.tree=s.tree∧s'.dG=s.dG∧s'.box.map (·.1)=s.box.map (·.1)∧css.length=bs.length∧(∀b cs,(b,cs)∈s'.box→(∃(i:Nat) (cs0:List V),bs[i]?=some b∧css[i]?=some cs0∧zW ld t cs0=some cs)∨(b∉bs∧(b,cs)∈s.box))
 | [],[],s,s',h,_,_,_=>by
  simp only [iO]at h;injection h with h;subst h
  exact⟨rfl,rfl,rfl,rfl,rfl,fun b cs h=> .inr ⟨by simp,h⟩⟩
 | [],_::_,s,s',h,_,_,_=>by simp only [iO]at h;cases h
 | _::_,[],s,s',h,_,_,_=>by simp only [iO]at h;cases h
 | b::bs,cs::css,s,s',h,n1,hb,nb=>by
  simp only [iO]at h
  obtain⟨cs1,h1,h⟩:=aj h
  have n2:=List.nodup_cons.1 n1
  obtain⟨a1,a2,a3,a4,a5,a6⟩:=G5 (s:= {s with box:=upd b cs1 s.box}) h n2.2 (fun b' hb'=>by show b'∈(upd b cs1 s.box).map (·.1);rw [oN];exact hb b' (by simp [hb'])) (by show((upd b cs1 s.box).map (·.1)).Nodup;rw [oN];exact nb)
  refine⟨a1,a2,a3,by rw [a4];exact oN s.box,by rw [List.length_cons,List.length_cons,a5],fun b' cs' hm=>?_⟩
  rcases a6 b' cs' hm with⟨i,cs0,e1,e2,e3⟩|⟨e1,e2⟩
  ·exact .inl ⟨i+1,cs0,by simpa using e1,by simpa using e2,e3⟩
  ·rcases U0 nb (show(b',cs')∈upd b cs1 s.box from e2)with⟨e3,e4⟩|⟨e3,e4⟩
   ·subst e3;subst e4;exact .inl ⟨0,cs,rfl,rfl,h1⟩
   ·exact .inr ⟨by simp only [List.mem_cons,not_or];exact⟨e3,e1⟩,e4⟩
structure Mem (c:Ctx) (s:S) (y:Lay) (w:World):Prop where
 st:St c.W w (dJ y.bl y.T y.us s.box++(bW y.hd s.tree++(gI y.w0 y.F s.dG++c.L)))
 box:∀b cs,(b,cs)∈s.box→jk (aX c s y) cs (y.us b).toList
 dG:∀p rows,(p,rows)∈s.dG→kL (y.w0 p) rows (y.hd p) (y.F p)
 nb:(s.box.map (·.1)).Nodup
 nt:((s.tree++s.dG).map (·.1)).Nodup
def oG (bs:List (List V))(ts:List (Nat×List (List D))):S:=⟨[],bO 0 bs,ts,[]⟩
structure Ends (c:Ctx) (nb nt:Nat) (r:Ay) (y:Lay) (u:Value) (y':Lay) (w':World):Prop where
 mem:Mem c (oG r.box r.tree) y' w'
 val:RV (aX c (oG r.box r.tree) y') r.val u
 len:r.box.length=nb∨(nb=0∧nt=0∧∃cs,wM r=some cs)
 bl:∀i,i<nb→y'.bl i=y.bl i
 hd:∀q,q<nt→y'.hd q=y.hd q
structure aF (P:Program) (f:FuncId) (M:aN):Prop where
 fn : ∃ fn, P.funcs[f]? = some fn ∧ (fn.name == "runtime.NumGoroutine") = false ∧ fn.body.isNone = false
 run:∀(c:Ctx) (args:List V) (boxes:List (List V)) (trees:List (List (List D))) (r:Ay),M args boxes trees=some r→∀(y:Lay) (us:List Value) (w:World),Mem c (oG boxes (bO 0 trees)) y w→jk (aX c (oG boxes (bO 0 trees)) y) args us→
  Calls P f us.toArray w fun e w'=> ∃u y',e= .returned u∧Ends c boxes.length trees.length r y u y' w'
theorem Sep.append {w:World}{L M:List Pc}:∀{F G:List Nat},Sep w L F→Sep w M G→Sep w (L++M) (F++G):=by
 intro F G h k
 induction h with
 | nil=>exact k
 | cons a _ ih=>rw [List.append_assoc];exact Sep.cons a ih
theorem Sep.parts {w:World}:∀{L M:List Pc} {F:List Nat},Sep w (L++M) F→∃F1 F2,F=F1++F2∧Sep w L F1∧Sep w M F2
 | [],M,F,h=>⟨[],F,rfl, .nil,h⟩
 | x::L,M,F,h=>by
  obtain⟨F1,G,rfl,a,g⟩:=h.lF
  obtain⟨F2,F3,rfl,h1,h2⟩:=Sep.parts g
  exact⟨F1++F2,F3,by rw [List.append_assoc], .cons a h1,h2⟩
theorem Sep.mem {w:World}{x:Pc}{L:List Pc}{F:List Nat}(h:Sep w L F)(hx:x∈L):∃F1,x.P w F1∧∀b∈F1,b∈F:=by
 induction h with
 | nil=>cases hx
 | cons a _ ih=>
  rcases List.mem_cons.1 hx with hx|hx
  ·subst hx;exact⟨_,a,fun b hb=>List.mem_append_left _ hb⟩
  ·obtain⟨F1,h1,h2⟩:=ih hx
   exact⟨F1,h1,fun b hb=>List.mem_append_right _ (h2 b hb)⟩
theorem St.snap {W w:World}{E R:List Pc}(S:St W w (E++R)):∃F,St W w (E++ [lI w F])∧Sep w R F:=by
 obtain⟨F,s,n,hb⟩:=S.sep
 obtain⟨F1,F2,rfl,h1,h2⟩:=s.parts
 refine⟨F2,⟨S.ext,F1++(F2++ []),h1.append (.cons (h:=lI w F2) ⟨rfl,fun _ _=>rfl⟩ .nil),by simpa using n,by simpa using hb⟩,h2⟩
theorem St.Ve {W w w':World}{E R:List Pc}{F:List Nat}(S:St W w' (E++ [lI w F]))(h:Sep w R F):St W w' (E++R):=by
 obtain⟨G,s,n,hb⟩:=S.sep
 obtain⟨F1,F2,rfl,h1,h2⟩:=s.parts
 obtain⟨F3,F4,rfl,⟨rfl,h3⟩,h4⟩:=h2.lF
 cases h4
 refine⟨S.ext,F1++F3,h1.append (h.st h3),by simpa using n,by simpa using hb⟩
section
variable {P:Program} {c:Ctx} {s s':S} {y:Lay} {a:Act} {w:World}
theorem F6 (A:At c s y a w):∀{bs:List Nat} {l l':iF} {U:List Value} {css:List (List V)},l.ok (aX c s y) s U→mU s l bs=some (css,l')→
  ∃U',l.le l' U U'∧l'.ok (aX c s y) s U'∧css.length=bs.length∧(∀b∈bs,b∈s.box.map (·.1))∧∀(i:Nat) (b:Nat) (cs':List V),bs[i]?=some b→css[i]?=some cs'→Qe (aX c s y) s l' U' cs' (y.us b).toList
 | [],l,l',U,css,o,h=>by
  simp only [mU]at h;injection h with h;injection h with h1 h2;subst h1;subst h2
  exact⟨U,iF.le.refl _ _,o,rfl,(fun b hb=>by cases hb),fun i b cs' e=>by simp at e⟩
 | b::bs,l,l',U,css,o,h=>by
  simp only [mU]at h
  obtain⟨cs,h1,h⟩:=aj h
  obtain⟨x,h2,h⟩:=aj h
  obtain⟨z,h3,h⟩:=aj h
  injection h with h;injection h with h4 h5;subst h4;subst h5
  obtain⟨U1,a1,a2,a3⟩:=nA (fun p r1 r2 e1 e2=>A.apart e1 e2) (l':=x.2) (vs':=x.1) o h2 (A.ab0 h1).2
  obtain⟨U2,b1,b2,b3,b4,b5⟩:=F6 A (l':=z.2) (css:=z.1) a2 h3
  refine⟨U2,a1.trans b1,b2,by rw [List.length_cons,List.length_cons,b3],fun b' hb=>?_,fun i b' cs' e1 e2=>?_⟩
  ·rcases List.mem_cons.1 hb with hb|hb
   ·subst hb;exact dX.2 ⟨cs,h1⟩
   ·exact b4 b' hb
  ·cases i with
   | zero=>simp at e1 e2;subst e1;subst e2;exact fun ρ' ld SU le L=>a3 ρ' ld SU (b1.trans le) L
   | succ i=>exact b5 i b' cs' (by simpa using e1) (by simpa using e2)
theorem G6:∀{ps:List Nat} {ts:List (List (List D))},qB s ps=some ts→ts.length=ps.length∧∀(i:Nat) (p:Nat),ps[i]?=some p→∃rows,look p s.tree=some rows∧ts[i]?=some rows
 | [],ts,h=>by simp only [qB]at h;injection h with h;subst h;exact⟨rfl,fun i p e=>by simp at e⟩
 | p::ps,ts,h=>by
  simp only [qB]at h
  obtain⟨rows,h1,h⟩:=aj h
  obtain⟨r,h2,h⟩:=aj h
  injection h with h;subst h
  obtain⟨k1,k2⟩:=G6 h2
  refine⟨by rw [List.length_cons,List.length_cons,k1],fun i p' e=>?_⟩
  cases i with
  | zero=>simp at e;subst e;exact⟨rows,h1,rfl⟩
  | succ i=>simpa using k2 i p' (by simpa using e)
theorem vg {K ns:List Nat}(n1:K.Nodup)(n2:ns.Nodup)(h:∀x∈ns,x∈K):K.Perm (ns++K.filter fun k=> !ns.contains k):=by
 refine NS n1 (List.nodup_append.2 ⟨n2,n1.sublist List.filter_sublist,fun x hx z hz e=>?_⟩) fun x=>?_
 ·subst e
  have:=(List.mem_filter.1 hz).2
  simp [hx]at this
 ·rw [List.mem_append,List.mem_filter]
  constructor
  ·intro hx
   by_cases hn:x∈ns
   ·exact .inl hn
   ·exact .inr ⟨hx,by simp [hn]⟩
  ·rintro (hx|hx)
   ·exact h x hx
   ·exact hx.1
structure dH (ρ1 ρ2:Rel) (ld:iF) (t:Nat) (SU:List Value):Prop where
 src:∀j u v,ld.src[j]?=some v→ρ1.src j=u→RV ρ2 v u
 K:ld.src.all stable=true→ρ1.K=ρ2.K
 b:∀i b,ρ1.Lb i→ld.box[i]?=some b→ρ2.Lb b∧ρ2.bl b=ρ1.bl i
 t:∀q,ρ1.Lt q→ρ2.Lt (gV ld t q)∧ρ2.hd (gV ld t q)=ρ1.hd q
mutual
theorem NT {ρ1 ρ2:Rel}{ld:iF}{t:Nat}{SU:List Value}(B:dH ρ1 ρ2 ld t SU):∀{v v':V} {u:Value},nO ld t v=some v'→RV ρ1 v u→RV ρ2 v' u
 | .v x,v',u,h,hv=>by simp only [nO]at h;injection h with h;subst h;exact hv
 | .nil,v',u,h,hv=>by simp only [nO]at h;injection h with h;subst h;exact hv
 | .aP (some j) rows,v',u,h,hv=>by simp only [nO]at h;exact B.src j u v' h (hv.2 j rfl)
 | .aP none rows,v',u,h,hv=>by
  simp only [nO]at h
  obtain⟨h1,h⟩:=aB h
  injection h with h;subst h
  refine⟨?_,fun j e=>by cases e⟩
  rcases Bool.or_eq_true_iff.1 h1 with h1|h1
  ·rw [←B.K h1];exact hv.1
  ·obtain rfl:rows= []:=List.isEmpty_iff.1 h1
   obtain⟨A,c,e1,e2,e3,e4⟩:=hv.1.len
   rw [e1]
   exact .nil A c e3 e4
 | .own q,v',u,h,hv=>by
  simp only [nO]at h;injection h with h;subst h
  obtain⟨k1,k2⟩:=B.t q hv.1
  exact⟨k1,by rw [k2];exact hv.2⟩
 | .ref i off,v',u,h,hv=>by
  simp only [nO]at h
  obtain⟨b,h1,h⟩:=aj h
  injection h with h;subst h
  obtain⟨k1,k2⟩:=B.b i b hv.1 h1
  exact⟨k1,by rw [k2];exact hv.2⟩
 | .agg cs,v',u,h,hv=>by
  simp only [nO]at h
  obtain⟨x,h1,h⟩:=aj h
  injection h with h;subst h
  obtain⟨us,e1,e2⟩:=hv
  exact⟨us,e1,ze B h1 e2⟩
 | .fK cs,v',u,h,hv=>by
  simp only [nO]at h
  obtain⟨x,h1,h⟩:=aj h
  injection h with h;subst h
  obtain⟨us,e1,e2⟩:=hv
  exact⟨us,e1,ze B h1 e2⟩
 | .dead,v',u,h,hv=>by simp only [nO]at h;injection h with h;subst h;trivial
 | .fz _,v',u,h,hv=>by simp only [nO]at h;cases h
 | .mp _,v',u,h,hv=>by simp only [nO]at h;cases h
 | .inn _ _ _ _,v',u,h,hv=>by simp only [nO]at h;cases h
 | .pe _ _ _ _,v',u,h,hv=>by simp only [nO]at h;cases h
 | .fn _ _,v',u,h,hv=>by simp only [nO]at h;cases h
theorem ze {ρ1 ρ2:Rel}{ld:iF}{t:Nat}{SU:List Value}(B:dH ρ1 ρ2 ld t SU):∀{vs vs':List V} {us:List Value},zW ld t vs=some vs'→jk ρ1 vs us→jk ρ2 vs' us
 | [],vs',us,h,hv=>by simp only [zW]at h;injection h with h;subst h;exact hv
 | v::vs,vs',us,h,hv=>by
  simp only [zW]at h
  obtain⟨x,h1,h⟩:=aj h
  obtain⟨z,h2,h⟩:=aj h
  injection h with h;subst h
  obtain⟨u,q,rfl,e1,e2⟩:=hv
  exact⟨u,q,rfl,NT B h1 e1,ze B h2 e2⟩
end
theorem ahT (A:At c s y a w){ld:iF}{R:List Pc}{F:List Nat}(hR:Sep w (R++c.L) F)(hf:∀x∈gI y.w0 y.F s.dG,x∈R)(ht:∀p rows,look p s.tree=some rows→p∉ld.tree→gD (y.hd p) rows∈R)(hm:WY ld=true):
  ∃K':Nat→Obj→Prop,(∀w',St c.W w' [lI w F]→∀b o,K' b o→w'.heap[b]?=some o)∧(∀v∈ld.src,∀u rows,RV (aX c s y) v u→s.rows v=some rows→wL K' (.l rows) u)∧(ld.src.all stable=true→K'=c.K)∧Zed K':=by
 have hc:∀w',St c.W w' [lI w F]→∀b o,c.K b o→w'.heap[b]?=some o:=fun w' S b o hk=>by
  have:=St.Ve (E:= []) S hR
  exact c.hK w' (St.rU this) b o hk
 by_cases hst:ld.src.all stable=true
 ·refine⟨c.K,hc,fun v hv u rows hr hrow=>?_,fun _=>rfl,c.zed⟩
  have:=List.all_eq_true.1 hst v hv
  cases v<;>simp only [stable]at this<;>try (cases this;done)
  case nil=>simp only [S.rows]at hrow;injection hrow with hrow;subst hrow;rw [show u=_ from hr];exact .nil none 0 (by omega) (fun _=>rfl)
  case aP o r=>simp only [S.rows]at hrow;injection hrow with hrow;subst hrow;exact hr.1
 ·refine⟨fun b o=>w.heap[b]?=some o∧(b∈F∨c.K b o),fun w' S b o hk=>?_,fun v hv u rows hr hrow=>?_,fun h=>absurd h hst,fun w2 h=>c.zed w2 fun b o hk=>h b o ⟨c.hK w (St.rU (St.rU (St.rU A.st))) b o hk, .inr hk⟩⟩
  ·rcases hk.2 with h|h
   ·exact(S.UW (by simp) b h).trans hk.1
   ·exact hc w' S b o h
  ·have hfro:∀p r,look p s.dG=some r→∀b∈y.F p,b∈F:=by
    intro p r e b hb
    obtain⟨F1,⟨h1,_⟩,h2⟩:=hR.mem (List.mem_append_left _ (hf (lI (y.w0 p) (y.F p)) (List.mem_map.2 ⟨(p,r),fD e,rfl⟩)))
    subst h1;exact h2 b hb
   have ai0:=hrow
   cases v<;>simp only [S.rows]at hrow<;>try (cases hrow;done)
   case inn p i1 j1 k1=>
    obtain⟨aeR,r0,m1,m2,m3,m4⟩:=K8 ai0
    have hn:p∉ld.tree:=by
     intro hp
     have:=List.all_eq_true.1 (List.all_eq_true.1 hm p hp) _ hv
     simp [aM]at this
    obtain⟨F1,h1,h2⟩:=hR.mem (List.mem_append_left _ (ht p aeR m1 hn))
    obtain⟨F2,o2,hF2⟩:=(show kL w aeR (y.hd p) F1 from h1).inner m2 m4
    rw [m3,←show u=(y.hd p).cv (i1*k1+j1)from hr.2.1]at o2
    exact pG.rd o2 fun b hb o ho=>⟨ho, .inl (h2 b (hF2 b hb))⟩
   case nil=>injection hrow with hrow;subst hrow;rw [show u=_ from hr];exact .nil none 0 (by omega) (fun _=>rfl)
   case aP o r=>injection hrow with hrow;subst hrow;exact hr.1.mono fun b o hk=>⟨A.kw b o hk, .inr hk⟩
   case fz r=>
    injection hrow with hrow;subst hrow
    refine wL.mono hr fun b o hk=>⟨A.zw b o hk, .inl ?_⟩
    obtain⟨p,hp,hb,_⟩:=hk
    obtain⟨r0,e⟩:=dX.1 hp
    exact hfro p r0 e b hb
   case own p=>
    rw [show u=_ from hr.2]
    cases e:look p s.tree with
    | some r=>
     rw [e]at hrow;simp only [mD]at hrow;injection hrow with hrow;subst hrow
     have hn:p∉ld.tree:=by
      intro hp
      have:=List.all_eq_true.1 (List.all_eq_true.1 hm p hp) _ hv
      simp [aM]at this
     obtain⟨F1,h1,h2⟩:=hR.mem (List.mem_append_left _ (ht p r e hn))
     exact pG.rd (show kL w r (y.hd p) F1 from h1).own fun b hb o ho=>⟨ho, .inl (h2 b hb)⟩
    | none=>
     rw [e]at hrow;simp only [mD]at hrow
     exact(A.dG p rows (fD hrow)).own.rd fun b hb o ho=>⟨A.zw b o ⟨p,dX.2 ⟨rows,hrow⟩,hb,ho⟩, .inl (hfro p rows hrow b hb)⟩
end
theorem jV (bl:Nat→Nat)(T:Nat→TypeId)(us:Nat→Array Value)(l:List (Nat×List V)):dJ bl T us l=(l.map (·.1)).map fun b=>rowP (bl b) (T b) (us b):=by
 unfold dJ;rw [List.map_map];rfl
theorem nP (hd:Nat→Hd){l:List (Nat×List (List D))}(n:(l.map (·.1)).Nodup):bW hd l=(l.map (·.1)).map fun p=>gD (hd p) ((look p l).getD []):=by
 unfold bW
 rw [afe [] n (f:=fun x=>gD (hd x.1) x.2)]
theorem XA {α:Type}(A B C D Z:List α):((A++B)++((C++D)++Z)).Perm (A++(C++(B++(D++Z)))):=by
 rw [List.append_assoc,List.append_assoc]
 refine List.Perm.append_left _ ?_
 rw [←List.append_assoc,←List.append_assoc C]
 exact List.Perm.append_right _ List.perm_append_comm
theorem MS {α:Type}{l:List Nat}{f:Nat→α}{g:Nat→α}(h:∀i b,l[i]?=some b→f i=g b):(List.range' 0 l.length).map f=l.map g:=by
 apply List.ext_getElem?
 intro i
 rw [List.getElem?_map,List.getElem?_map]
 by_cases hi:i<l.length
 ·rw [List.getElem?_range' hi,List.getElem?_eq_getElem hi]
  simp only [Option.map_some,Nat.zero_add,Nat.one_mul]
  rw [h i _ (List.getElem?_eq_getElem hi)]
 ·rw [List.getElem?_eq_none (by simpa using hi),List.getElem?_eq_none (by simpa using hi)];rfl
section
variable {P:Program} {c:Ctx} {s s':S} {y:Lay} {a:Act} {w:World}
theorem adb (A:At c s y a w){ld:iF}{t:Option Nat}{SU:List Value}{R:List Pc}{K':Nat→Obj→Prop}{L':List Pc}{hK'}{zd':Zed K'}{src':Nat→Value}{n':Nat}{r:Ay}{y1:Lay}{u:Value}{w':World}
  (o:ld.ok (aX c s y) s SU) (hlb:∀b∈ld.box,b∈s.box.map (·.1)) (hlt:∀p∈ld.tree,p∈s.tree.map (·.1)) (hm:WY ld=true) (hst:ld.src.all stable=true→K'=c.K) (hsrc:∀j,src' j=SU[j]?.getD undef)
  (hval:RV (aX (Ctx.mk c.W L' K' src' n' hK' c.bF c.hF zd') (oG r.box r.tree) y1) r.val u) (akr:∀b cs,(b,cs)∈(oG r.box r.tree).box→jk (aX (Ctx.mk c.W L' K' src' n' hK' c.bF c.hF zd') (oG r.box r.tree) y1) cs (y1.us b).toList)
  (hnt:(r.tree.map (·.1)).Nodup) (hlen:r.box.length=ld.box.length) (hbl:∀i b,ld.box[i]?=some b→y1.bl i=y.bl b) (hhd:∀q p,ld.tree[q]?=some p→y1.hd q=y.hd p)
  (S0:St c.W w' (dJ y1.bl y1.T y1.us (bO 0 r.box)++(bW y1.hd r.tree++(((s.box.map (·.1)).filter fun k=> !ld.box.contains k).map (fun b=>rowP (y.bl b) (y.T b) (y.us b))++(((s.tree.map (·.1)).filter fun k=> !ld.tree.contains k).map (fun p=>gD (y.hd p) ((look p s.tree).getD []))++(gI y.w0 y.F s.dG++c.L))))))
  (hd':fM c.n t=true) (h:s.back t ld r=some s'):∃y',At c s' y' (a.put t u) w':=by
 unfold S.back at h
 obtain⟨s3,h3,h⟩:=aj h
 obtain⟨s4,h4,h⟩:=aj h
 obtain⟨v,h5,h⟩:=aj h
 injection h with h;subst h
 generalize ht:t.getD 0=T at h3 h4 h5
 have An:=A.nt
 rw [List.map_append,List.nodup_append]at An
 obtain⟨b1,b2⟩:=GZ (rt:=r.tree) (i:=0) o.nt hlt An.1
 have bk:=GY r.tree ld.tree 0 s
 have bf:=JJ r.tree ld.tree 0 s
 obtain⟨c1,c2,c3,c4,c5,c6⟩:=G5 h3 o.nb (by rw [bk];exact hlb) (by rw [bk];exact A.nb)
 have inj:∀q q',gV ld T q=gV ld T q'→¬q<ld.tree.length→¬q'<ld.tree.length→q=q':=by
  intro q q' e h1 h2
  unfold gV at e
  rw [List.getElem?_eq_none (by omega),List.getElem?_eq_none (by omega)]at e
  simp only [Pf]at e;omega
 obtain⟨d1,d2,d3,d4,d5,d6,d7⟩:=Dk h4 hnt (by rw [c2];exact b1) inj
 have hnew:∀q,¬q<ld.tree.length→gV ld T q=1000*(T+1)+q:=fun q h1=>by
  unfold gV;rw [List.getElem?_eq_none (by omega)];rfl
 have hold:∀q p,ld.tree[q]?=some p→gV ld T q=p:=fun q p e=>by unfold gV;rw [e];rfl
 let new:Nat→Prop:=fun n=> ∃q,q∈r.tree.map (·.1)∧¬q<ld.tree.length∧gV ld T q=n
 have newF:∀n,new n→look n (gT r.tree ld.tree 0 s).tree=none∧look n s.dG=none:=by
  rintro n ⟨q,h1,h2,rfl⟩
  obtain⟨rows,hr⟩:=dX.1 h1
  obtain⟨_,k2,k3,_⟩:=d6 q rows (fD hr) h2
  rw [c2]at k2;rw [c3,bf]at k3
  exact⟨k2,k3⟩
 classical
 let y2:Lay:= {y with T:=fun b=>match pos b ld.box 0 with|some i=>y1.T i|none=>y.T b,us:=fun b=>match pos b ld.box 0 with|some i=>y1.us i|none=>y.us b,hd:=fun n=>if new n then y1.hd (n-1000*(T+1))else y.hd n}
 have EO:∀n,¬new n→y2.hd n=y.hd n:=fun n h1=>if_neg h1
 have MU:∀q,q∈r.tree.map (·.1)→¬q<ld.tree.length→y2.hd (gV ld T q)=y1.hd q:=fun q h1 h2=>by
  show(if new (gV ld T q)then _ else _)=_
  have e0:gV ld T q-1000*(T+1)=q:=by rw [hnew q h2];exact Nat.add_sub_cancel_left _ _
  rw [if_pos ⟨q,h1,h2,rfl⟩,e0]
 have k4:∀n,n∈s4.tree.map (·.1)↔n∈(gT r.tree ld.tree 0 s).tree.map (·.1)∨new n:=fun n=>by rw [d5 n,c2]
 have f4:s4.dG=s.dG:=d3.trans (c3.trans bf)
 have keep:∀n,n∈(s.tree++s.dG).map (·.1)→(∀j,ld.tree[j]?=some n→look (0+j) r.tree=none→False)→n∈(s4.tree++s4.dG).map (·.1)∧y2.hd n=y.hd n:=by
  intro n hn hg
  have hin:n∈(gT r.tree ld.tree 0 s).tree.map (·.1)∨n∈s.dG.map (·.1):=by
   rw [List.map_append,List.mem_append]at hn
   rcases hn with hn|hn
   ·left
    rw [dX,b2 n]
    cases e:pos n ld.tree 0 with
    | none=>exact dX.1 hn
    | some m=>
     obtain⟨d,e1,e2⟩:=wT e
     have:m=d:=by omega
     subst this
     simp only
     cases e3:look m r.tree with
     | some rows=>exact⟨rows,rfl⟩
     | none=>exact(hg m e2 (by rw [Nat.zero_add];exact e3)).elim
   ·exact .inr hn
  refine⟨?_,EO n fun hw=>?_⟩
  ·rw [List.map_append,List.mem_append,f4]
   exact hin.imp (fun h=>(k4 n).2 (.inl h)) _root_.id
  ·obtain⟨f1,f2⟩:=newF n hw
   rcases hin with h1|h1
   ·obtain⟨x,hx⟩:=dX.1 h1;rw [f1]at hx;cases hx
   ·obtain⟨x,hx⟩:=dX.1 h1;rw [f2]at hx;cases hx
 have kb:s4.box.map (·.1)=s.box.map (·.1):=by rw [d2,c4,bk]
 have trans:∀{v:V} {u:Value},Left r.tree ld.tree 0 v→RV (aX c s y) v u→RV (aX c s4 y2) v u:=by
  intro v u hl hv
  refine RV.sub (ρ:=aX c s y) (ρ':=aX c s4 y2) rfl (fun b o ⟨p,h1,h2,h3⟩=>⟨p,by rw [f4];exact h1,h2,h3⟩) rfl (fun b hb=>⟨by show b∈s4.box.map (·.1);rw [kb];exact hb,rfl⟩) (fun q hq hin=>?_) hv
  exact keep q hin fun j e1 e2=>by have:=hl j q e1 e2;rw [this]at hq;cases hq
 have B:dH (aX (Ctx.mk c.W L' K' src' n' hK' c.bF c.hF zd') (oG r.box r.tree) y1) (aX c s4 y2) ld T SU:=by
  refine⟨fun j u v e1 e2=>?_,hst,fun i b hi e=>?_,fun q hq=>?_⟩
  ·obtain⟨u0,e3,e4⟩:=o.src.get e1
   have:u0=u:=by rw [←e2];show u0=src' j;rw [hsrc j,e3];rfl
   subst this
   refine trans (fun j' p e5 _=>?_) e4
   have:=List.all_eq_true.1 (List.all_eq_true.1 hm p (List.mem_of_getElem? e5)) v (List.mem_of_getElem? e1)
   simpa using this
  ·refine⟨by show b∈s4.box.map (·.1);rw [kb];exact hlb b (List.mem_of_getElem? e),?_⟩
   exact(hbl i b e).symm
  ·have hq:q∈(r.tree++([]:List (Nat×List (List D)))).map (·.1):=hq
   rw [List.append_nil]at hq
   by_cases hlt':q<ld.tree.length
   ·have e:=List.getElem?_eq_getElem hlt'
    rw [hold q _ e]
    have hp:=Cm (n:=0) o.nt e
    rw [Nat.zero_add]at hp
    have hin:ld.tree[q]∈(gT r.tree ld.tree 0 s).tree.map (·.1):=by
     rw [dX,b2,hp];exact dX.1 hq
    refine⟨?_,?_⟩
    ·show _∈(s4.tree++s4.dG).map (·.1)
     rw [List.map_append,List.mem_append];exact .inl ((k4 _).2 (.inl hin))
    ·show y2.hd _=y1.hd q
     rw [EO _ fun hw=>by obtain⟨x,hx⟩:=dX.1 hin;rw [(newF _ hw).1]at hx;cases hx]
     exact(hhd q _ e).symm
   ·refine⟨?_,MU q hq hlt'⟩
    show _∈(s4.tree++s4.dG).map (·.1)
    rw [List.map_append,List.mem_append];exact .inl ((k4 _).2 (.inr ⟨q,hq,hlt',rfl⟩))
 have A4:At c s4 y2 a w':=by
  refine⟨A.defers,A.size,?_,fun t' v' e=>?_,fun b cs hb=>?_,fun p rows hp=>?_,by rw [kb];exact A.nb,?_,A.fix.1,fun i g1 g2=>⟨(A.fix.2 i g1 g2).1,(EO i fun⟨q,h1,h2,h3⟩=>?_).trans (A.fix.2 i g1 g2).2⟩⟩
  ·
   have hperm:(dJ y2.bl y2.T y2.us s4.box++(bW y2.hd s4.tree++(gI y2.w0 y2.F s4.dG++c.L))).Perm (dJ y1.bl y1.T y1.us (bO 0 r.box)++(bW y1.hd r.tree++(((s.box.map (·.1)).filter fun k=> !ld.box.contains k).map (fun b=>rowP (y.bl b) (y.T b) (y.us b))++(((s.tree.map (·.1)).filter fun k=> !ld.tree.contains k).map (fun p=>gD (y.hd p) ((look p s.tree).getD []))++(gI y.w0 y.F s.dG++c.L))))):=by
    have p1:(dJ y2.bl y2.T y2.us s4.box).Perm (dJ y1.bl y1.T y1.us (bO 0 r.box)++((s.box.map (·.1)).filter fun k=> !ld.box.contains k).map (fun b=>rowP (y.bl b) (y.T b) (y.us b))):=by
     rw [jV,jV,kb,gP,hlen]
     refine((vg A.nb o.nb hlb).map _).trans ?_
     rw [List.map_append]
     have e1:ld.box.map (fun b=>rowP (y2.bl b) (y2.T b) (y2.us b))=(List.range' 0 ld.box.length).map fun b=>rowP (y1.bl b) (y1.T b) (y1.us b):=by
      refine(MS fun i b e=>?_).symm
      have hp:=Cm (n:=0) o.nb e
      rw [Nat.zero_add]at hp
      show rowP (y1.bl i) (y1.T i) (y1.us i)=rowP (y.bl b) (match pos b ld.box 0 with|some i=>y1.T i|none=>y.T b) (match pos b ld.box 0 with|some i=>y1.us i|none=>y.us b)
      rw [hp,hbl i b e]
     rw [e1]
     refine List.Perm.append_left _ (List.Perm.of_eq (List.map_congr_left fun b hb=>?_))
     have hnb:b∉ld.box:=by have:=(List.mem_filter.1 hb).2;simpa using this
     have hp:pos b ld.box 0=none:=by
      cases e:pos b ld.box 0 with
      | none=>rfl
      | some i=>obtain⟨d,_,e2⟩:=wT e;exact absurd (List.mem_of_getElem? e2) hnb
     show rowP (y.bl b) (match pos b ld.box 0 with|some i=>y1.T i|none=>y.T b) (match pos b ld.box 0 with|some i=>y1.us i|none=>y.us b)=_
     rw [hp]
    have p2:(bW y2.hd s4.tree).Perm (bW y1.hd r.tree++((s.tree.map (·.1)).filter fun k=> !ld.tree.contains k).map (fun p=>gD (y.hd p) ((look p s.tree).getD []))):=by
     rw [nP _ d4,nP _ hnt]
     have knew:∀n,n∈(gT r.tree ld.tree 0 s).tree.map (·.1)↔(∃q,q∈r.tree.map (·.1)∧ld.tree[q]?=some n)∨(n∈s.tree.map (·.1)∧n∉ld.tree):=by
      intro n
      rw [dX,b2 n]
      cases e:pos n ld.tree 0 with
      | none=>
       have hn:=Lm e
       simp only
       rw [←dX]
       constructor
       ·intro h1;exact .inr ⟨h1,hn⟩
       ·rintro (⟨q,_,h2⟩|h1)
        ·exact absurd (List.mem_of_getElem? h2) hn
        ·exact h1.1
      | some m=>
       obtain⟨d,e1,e2⟩:=wT e
       have:m=d:=by omega
       subst this
       simp only
       rw [←dX]
       constructor
       ·intro h1;exact .inl ⟨m,h1,e2⟩
       ·rintro (⟨q,h1,h2⟩|h1)
        ·have h3:=Cm (n:=0) o.nt h2
         rw [e]at h3;injection h3 with h3
         have:m=q:=by omega
         subst this;exact h1
        ·exact absurd (List.mem_of_getElem? e2) h1.2
     have hlow:∀q,q∈r.tree.map (·.1)→q<ld.tree.length→ld.tree[q]?=some (gV ld T q):=fun q _ h2=>by
      rw [List.getElem?_eq_getElem h2,hold q _ (List.getElem?_eq_getElem h2)]
     have hnd:((r.tree.map (·.1)).map (gV ld T)++(s.tree.map (·.1)).filter fun k=> !ld.tree.contains k).Nodup:=by
      refine List.nodup_append.2 ⟨?_,An.1.sublist List.filter_sublist,fun x hx z hz e=>?_⟩
      ·rw [List.nodup_iff_pairwise_ne,List.pairwise_map]
       refine List.Pairwise.imp_of_mem (fun {q q'} h1 h2 hne e=>?_) (List.nodup_iff_pairwise_ne.1 hnt)
       by_cases l1:q<ld.tree.length
       ·by_cases l2:q'<ld.tree.length
        ·have e1:=Cm (n:=0) o.nt (hlow q h1 l1)
         have e2:=Cm (n:=0) o.nt (hlow q' h2 l2)
         rw [e,e2]at e1;injection e1 with e1;omega
        ·have:=(newF _ ⟨q',h2,l2,rfl⟩).1
         have h3:=(knew (gV ld T q)).2 (.inl ⟨q,h1,hlow q h1 l1⟩)
         rw [e]at h3
         obtain⟨x,hx⟩:=dX.1 h3;rw [this]at hx;cases hx
       ·by_cases l2:q'<ld.tree.length
        ·have:=(newF _ ⟨q,h1,l1,rfl⟩).1
         have h3:=(knew (gV ld T q')).2 (.inl ⟨q',h2,hlow q' h2 l2⟩)
         rw [←e]at h3
         obtain⟨x,hx⟩:=dX.1 h3;rw [this]at hx;cases hx
        ·exact hne (inj q q' e l1 l2)
      ·subst e
       obtain⟨q,h1,rfl⟩:=List.mem_map.1 hx
       obtain⟨h2,h3⟩:=List.mem_filter.1 hz
       have h3:gV ld T q∉ld.tree:=by simpa using h3
       by_cases l1:q<ld.tree.length
       ·exact h3 (List.mem_of_getElem? (hlow q h1 l1))
       ·have:=(newF _ ⟨q,h1,l1,rfl⟩).1
        obtain⟨x,hx⟩:=dX.1 ((knew _).2 (.inr ⟨h2,h3⟩));rw [this]at hx;cases hx
     have hmem:∀x,x∈s4.tree.map (·.1)↔x∈((r.tree.map (·.1)).map (gV ld T)++(s.tree.map (·.1)).filter fun k=> !ld.tree.contains k):=by
      intro n
      rw [k4 n,knew n,List.mem_append,List.mem_filter]
      constructor
      ·rintro ((⟨q,h1,h2⟩|⟨h1,h2⟩)|⟨q,h1,h2,h3⟩)
       ·exact .inl (List.mem_map.2 ⟨q,h1,hold q n h2⟩)
       ·exact .inr ⟨h1,by simpa using h2⟩
       ·exact .inl (List.mem_map.2 ⟨q,h1,h3⟩)
      ·rintro (h1|⟨h1,h2⟩)
       ·obtain⟨q,h7,rfl⟩:=List.mem_map.1 h1
        by_cases l1:q<ld.tree.length
        ·exact .inl (.inl ⟨q,h7,hlow q h7 l1⟩)
        ·exact .inr ⟨q,h7,l1,rfl⟩
       ·exact .inl (.inr ⟨h1,by simpa using h2⟩)
     refine((NS d4 hnd hmem).map _).trans ?_
     rw [List.map_append,List.map_map]
     refine List.Perm.append (List.Perm.of_eq (List.map_congr_left fun q hq=>?_)) (List.Perm.of_eq (List.map_congr_left fun p hp=>?_))
     ·obtain⟨rows,hr⟩:=dX.1 hq
      simp only [Function.comp,hr,Option.getD_some]
      by_cases l1:q<ld.tree.length
      ·have e:=hlow q hq l1
       have hp:=Cm (n:=0) o.nt e
       rw [Nat.zero_add]at hp
       have e3:look (gV ld T q) (gT r.tree ld.tree 0 s).tree=some rows:=by rw [b2,hp];exact hr
       rw [d7 _ _ (by rw [c2];exact e3),EO _ fun hw=>by rw [(newF _ hw).1]at e3;cases e3]
       rw [hhd q _ e];rfl
      ·rw [(d6 q rows (fD hr) l1).1,MU q hq l1];rfl
     ·obtain⟨h1,h2⟩:=List.mem_filter.1 hp
      have h2:p∉ld.tree:=by simpa using h2
      obtain⟨rows,hr⟩:=dX.1 h1
      have e3:look p (gT r.tree ld.tree 0 s).tree=some rows:=by
       rw [b2]
       cases e:pos p ld.tree 0 with
       | none=>exact hr
       | some i=>obtain⟨d,_,e2⟩:=wT e;exact absurd (List.mem_of_getElem? e2) h2
      rw [d7 _ _ (by rw [c2];exact e3),hr,EO _ fun hw=>by rw [(newF _ hw).1]at e3;cases e3]
    rw [f4]
    exact(List.Perm.append p1 (List.Perm.append p2 (List.Perm.refl _))).trans (XA _ _ _ _ _)
   exact S0.perm hperm.symm
  ·rw [d1,c1]at e
   rcases JK e with h1|⟨h1,h2⟩
   ·subst h1;trivial
   ·exact trans h2 (A.env t' v' h1)
  ·rw [d2]at hb
   rcases c6 b cs hb with⟨i,cs0,e1,e2,e3⟩|⟨e1,e2⟩
   ·have hp:=Cm (n:=0) o.nb e1
    rw [Nat.zero_add]at hp
    have h1:=akr i cs0 (fD (show look i (bO 0 r.box)=some cs0 by have:=mF (l:=r.box) (n:=0) i;rw [Nat.zero_add]at this;rw [this];exact e2))
    have h2:=ze B e3 h1
    show jk _ cs (match pos b ld.box 0 with|some i=>y1.us i|none=>y.us b).toList
    rw [hp];exact h2
   ·obtain⟨cs0,f1,f2,f3⟩:=JL e2
    have hp:pos b ld.box 0=none:=by
     cases e:pos b ld.box 0 with
     | none=>rfl
     | some i=>obtain⟨d,_,e2⟩:=wT e;exact absurd (List.mem_of_getElem? e2) e1
    show jk _ cs (match pos b ld.box 0 with|some i=>y1.us i|none=>y.us b).toList
    rw [hp]
    have h0:=A.box b cs0 f1
    refine jk.of (by rw [h0.len,f2]) fun k v u e3 e4=>?_
    rcases f3 k v e3 with h6|⟨h6,h7⟩
    ·subst h6;trivial
    ·obtain⟨u',g1,g2⟩:=h0.get h6
     rw [e4]at g1;injection g1 with g1;subst g1
     exact trans h7 g2
  ·rw [f4]at hp
   show kL (y.w0 p) _ (y2.hd p) (y.F p)
   have:=(keep p (by rw [List.map_append,List.mem_append];exact .inr (List.mem_map.2 ⟨_,hp,rfl⟩)) (fun j e _=>An.2.2 p (hlt p (List.mem_of_getElem? e)) p (List.mem_map.2 ⟨_,hp,rfl⟩) rfl)).2
   rw [this];exact A.dG p rows hp
  ·rw [List.map_append,List.nodup_append,f4]
   refine⟨d4,An.2.1,fun x hx z hz e=>?_⟩
   subst e
   rcases(k4 x).1 hx with h1|h1
   ·rw [dX,b2]at h1
    cases e:pos x ld.tree 0 with
    | none=>rw [e]at h1;exact An.2.2 x (dX.2 h1) x hz rfl
    | some i=>obtain⟨d,_,e2⟩:=wT e;exact An.2.2 x (hlt x (List.mem_of_getElem? e2)) x hz rfl
   ·obtain⟨q,hq⟩:=dX.1 hz
    rw [(newF x h1).2]at hq;cases hq
  ·obtain⟨rows,hr⟩:=dX.1 h1
   have:=(d6 q rows (fD hr) h2).2.2.2
   rw [h3]at this
   unfold aU at g1;omega
 exact⟨y2,A4.value (NT B h5 hval) hd'⟩
end
section
variable {P:Program} {c:Ctx} {s s':S} {y:Lay} {a:Act} {w:World}
theorem Vf {f : FuncId} {fn : Func} (h1 : P.funcs[f]? = some fn) (h2 : (fn.name == "runtime.NumGoroutine") = false) (h3 : fn.body.isNone = false) (args : Array Value) (w : World) : (callFunc f args).run P w = .ok (.enter f args) w := by
 have h2' : ¬ fn.name = "runtime.NumGoroutine" := by simpa using h2
 have h3':¬fn.body=none:=by intro e;rw [e]at h3;cases h3
 simp [callFunc,h1,h2',h3']
theorem Kh {f:Nat→List Nat}{m:Nat}:∀{l:List Nat},l.Nodup→m∈l→(l.flatMap f).Perm (f m++(l.filter fun x=>decide (x≠m)).flatMap f)
 | [],_,h=>by cases h
 | c::l,n,h=>by
  have n2:=List.nodup_cons.1 n
  rw [List.flatMap_cons,List.filter_cons]
  by_cases e:c=m
  ·subst e
   rw [if_neg (by simp)]
   have:l.filter (fun x=>decide (x≠c))=l:=List.filter_eq_self.2 fun x hx=>by
    have:x≠c:=fun e=>n2.1 (e▸hx)
    simpa using this
   rw [this]
  ·rw [if_pos (by simpa using e),List.flatMap_cons]
   have hm:m∈l:=(List.mem_cons.1 h).resolve_left fun e2=>e e2.symm
   have p:=Kh (f:=f) n2.2 hm
   refine(List.Perm.append_left _ p).trans ?_
   rw [←List.append_assoc,←List.append_assoc]
   exact List.Perm.append_right _ List.perm_append_comm
theorem Ki {f:Nat→List Nat}{m:Nat}{x:List Nat}:∀(l:List Nat),(l.filter fun x=>decide (x≠m)).flatMap (dR f m x)=(l.filter fun x=>decide (x≠m)).flatMap f
 | []=>rfl
 | c::l=>by
  rw [List.filter_cons]
  by_cases e:c=m
  ·rw [if_neg (by simpa using e)];exact Ki l
  ·rw [if_pos (by simpa using e),List.flatMap_cons,List.flatMap_cons,Ki l,fO _ _ e]
theorem kL.ade {w:World}{rows:List (List D)}{h:Hd}{F:List Nat}(t:kL w rows h F){i j:Nat}{r:List D}{rs:List (List D)}(hi:rows[i]?=some r)(hj:r[j]?=some (.l rs)):
  ∃Fi Fr,F.Perm (Fi++Fr)∧pG w (.l rs) (h.cv (i*r.length+j)) Fi∧∀(w':World) (rs':List (List D)) (Fi':List Nat),pG w' (.l rs') (h.cv (i*r.length+j)) Fi'→(∀b∈Fr,w'.heap[b]?=w.heap[b]?)→∃F2,F2.Perm (Fi'++Fr)∧kL w' (rows.set i (r.set j (.l rs'))) h F2:=by
 have o:=t.own
 have hd:=t.hd
 cases hv:h.v with
 | slice A n2 c2=>
  rw [hv]at o hd
  cases o with
  | nil=>simp at hi
  | l _ _ _ gp ob k T cs us fs h1 h2 h3 h4 h5 h6 h0 h7 h8 h9=>
   have hk:r.length=k:=h5 r (List.mem_of_getElem? hi)
   have hjk:j<k:=by rw [←hk];exact(List.getElem?_eq_some_iff.1 hj).1
   have f:=flat_get rows i j r _ h5 hi hj
   have hm:=(List.getElem?_eq_some_iff.1 f).1
   have e:=hd gp ob n2 c2 cs T (0,0) _ rs rfl h7 f
   have e0:=h8 _ _ f
   rw [e0]at e
   injection e with e
   have oi:=h9 _ _ f
   rw [e]at oi
   rw [hk]
   have hmr:i*k+j∈List.range rows.flatten.length:=List.mem_range.2 hm
   have hpm:=Kh (f:=fs) List.nodup_range hmr
   refine⟨fs (i*k+j),gp::((List.range rows.flatten.length).filter fun x=>decide (x≠i*k+j)).flatMap fs,(List.Perm.cons _ hpm).trans List.perm_middle.symm,oi,fun w' rs' Fi' o' ho=>?_⟩
   have aeU:w'.heap[gp]?=some (.cells cs T (0,0)):=(ho gp List.mem_cons_self).trans h7
   have xR:=y8 rows i j r (.l rs') h5 hi hjk
   have hlen:(rows.set i (r.set j (.l rs'))).flatten.length=rows.flatten.length:=by rw [xR,List.length_set]
   have hall:∀r'∈rows.set i (r.set j (.l rs')),r'.length=k:=fun r' hr'=>by
    rcases List.mem_or_eq_of_mem_set hr' with hr'|hr'
    ·exact h5 r' hr'
    ·rw [hr',List.length_set];exact hk
   have get:∀(m:Nat) (d:D),(rows.set i (r.set j (.l rs'))).flatten[m]?=some d→(m=i*k+j∧d= .l rs')∨(m≠i*k+j∧rows.flatten[m]?=some d):=by
    intro m d e3
    rw [xR,List.getElem?_set]at e3
    by_cases hmm:i*k+j=m
    ·rw [if_pos hmm,if_pos hm]at e3
     injection e3 with e3;exact .inl ⟨hmm.symm,e3.symm⟩
    ·rw [if_neg hmm]at e3;exact .inr ⟨fun h=>hmm h.symm,e3⟩
   refine⟨gp::(List.range rows.flatten.length).flatMap (dR fs (i*k+j) Fi'),?_,?_,fun g' ob' n' c' cs' T' fr m r' q1 q2 q3=>?_⟩
   ·have p2:=Kh (f:=dR fs (i*k+j) Fi') List.nodup_range hmr
    rw [dS,Ki]at p2
    exact(List.Perm.cons _ p2).trans List.perm_middle.symm
   ·rw [hv,←hlen]
    refine .l _ n2 c2 gp ob k T cs us (dR fs (i*k+j) Fi') (by rw [List.length_set];exact h1) h2 h3 h4 hall h6 (fun e=>h0 (List.eq_nil_of_length_eq_zero (by have:=congrArg List.length e;simpa using this))) aeU (fun m d e3=>?_) (fun m d e3=>?_)
    ·rcases get m d e3 with⟨rfl,rfl⟩|⟨_,e4⟩
     ·exact e0
     ·exact h8 m d e4
    ·rcases get m d e3 with⟨rfl,rfl⟩|⟨hne,e4⟩
     ·rw [dS,e];exact o'
     ·rw [fO _ _ hne]
      have agw:m∈List.range rows.flatten.length:=List.mem_range.2 (List.getElem?_eq_some_iff.1 e4).1
      exact(h9 m d e4).st fun b hb=>ho b (List.mem_cons_of_mem _ (List.mem_flatMap.2 ⟨m,List.mem_filter.2 ⟨agw,by simpa using hne⟩,hb⟩))
   ·rw [hv]at q1
    injection q1 with q1 _ _;injection q1 with q1;injection q1 with q1 qo _
    subst q1;subst qo
    rw [aeU]at q2;injection q2 with q2;injection q2 with q2 _ _
    subst q2
    rcases get m _ q3 with⟨rfl,_⟩|⟨_,e4⟩
    ·exact hd gp ob n2 c2 cs T (0,0) _ rs rfl h7 f
    ·exact hd gp ob n2 c2 cs T (0,0) m r' rfl h7 e4
 | _=>rw [hv]at o;cases o
theorem Qg {ρ ρ':Rel}:∀{vs:List V} {us:List Value},vs.all Mv=true→jk ρ vs us→jk ρ' vs us
 | [],_,_,h=>h
 | v::vs,us,ha,h=>by
  rw [List.all_cons,Bool.and_eq_true]at ha
  obtain⟨u,q,h1,h2,h3⟩:=h
  refine⟨u,q,h1,?_,Qg ha.2 h3⟩
  cases v<;>first|exact h2|(cases ha.1)
theorem Z9 {s s':S}{d:Option Nat}{ld:iF}{r:Ay}(hN:¬∃cs,wM r=some cs∧(ld.box.isEmpty&&ld.tree.isEmpty)=true)(h:s.Nr d ld r=some s'):s.back d ld r=some s':=by
 unfold S.Nr at h
 cases e:wM r with
 | none=>rw [e]at h;exact h
 | some cs=>
  rw [e]at h
  simp only [Et]at h
  rw [if_neg (fun k=>hN ⟨cs,e,k⟩)]at h
  exact h
theorem XB {f:FuncId}{M:aN}(HS:aF P f M)(A:At c s y a w){p i j k:Nat}{rest:List V}{us:List Value}(hargs:jk (aX c s y) (.inn p i j k::rest) us){dst:Option Nat}(hd':fM c.n dst=true)(h:WZ M s dst p i j k rest=some s'):
  Calls P f us.toArray w fun e w'=> ∃u,e= .returned u∧∃y',At c s' y' (a.put dst u) w':=by
 unfold WZ at h
 obtain⟨rows,hl,h⟩:=aj h
 obtain⟨r,hr,h⟩:=aj h
 obtain⟨d,hd,h⟩:=aj h
 obtain⟨rs,hrs,h⟩:=aj h
 obtain⟨⟨hk,hpl⟩,h⟩:=aB h
 obtain⟨r0,hM,h⟩:=aj h
 rw [Ka hrs]at hd
 unfold OV at h
 split at h
 case h_2=>cases h
 rename_i v rs'
 obtain⟨hv,h⟩:=aB h
 injection h with h;subst h
 obtain⟨u0,us',rfl,⟨_,hu0,_⟩,hrest⟩:=hargs
 have hu0:u0=(y.hd p).cv (i*k+j):=hu0
 obtain⟨F,sp,nd,hb⟩:=(A.out hl).sep
 have hext:=A.st.ext
 obtain⟨F1,G,rfl,t,g⟩:=sp.lF
 have t:kL w rows (y.hd p) F1:=t
 obtain⟨Fi,Fr,hperm,oi,kk⟩:=t.ade hr hd
 rw [hk,←hu0]at oi
 obtain⟨hh,hhv,ti⟩:=pG.tree oi
 have ahs:Sep w (lI w Fr::(dJ y.bl y.T y.us s.box++(bW y.hd (drop1 p s.tree)++(gI y.w0 y.F s.dG++c.L)))) (Fr++G):= .cons (h:=lI w Fr) ⟨rfl,fun _ _=>rfl⟩ g
 have k1:∀w',St c.W w' [lI w (Fr++G)]→∀b o,c.K b o→w'.heap[b]?=some o:=fun w' S b o hK=>by
  have:=St.Ve (E:= []) S ahs
  exact c.hK w' (St.rU (St.rU (St.rU (this.drop)))) b o hK
 have hpF:(F1++G).Perm (Fi++(Fr++G)):=(List.Perm.append_right G hperm).trans (List.Perm.of_eq (List.append_assoc _ _ _))
 let y0:Lay:= {bl:=fun _=>0,hd:=fun _=>hh,T:=fun _=>0,us:=fun _=> #[],w0:=fun _=>w,F:=fun _=> []}
 have M0:Mem (Ctx.mk c.W [lI w (Fr++G)] c.K c.src c.n k1 c.bF c.hF c.zed) (oG [] (bO 0 [rs])) y0 w:=by
  refine⟨⟨hext,Fi++((Fr++G)++ []), .cons (h:=gD hh rs) ti (.cons (h:=lI w (Fr++G)) ⟨rfl,fun _ _=>rfl⟩ .nil),?_,?_⟩,(fun b cs hb=>by cases hb),(fun p rows hp=>by cases hp),List.nodup_nil,by simp [oG,bO]⟩
  ·rw [List.append_nil];exact hpF.nodup_iff.1 nd
  ·intro b hb2;rw [List.append_nil]at hb2;exact hb b (hpF.mem_iff.2 hb2)
 have hcall:=HS.run (Ctx.mk c.W [lI w (Fr++G)] c.K c.src c.n k1 c.bF c.hF c.zed) (.own 0::rest) [] [rs] _ hM y0 (u0::us') w M0 ⟨u0,us',rfl,⟨by simp [aX,oG,bO],hhv.symm⟩,Qg hpl hrest⟩
 refine hcall.mono fun e w' he=>?_
 obtain⟨u,y1,rfl,E⟩:=he
 refine⟨u,rfl,?_⟩
 have hh1:y1.hd 0=hh:=E.hd 0 (by simp)
 have hst:St c.W w' ([gD (y1.hd 0) rs']++ [lI w (Fr++G)]):=E.mem.st
 rw [hh1]at hst
 obtain⟨F',sp',nd',hb'⟩:=(St.Ve hst ahs).sep
 obtain⟨Fi',G1,rfl,t',g1⟩:=Sep.lF sp'
 obtain⟨Fr',G2,rfl,⟨rfl,hsn⟩,g2⟩:=Sep.lF g1
 have t':kL w' rs' hh Fi':=t'
 have o':=t'.own
 rw [hhv,hu0,←hk]at o'
 obtain⟨F2,hp2,t2⟩:=kk w' rs' Fi' o' hsn
 have hpp:(F2++G2).Perm (Fi'++(Fr'++G2)):=(List.Perm.append_right G2 hp2).trans (List.Perm.of_eq (List.append_assoc _ _ _))
 have S:St c.W w' (gD (y.hd p) (rows.set i (r.set j (.l rs')))::(dJ y.bl y.T y.us s.box++(bW y.hd (drop1 p s.tree)++(gI y.w0 y.F s.dG++c.L)))):=
  ⟨hst.ext,_, .cons (h:=gD (y.hd p) (rows.set i (r.set j (.l rs')))) t2 g2,hpp.nodup_iff.2 nd',fun b hb2=>hb' b (hpp.mem_iff.1 hb2)⟩
 have A2:=A.ahL hl S
 obtain⟨xv,rfl⟩:∃x,v= .v x:=by cases v<;>first|exact⟨_,rfl⟩|cases hv
 exact⟨y,A2.value (v:= .v xv) (show u=xv from E.val) hd'⟩
theorem DL {G:List (FuncId×Bool×aN)}(hG:∀f M,look f G=some M→aF P f M.2):ED P G:=by
 intro c s s' o cl g args f M ho hcl hargs hg hM h hd' a w hgood next Q kk
 obtain⟨y,A⟩:=hgood
 obtain⟨us2,e1,e2⟩:=A.ev hg
 have ea:=(PS A hargs).app e2
 have HS:=hG f.1 M hM
 obtain⟨fn,n1,n2,n3⟩:=HS.fn
 have aht:(execOp a.eval o).run P w= .ok (.enter f.1 (cl.args.toList.map a.eval++us2).toArray) w:=by
  unfold execOp
  simp only [ho,resolve,hcl,e1,Deferred.ofValue,Sem.run_bind,Sem.run_pure,Result.andThen_ok,invoke]
  rw [Vf n1 n2 n3]
  congr 2
  apply Array.ext'
  simp
 by_cases hI:∃p i j k rest,args++f.2= .inn p i j k::rest∧M.1=true
 ·obtain⟨p,i,j,k,rest,e7,e8⟩:=hI
  rw [e7,e8]at h
  unfold wO at h
  simp only [if_true]at h
  rw [e7]at ea
  have hcall:=XB HS A ea hd' h
  unfold Oper.wp
  rw [aht,Oper.upon_enter]
  refine hcall.mono fun e w' he=>?_
  obtain⟨u,rfl,y',A'⟩:=he
  exact kk _ _ ⟨y',A'⟩
 have h:vU M.1 M.2 s o.dst (args++f.2)=some s':=by
  unfold wO at h
  split at h
  ·rename_i p i j k rest e7
   cases e8:M.1 with
   | true=>exact absurd ⟨p,i,j,k,rest,e7,e8⟩ hI
   | false=>rw [e8,if_neg (by simp)]at h;rw [e7];exact h
  ·exact h
 unfold vU at h
 obtain⟨x,h1,h⟩:=aj h
 obtain⟨z,h2,h⟩:=aj h
 obtain⟨ts,h3,h⟩:=aj h
 obtain⟨h4,h⟩:=aB h
 obtain⟨r,h5,h⟩:=aj h
 unfold Mt at h4
 simp only [Bool.and_eq_true,decide_eq_true_eq]at h4
 have o0:iF.ok ⟨[],[],[]⟩ (aX c s y) s []:=⟨rfl,List.nodup_nil,List.nodup_nil,fun p hp=>by cases hp⟩
 obtain⟨U1,a1,a2,a3⟩:=Xz (fun p r1 r2 e1 e2=>A.apart e1 e2) (l':=x.2) (vs':=x.1) o0 h1 ea
 obtain⟨SU,b1,b2,b3,b4,b5⟩:=F6 A (l':=z.2) (css:=z.1) a2 h2
 have hbe:x.2.box=z.2.box:=by
  obtain⟨tl,e⟩:=b1.box
  have:=congrArg List.length e
  rw [List.length_append,h4.2,b3]at this
  have:tl= []:=List.eq_nil_of_length_eq_zero (by omega)
  rw [this,List.append_nil]at e;exact e
 rw [hbe]at b3 b4 b5
 obtain⟨t1,t2⟩:=G6 h3
 have hlt:∀p∈z.2.tree,p∈s.tree.map (·.1):=fun p hp=>by
  obtain⟨i,e⟩:=List.getElem?_of_mem hp
  obtain⟨rows,e2,_⟩:=t2 i p e
  exact dX.2 ⟨rows,e2⟩
 have An:=A.nt
 rw [List.map_append,List.nodup_append]at An
 have hperm:(dJ y.bl y.T y.us s.box++(bW y.hd s.tree++(gI y.w0 y.F s.dG++c.L))).Perm ((z.2.box.map (fun b=>rowP (y.bl b) (y.T b) (y.us b))++z.2.tree.map (fun p=>gD (y.hd p) ((look p s.tree).getD [])))++
   ((((s.box.map (·.1)).filter fun k=> !z.2.box.contains k).map (fun b=>rowP (y.bl b) (y.T b) (y.us b))++(((s.tree.map (·.1)).filter fun k=> !z.2.tree.contains k).map (fun p=>gD (y.hd p) ((look p s.tree).getD []))++gI y.w0 y.F s.dG))++c.L)):=by
  have p1:=(vg A.nb b2.nb b4).map fun b=>rowP (y.bl b) (y.T b) (y.us b)
  have p2:=(vg An.1 b2.nt hlt).map fun p=>gD (y.hd p) ((look p s.tree).getD [])
  rw [←jV,List.map_append]at p1
  rw [←nP _ An.1,List.map_append]at p2
  refine(List.Perm.append p1 (List.Perm.append p2 (List.Perm.refl _))).trans ((XA _ _ _ _ _).trans (List.Perm.of_eq ?_))
  simp only [List.append_assoc]
 obtain⟨F,ai1,hR⟩:=(A.st.perm hperm).snap
 obtain⟨K',k1,k2,k3,kz⟩:=ahT A (ld:=z.2) hR (fun x hx=>List.mem_append_right _ (List.mem_append_right _ hx)) (fun p rows e hn=>List.mem_append_right _ (List.mem_append_left _ (List.mem_map.2 ⟨p,List.mem_filter.2 ⟨dX.2 ⟨rows,e⟩,by simpa using hn⟩,by rw [e];rfl⟩))) h4.1
 let y0:Lay:= {bl:=fun i=>y.bl (z.2.box[i]?.getD 0),hd:=fun q=>y.hd (z.2.tree[q]?.getD 0),T:=fun i=>y.T (z.2.box[i]?.getD 0),us:=fun i=>y.us (z.2.box[i]?.getD 0),w0:=fun _=>w,F:=fun _=> []}
 have L:ahS (aX c s y) (aX (Ctx.mk c.W [lI w F] K' (fun j=>SU[j]?.getD undef) c.n k1 c.bF c.hF kz) (oG z.1 (bO 0 ts)) y0) s z.2 SU:=by
  refine⟨fun j u e=>by show SU[j]?.getD undef=u;rw [e];rfl,fun i b e=>⟨?_,?_⟩,fun i p e=>⟨?_,?_⟩,k2⟩
  ·show i∈(bO 0 z.1).map (·.1)
   rw [gP,List.mem_range'_1]
   have:=(List.getElem?_eq_some_iff.1 e).1
   omega
  ·show y.bl (z.2.box[i]?.getD 0)=y.bl b;rw [e];rfl
  ·show i∈(bO 0 ts++([]:List (Nat×List (List D)))).map (·.1)
   rw [List.append_nil,gP,List.mem_range'_1]
   have:=(List.getElem?_eq_some_iff.1 e).1
   omega
  ·show y.hd (z.2.tree[i]?.getD 0)=y.hd p;rw [e];rfl
 have M0:Mem (Ctx.mk c.W [lI w F] K' (fun j=>SU[j]?.getD undef) c.n k1 c.bF c.hF kz) (oG z.1 (bO 0 ts)) y0 w:=by
  refine⟨?_,fun b cs hb=>?_,fun p rows hp=>(by cases hp),jE,by show((bO 0 ts++([]:List (Nat×List (List D)))).map (·.1)).Nodup;rw [List.append_nil];exact jE⟩
  ·show St c.W w (dJ y0.bl y0.T y0.us (bO 0 z.1)++(bW y0.hd (bO 0 ts)++([]++ [lI w F])))
   rw [jV,gP,b3,nP _ jE,gP,t1,List.nil_append]
   have e1:=MS (l:=z.2.box) (f:=fun b=>rowP (y0.bl b) (y0.T b) (y0.us b)) (g:=fun b=>rowP (y.bl b) (y.T b) (y.us b)) (fun i b e=>by
    show rowP (y.bl (z.2.box[i]?.getD 0)) (y.T (z.2.box[i]?.getD 0)) (y.us (z.2.box[i]?.getD 0))=_
    rw [e];rfl)
   have e2:=MS (l:=z.2.tree) (f:=fun p=>gD (y0.hd p) ((look p (bO 0 ts)).getD [])) (g:=fun p=>gD (y.hd p) ((look p s.tree).getD [])) (fun i p e=>by
    obtain⟨rows,e3,e4⟩:=t2 i p e
    have e5:=mF (l:=ts) (n:=0) i
    rw [Nat.zero_add,e4]at e5
    show gD (y.hd (z.2.tree[i]?.getD 0)) _=_
    rw [e,e5,e3];rfl)
   rw [e1,e2,←List.append_assoc]
   exact ai1
  ·have hb:=List.mem_map.2 ⟨_,hb,rfl⟩ |> fun h:b∈(bO 0 z.1).map (·.1)=>(⟨h,jZ jE hb⟩:b∈(bO 0 z.1).map (·.1)∧look b (bO 0 z.1)=some cs)
   have e5:=mF (l:=z.1) (n:=0) b
   rw [Nat.zero_add,hb.2]at e5
   have hlt:b<z.2.box.length:=by rw [←b3];exact(List.getElem?_eq_some_iff.1 e5.symm).1
   have e6:=List.getElem?_eq_getElem hlt
   have:=b5 b _ cs e6 e5.symm _ _ _ (iF.le.refl _ _) L
   show jk _ cs (y.us (z.2.box[b]?.getD 0)).toList
   rw [e6];exact this
 have hcall:=HS.run (Ctx.mk c.W [lI w F] K' (fun j=>SU[j]?.getD undef) c.n k1 c.bF c.hF kz) x.1 z.1 ts r h5 y0 (cl.args.toList.map a.eval++us2) w M0 (a3 _ _ _ b1 L)
 unfold Oper.wp
 rw [aht,Oper.upon_enter]
 refine hcall.mono fun e w' he=>?_
 obtain⟨u,y1,rfl,E⟩:=he
 have hst:St c.W w' (dJ y1.bl y1.T y1.us (bO 0 r.box)++(bW y1.hd r.tree++([]++ [lI w F]))):=E.mem.st
 rw [List.nil_append,←List.append_assoc]at hst
 have adf:=St.Ve hst hR
 have hnt:(r.tree.map (·.1)).Nodup:=by
  have:((r.tree++([]:List (Nat×List (List D)))).map (·.1)).Nodup:=E.mem.nt
  rw [List.append_nil]at this;exact this
 by_cases hN:∃cs,wM r=some cs∧(z.2.box.isEmpty&&z.2.tree.isEmpty)=true
 ·obtain⟨cs,e3,he⟩:=hN
  have he0:=he
  rw [Bool.and_eq_true,List.isEmpty_iff,List.isEmpty_iff]at he
  obtain⟨zb,zt⟩:=he
  unfold S.Nr at h
  rw [e3]at h
  simp only [Et]at h
  rw [if_pos he0]at h
  have hr:=J2 e3
  subst hr
  obtain⟨cs',h6,h⟩:=aj h
  unfold OU at h
  obtain⟨t,ht,h⟩:=aj h
  obtain⟨hf,h⟩:=aB h
  injection h with h;subst h
  have B:dH (aX (Ctx.mk c.W [lI w F] K' (fun j=>SU[j]?.getD undef) c.n k1 c.bF c.hF kz) (oG [cs] []) y1) (aX c s y) z.2 (o.dst.getD 0) SU:=by
   refine⟨fun j u v q1 q2=>?_,k3,fun i b hi q1=>(by rw [zb]at q1;simp at q1),fun q hq=>?_⟩
   ·obtain⟨u0,q3,q4⟩:=b2.src.get q1
    have:u0=u:=by rw [←q2];show u0=SU[j]?.getD undef;rw [q3];rfl
    subst this
    exact q4
   ·have hq:q∈((([]:List (Nat×List (List D)))++([]:List (Nat×List (List D)))).map fun x=>x.1):=hq
    simp at hq
  have hbx:jk (aX (Ctx.mk c.W [lI w F] K' (fun j=>SU[j]?.getD undef) c.n k1 c.bF c.hF kz) (oG [cs] []) y1) cs (y1.us 0).toList:=E.mem.box 0 cs (List.mem_cons_self)
  have hv:=ze B h6 hbx
  have hv0:RV (aX (Ctx.mk c.W [lI w F] K' (fun j=>SU[j]?.getD undef) c.n k1 c.bF c.hF kz) (oG [cs] []) y1) (.ref 0 0) u:=E.val
  have hu:u= .pointer (some ⟨y1.bl 0,0,none⟩):=hv0.2
  have hfl:∀(l:List Nat),(l.filter fun k=> !([]:List Nat).contains k)=l:=fun l=>List.filter_eq_self.2 fun x _=>by simp
  have aks:St c.W w' (rowP (y1.bl 0) (y1.T 0) (y1.us 0)::(dJ y.bl y.T y.us s.box++(bW y.hd s.tree++(gI y.w0 y.F s.dG++c.L)))):=by
   rw [zb,zt,hfl,hfl]at adf
   rw [jV y.bl,nP _ An.1]
   have e9:dJ y1.bl y1.T y1.us (bO 0 [cs])++bW y1.hd ([]:List (Nat×List (List D)))= [rowP (y1.bl 0) (y1.T 0) (y1.us 0)]:=rfl
   have ahU:=adf
   rw [show (Ay.mk (.ref 0 0) [cs] []).box= [cs]from rfl,show(Ay.mk (.ref 0 0) [cs] []).tree= []from rfl,e9]at ahU
   simpa only [List.append_assoc,List.singleton_append] using ahU
  rw [ht]at hd'
  rw [hu,ht]
  exact kk _ _ ⟨_,A.aeM (oH hf) aks hv hd'⟩
 have h:=Z9 hN h
 have hlen:r.box.length=z.1.length:=by
  rcases E.len with e|⟨e1,e2,cs,e3⟩
  ·exact e
  ·exact absurd ⟨cs,e3,by
    have q1:z.2.box= []:=List.eq_nil_of_length_eq_zero (by rw [←b3];exact e1)
    have q2:z.2.tree= []:=List.eq_nil_of_length_eq_zero (by rw [←t1];exact e2)
    rw [q1,q2];rfl⟩ hN
 obtain⟨y',A'⟩:=adb A (t:=o.dst) (SU:=SU) (R:= []) (n':=c.n) (hK':=k1) (zd':=kz) (src':=fun j=>SU[j]?.getD undef) b2 b4 hlt h4.1 k3 (fun j=>rfl) E.val E.mem.box hnt (hlen.trans b3) (fun i b e=>by
   have hi:i<z.1.length:=by rw [b3];exact(List.getElem?_eq_some_iff.1 e).1
   rw [E.bl i hi]
   show y.bl (z.2.box[i]?.getD 0)=_
   rw [e];rfl) (fun q p e=>by
   have hi:q<ts.length:=by rw [t1];exact(List.getElem?_eq_some_iff.1 e).1
   rw [E.hd q hi]
   show y.hd (z.2.tree[q]?.getD 0)=_
   rw [e];rfl) (by simpa only [List.append_assoc] using adf) hd' h
 exact kk _ _ ⟨y',A'⟩
end
end Go.Proofs.YtlpdjhiggpblcaaGreat
