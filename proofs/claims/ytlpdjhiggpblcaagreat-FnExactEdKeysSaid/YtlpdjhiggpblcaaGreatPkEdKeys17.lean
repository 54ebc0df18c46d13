/- The statement of this claim is proved in the last of these texts: by an abstract evaluator that is sound, and by what the functions compute. -/
import Derived.Test.YtlpdjhiggpblcaaGreatPkEdKeys16
open Go.Proofs.Tryz
namespace Go.Proofs.YtlpdjhiggpblcaaGreat.fnExactEdKeys
open Go.ChangeShapes Go.WideShapes Go.ChangeAt Go.RowKit
open Go.ChangeMaps (open_string shut_string)
set_option linter.unusedVariables false
theorem Ov (y0:dw)(aez aeA aeB aeC aeD aeE:Value)(y1:Qa)(aeF:Value)(l2:List mF)(p2:Value)(W:World)(hz:ZW W)(g0:Az (OM.enc y0)=true)(alS:sK (dY W) (.l (ints y0.au.av)) aez)(alT:sK (dY W) (.l (aC y0.aM.aA)) aeA)(alU:sK (dY W) (.l (aG y0.eO.bP)) aeB)(alV:sK (dY W) (.l (ints y0.gG.av)) aeC)(alW:sK (dY W) (.l (ints y0.bI)) aeD)(alX:sK (dY W) (.l (ints y0.bT.av)) aeE)(g1:Az (EC.enc y1)=true)(alY:sK (dY W) (.l (strs y1.bP)) aeF)(g2:Az [.l (fZ l2)]=true)(z2:sK (dY W) (.l (fZ l2)) p2):
  Calls prog 5 #[.agg #[.bool y0.Vi, .int .i64 y0.bR,aez, .int .i64 y0.au.At, .int .i64 y0.bA, .int .i64 y0.Op, .int .i64 y0.bH, .int .i64 y0.eY, .int .i64 y0.dN, .int .i64 y0.bG, .int .i64 y0.iA,aeA,aeB, .int .i64 y0.jT,aeC, .int .i64 y0.gG.At,aeD, .int .i64 y0.kV,aeE, .int .i64 y0.bT.At], .agg #[.int .i64 y1.First,aeF],p2] W fun e W'=>e= .returned (.bool true)∧Ext W W':=
 PK.amM hz (us:= [.agg #[.bool y0.Vi, .int .i64 y0.bR,aez, .int .i64 y0.au.At, .int .i64 y0.bA, .int .i64 y0.Op, .int .i64 y0.bH, .int .i64 y0.eY, .int .i64 y0.dN, .int .i64 y0.bG, .int .i64 y0.iA,aeA,aeB, .int .i64 y0.jT,aeC, .int .i64 y0.gG.At,aeD, .int .i64 y0.kV,aeE, .int .i64 y0.bT.At], .agg #[.int .i64 y1.First,aeF],p2]) (ls:= [aez,aeA,aeB,aeC,aeD,aeE,aeF,p2]) (PX y0 y1 l2 g0 g1 g2)
  ⟨_,_,rfl,⟨[.bool y0.Vi, .int .i64 y0.bR,aez, .int .i64 y0.au.At, .int .i64 y0.bA, .int .i64 y0.Op, .int .i64 y0.bH, .int .i64 y0.eY, .int .i64 y0.dN, .int .i64 y0.bG, .int .i64 y0.iA,aeA,aeB, .int .i64 y0.jT,aeC, .int .i64 y0.gG.At,aeD, .int .i64 y0.kV,aeE, .int .i64 y0.bT.At],rfl,⟨_,_,rfl,rfl,_,_,rfl,rfl,_,_,rfl,wJ rfl alS,_,_,rfl,rfl,_,_,rfl,rfl,_,_,rfl,rfl,_,_,rfl,rfl,_,_,rfl,rfl,_,_,rfl,rfl,_,_,rfl,rfl,_,_,rfl,rfl,_,_,rfl,wJ rfl alT,_,_,rfl,wJ rfl alU,_,_,rfl,rfl,_,_,rfl,wJ rfl alV,_,_,rfl,rfl,_,_,rfl,wJ rfl alW,_,_,rfl,rfl,_,_,rfl,wJ rfl alX,_,_,rfl,rfl,rfl⟩⟩,_,_,rfl,⟨[.int .i64 y1.First,aeF],rfl,⟨_,_,rfl,rfl,_,_,rfl,wJ rfl alY,rfl⟩⟩,_,_,rfl,wJ rfl z2,rfl⟩
set_option maxRecDepth 100000 in
theorem lifted (os:Os)(started:os.Started)(H:Type)(enc:TypeId×Value→H):
  ReturnsInHanded {} Tryz.checked os 5 .any (Rows.fnExactEdKeysSpec.pre6 enc prog f5 Rows.fnExactEdKeysRow.domain false) (Rows.fnExactEdKeysSpec.post enc prog f5 false true false false):=by
 refine returnsInHanded_of_change_shaped (C:=Tryz.checked) YJ started (by kernel_rfl) func5
  (ChangeSpec.witness6 (enc:=enc) (C:=Tryz.checked) false ⟨#[],#[.agg #[.bool false, .int .i64 0, .slice none 0 0, .int .i64 0, .int .i64 0, .int .i64 0, .int .i64 0, .int .i64 0, .int .i64 0, .int .i64 0, .int .i64 0, .slice none 0 0, .slice none 0 0, .int .i64 0, .slice none 0 0, .int .i64 0, .slice none 0 0, .int .i64 0, .slice none 0 0, .int .i64 0], .agg #[.int .i64 0, .slice none 0 0], .slice none 0 0],[]⟩ 8 (by kernel_rfl) (by kernel_rfl) (by kernel_rfl) (by kernel_rfl)) ?_
 intro W base args ds gs before hval0 hW hcnd _ hsh _
 have hval:∀(j:Nat) t v,f5.params[j]?=some t→args[j]?=some v→Value.okWide prog W .any base t v:=hval0
 have hW':=hW
 obtain⟨p,q,hA0,hV,rfl,hfz,hnd⟩:=hW
 have hA:DataW.TrodAll enc prog W 0 (fun _=>true) true f5.params.toList args.toList ds p:=hA0
 rw [params5]at hA hval
 obtain⟨v0,vs0,d0,ds0,pp0,q0,hargs,rfl,rfl,h0,r0⟩:=trodAll_cons hA
 obtain⟨v1,vs1,d1,ds1,pp1,q1,rfl,rfl,rfl,h1,r1⟩:=trodAll_cons r0
 obtain⟨v2,vs2,d2,ds2,pp2,q2,rfl,rfl,rfl,h2,r2⟩:=trodAll_cons r1
 obtain⟨rfl,rfl,rfl⟩:=trodAll_nil r2
 obtain rfl:args= #[v0,v1,v2]:=by cases args;simp_all
 obtain⟨rfl,rfl⟩:=trodVars_none hV
 have k0:=h0
 have lt0:∀x∈pp0,x.block<W.heap.size:=by obtain⟨m,hm⟩:=k0;exact DataW.trod_lt m _ _ _ hm
 obtain⟨y0,aez,aeA,aeB,aeC,aeD,aeE,rfl,g0,alS,alT,alU,alV,alW,alX⟩:=adY (hval 0 53 v0 rfl rfl) h0
 have k1:=h1
 have lt1:∀x∈pp1,x.block<W.heap.size:=by obtain⟨m,hm⟩:=k1;exact DataW.trod_lt m _ _ _ hm
 obtain⟨y1,aeF,rfl,g1,alY⟩:=YK (hval 1 54 v1 rfl rfl) h1
 have k2:=h2
 have lt2:∀x∈pp2,x.block<W.heap.size:=by obtain⟨m,hm⟩:=k2;exact DataW.trod_lt m _ _ _ hm
 obtain⟨l2,g2,z2⟩:=Vj (hval 2 66 v2 rfl rfl) h2
 clear hA0 hval0
 refine(Ov y0 aez aeA aeB aeC aeD aeE y1 aeF l2 v2 W (aoE hsh) g0 alS alT alU alV alW alX g1 alY g2 z2).mono fun e W' ⟨he,bel⟩=>?_
 subst he
 exact⟨_,rfl,_,_,_,[],_,[],hW',trodAll_mk1 (shut_bool underlying4 _),(trodAll_cons_mk (Below.trod He (by kernel_rfl) (of_decide_eq_true (by kernel_rfl)) k0 bel lt0) (trodAll_cons_mk (Below.trod He (by kernel_rfl) (of_decide_eq_true (by kernel_rfl)) k1 bel lt1) (trodAll_cons_mk (Below.trod He (by kernel_rfl) (of_decide_eq_true (by kernel_rfl)) k2 bel lt2) trodAll_mk0))),rfl,Below.frame bel _,fun h=>by cases h⟩
theorem proved:Rows.FnExactEdKeysSaid:=
 OpenClaim.holds_of_wide 5 f5 rfl rfl rfl rfl rfl rfl rfl ⟨rfl,rfl,rfl,rfl,rfl⟩ rfl rfl rfl rfl rfl (by kernel_rfl) func5 (by kernel_rfl)
  (of_decide_eq_true (by kernel_rfl)) (by unfold Func.isWrapper;first|(rw [if_pos (by decide +kernel)];kernel_rfl)|(rw [if_neg (by decide +kernel)];exact⟨rfl,rfl⟩))
  (fun os started H enc _=>lifted os started H enc)
#print axioms proved
end Go.Proofs.YtlpdjhiggpblcaaGreat.fnExactEdKeys
