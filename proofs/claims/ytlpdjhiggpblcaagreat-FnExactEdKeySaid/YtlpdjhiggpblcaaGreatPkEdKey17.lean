/- The statement of this claim is proved in the last of these texts: by an abstract evaluator that is sound, and by what the functions compute. -/
import Derived.Test.YtlpdjhiggpblcaaGreatPkEdKey16
open Go.Proofs.Tryz
namespace Go.Proofs.YtlpdjhiggpblcaaGreat.fnExactEdKey
open Go.ChangeShapes Go.WideShapes Go.ChangeAt Go.RowKit
open Go.ChangeMaps (open_string shut_string)
set_option linter.unusedVariables false
theorem O4 (y0:dF)(ad1 ad2 ad3 ad4 ad5 ad6:Value)(y1:Pf)(ad7:Value)(y2:abE)(W:World)(hz:ZW W)(g0:Ao (N9.enc y0)=true)(akS:sw (eG W) (.l (ints y0.ak.av)) ad1)(akT:sw (eG W) (.l (aC y0.aL.aA)) ad2)(akU:sw (eG W) (.l (aG y0.fD.bT)) ad3)(akV:sw (eG W) (.l (ints y0.gX.av)) ad4)(akW:sw (eG W) (.l (ints y0.bO)) ad5)(akX:sw (eG W) (.l (ints y0.bX.av)) ad6)(g1:Ao (Ef.enc y1)=true)(akY:sw (eG W) (.l (strs y1.bT)) ad7)(g2:Ao (Mh.enc y2)=true):
  Calls prog 4 #[.agg #[.bool y0.Vi, .int .i64 y0.bQ,ad1, .int .i64 y0.ak.At, .int .i64 y0.bD, .int .i64 y0.Op, .int .i64 y0.bN, .int .i64 y0.fC, .int .i64 y0.dY, .int .i64 y0.bL, .int .i64 y0.iO,ad2,ad3, .int .i64 y0.kr,ad4, .int .i64 y0.gX.At,ad5, .int .i64 y0.lV,ad6, .int .i64 y0.bX.At], .agg #[.int .i64 y1.First,ad7], .agg #[.int .i64 y2.Kind, .int .i64 y2.R]] W fun e W'=>e= .returned (.bool true)∧Ext W W':=
 Qx.alJ hz (us:= [.agg #[.bool y0.Vi, .int .i64 y0.bQ,ad1, .int .i64 y0.ak.At, .int .i64 y0.bD, .int .i64 y0.Op, .int .i64 y0.bN, .int .i64 y0.fC, .int .i64 y0.dY, .int .i64 y0.bL, .int .i64 y0.iO,ad2,ad3, .int .i64 y0.kr,ad4, .int .i64 y0.gX.At,ad5, .int .i64 y0.lV,ad6, .int .i64 y0.bX.At], .agg #[.int .i64 y1.First,ad7], .agg #[.int .i64 y2.Kind, .int .i64 y2.R]]) (ls:= [ad1,ad2,ad3,ad4,ad5,ad6,ad7]) (QB y0 y1 y2 g0 g1 g2)
  ⟨_,_,rfl,⟨[.bool y0.Vi, .int .i64 y0.bQ,ad1, .int .i64 y0.ak.At, .int .i64 y0.bD, .int .i64 y0.Op, .int .i64 y0.bN, .int .i64 y0.fC, .int .i64 y0.dY, .int .i64 y0.bL, .int .i64 y0.iO,ad2,ad3, .int .i64 y0.kr,ad4, .int .i64 y0.gX.At,ad5, .int .i64 y0.lV,ad6, .int .i64 y0.bX.At],rfl,⟨_,_,rfl,rfl,_,_,rfl,rfl,_,_,rfl,yG rfl akS,_,_,rfl,rfl,_,_,rfl,rfl,_,_,rfl,rfl,_,_,rfl,rfl,_,_,rfl,rfl,_,_,rfl,rfl,_,_,rfl,rfl,_,_,rfl,rfl,_,_,rfl,yG rfl akT,_,_,rfl,yG rfl akU,_,_,rfl,rfl,_,_,rfl,yG rfl akV,_,_,rfl,rfl,_,_,rfl,yG rfl akW,_,_,rfl,rfl,_,_,rfl,yG rfl akX,_,_,rfl,rfl,rfl⟩⟩,_,_,rfl,⟨[.int .i64 y1.First,ad7],rfl,⟨_,_,rfl,rfl,_,_,rfl,yG rfl akY,rfl⟩⟩,_,_,rfl,⟨[.int .i64 y2.Kind, .int .i64 y2.R],rfl,⟨_,_,rfl,rfl,_,_,rfl,rfl,rfl⟩⟩,rfl⟩
set_option maxRecDepth 100000 in
theorem lifted (os:Os)(started:os.Started)(H:Type)(enc:TypeId×Value→H):
  ReturnsInHanded {} Tryz.checked os 4 .any (Rows.fnExactEdKeySpec.pre6 enc prog f4 Rows.fnExactEdKeyRow.domain false) (Rows.fnExactEdKeySpec.post enc prog f4 false true false false):=by
 refine returnsInHanded_of_change_shaped (C:=Tryz.checked) Yc started (by kernel_rfl) func4
  (ChangeSpec.witness6 (enc:=enc) (C:=Tryz.checked) false ⟨#[],#[.agg #[.bool false, .int .i64 0, .slice none 0 0, .int .i64 0, .int .i64 0, .int .i64 0, .int .i64 0, .int .i64 0, .int .i64 0, .int .i64 0, .int .i64 0, .slice none 0 0, .slice none 0 0, .int .i64 0, .slice none 0 0, .int .i64 0, .slice none 0 0, .int .i64 0, .slice none 0 0, .int .i64 0], .agg #[.int .i64 0, .slice none 0 0], .agg #[.int .i64 0, .int .i64 0]],[]⟩ 8 (by kernel_rfl) (by kernel_rfl) (by kernel_rfl) (by kernel_rfl)) ?_
 intro W base args ds gs before hval0 hW hcnd _ hsh _
 have hval:∀(j:Nat) t v,f4.params[j]?=some t→args[j]?=some v→Value.okWide prog W .any base t v:=hval0
 have hW':=hW
 obtain⟨p,q,hA0,hV,rfl,hfz,hnd⟩:=hW
 have hA:DataW.TrodAll enc prog W 0 (fun _=>true) true f4.params.toList args.toList ds p:=hA0
 rw [params4]at hA hval
 obtain⟨v0,vs0,d0,ds0,pp0,q0,hargs,rfl,rfl,h0,r0⟩:=trodAll_cons hA
 obtain⟨v1,vs1,d1,ds1,pp1,q1,rfl,rfl,rfl,h1,r1⟩:=trodAll_cons r0
 obtain⟨v2,vs2,d2,ds2,pp2,q2,rfl,rfl,rfl,h2,r2⟩:=trodAll_cons r1
 obtain⟨rfl,rfl,rfl⟩:=trodAll_nil r2
 obtain rfl:args= #[v0,v1,v2]:=by cases args;simp_all
 obtain⟨rfl,rfl⟩:=trodVars_none hV
 have k0:=h0
 have lt0:∀x∈pp0,x.block<W.heap.size:=by obtain⟨m,hm⟩:=k0;exact DataW.trod_lt m _ _ _ hm
 obtain⟨y0,ad1,ad2,ad3,ad4,ad5,ad6,rfl,g0,akS,akT,akU,akV,akW,akX⟩:=adt (hval 0 53 v0 rfl rfl) h0
 have k1:=h1
 have lt1:∀x∈pp1,x.block<W.heap.size:=by obtain⟨m,hm⟩:=k1;exact DataW.trod_lt m _ _ _ hm
 obtain⟨y1,ad7,rfl,g1,akY⟩:=Yd (hval 1 54 v1 rfl rfl) h1
 have k2:=h2
 have lt2:∀x∈pp2,x.block<W.heap.size:=by obtain⟨m,hm⟩:=k2;exact DataW.trod_lt m _ _ _ hm
 obtain⟨y2,rfl,g2⟩:=aaW (hval 2 55 v2 rfl rfl) h2
 clear hA0 hval0
 refine(O4 y0 ad1 ad2 ad3 ad4 ad5 ad6 y1 ad7 y2  W (anC hsh) g0 akS akT akU akV akW akX g1 akY g2).mono fun e W' ⟨he,bel⟩=>?_
 subst he
 exact⟨_,rfl,_,_,_,[],_,[],hW',trodAll_mk1 (shut_bool underlying4 _),(trodAll_cons_mk (Below.trod Gz (by kernel_rfl) (of_decide_eq_true (by kernel_rfl)) k0 bel lt0) (trodAll_cons_mk (Below.trod Gz (by kernel_rfl) (of_decide_eq_true (by kernel_rfl)) k1 bel lt1) (trodAll_cons_mk (Below.trod Gz (by kernel_rfl) (of_decide_eq_true (by kernel_rfl)) k2 bel lt2) trodAll_mk0))),rfl,Below.frame bel _,fun h=>by cases h⟩
theorem proved:Rows.FnExactEdKeySaid:=
 OpenClaim.holds_of_wide 4 f4 rfl rfl rfl rfl rfl rfl rfl ⟨rfl,rfl,rfl,rfl,rfl⟩ rfl rfl rfl rfl rfl (by kernel_rfl) func4 (by kernel_rfl)
  (of_decide_eq_true (by kernel_rfl)) (by unfold Func.isWrapper;first|(rw [if_pos (by decide +kernel)];kernel_rfl)|(rw [if_neg (by decide +kernel)];exact⟨rfl,rfl⟩))
  (fun os started H enc _=>lifted os started H enc)
#print axioms proved
end Go.Proofs.YtlpdjhiggpblcaaGreat.fnExactEdKey
