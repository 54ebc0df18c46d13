/- Part 3 of a proof in several texts (an abstract evaluator, what the functions compute). -/
import Derived.Test.YtlpdjhiggpblcaaGreatPkEdKey2
import Derived.Laws.StructEq
import Derived.Deep.MidRow
import Derived.Laws.BytesString
namespace Go.Proofs.YtlpdjhiggpblcaaGreat
open Go.RowKit
set_option linter.unusedSimpArgs false
structure yh (α:Type) where
 enc:α→List D
 is_:List D→Bool
 dec:List D→α
 k:Nat
 len:∀x,(enc x).length=k
 one:∀x,(enc x).all yc=true
 ok:∀x,is_ (enc x)=true
 back:∀x,dec (enc x)=x
 there:∀r,is_ r=true→enc (dec r)=r
namespace yh
variable {α:Type} (C:yh α)
def rows (l:List α):List (List D):=l.map C.enc
def isL (r:List (List D)):Bool:=r.all C.is_
def unL (r:List (List D)):List α:=r.map C.dec
theorem BM (l:List α):(C.rows l).length=l.length:=List.length_map ..
theorem zB (l m:List α):C.rows (l++m)=C.rows l++C.rows m:=List.map_append
theorem Hl (l:List α):wid C.k (C.rows l)=true:=by
 induction l with
 | nil=>rfl
 | cons x r ih=>
  show(decide ((C.enc x).length=C.k)&&(C.enc x).all yc&&wid C.k (C.rows r))=true
  rw [ih,C.len,C.one];simp
theorem Ho {l:List α}{j:Nat}(h:j<l.length):(C.rows l)[j]?=some (C.enc l[j]):=by simp [rows,h]
theorem Ec (l:List α)(n:Nat):(C.rows l).drop n=C.rows (l.drop n):=List.map_drop.symm
theorem Ed (l:List α)(n:Nat):(C.rows l).take n=C.rows (l.take n):=List.map_take.symm
theorem Mc (l:List α):C.isL (C.rows l)=true:=by
 induction l with
 | nil=>rfl
 | cons x r ih=>show(C.is_ (C.enc x)&&C.isL (C.rows r))=true;rw [ih,C.ok];rfl
theorem QG (r q:List (List D)):C.isL (r++q)=(C.isL r&&C.isL q):=List.all_append
theorem Md (l:List α):C.unL (C.rows l)=l:=by
 induction l with
 | nil=>rfl
 | cons x r ih=>show C.dec (C.enc x)::C.unL (C.rows r)=_;rw [ih,C.back]
theorem QH (r q:List (List D)):C.unL (r++q)=C.unL r++C.unL q:=List.map_append
theorem Me {r:List (List D)}(h:C.isL r=true):C.rows (C.unL r)=r:=by
 induction r with
 | nil=>rfl
 | cons x r ih=>
  have h:(C.is_ x&&C.isL r)=true:=h
  rw [Bool.and_eq_true]at h
  show C.enc (C.dec x)::C.rows (C.unL r)=_
  rw [ih h.2,C.there x h.1]
theorem N7 (hf:∀x,(C.enc x).all sH=true)(l:List α):dV (C.rows l)=true:=by
 induction l with
 | nil=>rfl
 | cons x r ih=>show((C.enc x).all sH&&dV (C.rows r))=true;rw [ih,hf];rfl
end yh
def qm:yh Int where
 enc:=fun x=> [.a (.int .i64 x)]
 is_:=fun| [.a (.int .i64 _)]=>true|_=>false
 dec:=fun| [.a (.int .i64 x)]=>x|_=>0
 k:=1
 len:=fun _=>rfl
 one:=fun x=>by simp [yc,Value.oneCell']
 ok:=fun x=>by simp
 back:=fun x=>by simp
 there:=fun r h=>by
  split at h
  ·rfl
  ·cases h
def ints (l:List Int):List (List D):=qm.rows l
def gB (r:List (List D)):Bool:=qm.isL r
def uW (r:List (List D)):List Int:=qm.unL r
@[simp] theorem als (l:List Int):(ints l).length=l.length:=qm.BM l
@[simp] theorem au (l m:List Int):ints (l++m)=ints l++ints m:=qm.zB l m
@[simp] theorem agK (l:List Int):wid 1 (ints l)=true:=qm.Hl l
theorem aQ {l:List Int}{j:Nat}(h:j<l.length):(ints l)[j]?=some ((fun x=> [.a (.int .i64 x)]) l[j]):=qm.Ho h
@[simp] theorem ints_at {l:List Int}{j:Nat}(h:j<(ints l).length):(ints l)[j]=(fun x=> [.a (.int .i64 x)]) (l[j]'(by simpa using h)):=by
 have h2:=aQ (l:=l) (j:=j) (by simpa using h)
 rw [List.getElem?_eq_getElem h]at h2;injection h2
@[simp] theorem ak6 (l:List Int)(i:Nat):(ints l).drop i=ints (l.drop i):=qm.Ec l i
@[simp] theorem ak7 (l:List Int)(i:Nat):(ints l).take i=ints (l.take i):=qm.Ed l i
@[simp] theorem dK (l:List Int):gB (ints l)=true:=qm.Mc l
@[simp] theorem ajF:gB []=true:=id rfl
@[simp] theorem ajG (r q:List (List D)):gB (r++q)=(gB r&&gB q):=qm.QG r q
@[simp] theorem aiL (l:List Int):uW (ints l)=l:=qm.Md l
@[simp] theorem ajH:uW []= []:=id rfl
@[simp] theorem ajI (r q:List (List D)):uW (r++q)=uW r++uW q:=qm.QH r q
theorem qM {r:List (List D)}(h:gB r=true):ints (uW r)=r:=qm.Me h
theorem EY {r:List (List D)}(h:gB r=true):∃l,r=ints l:=⟨_,(qM h).symm⟩
theorem aZ:ints []= []:=rfl
theorem N8 (x:Int)(l:List Int):ints (x::l)= [.a (.int .i64 x)]::ints l:=rfl
theorem Vb (l:List Int)(x:Int):ints l++ [[.a (.int .i64 x)]]=ints (l++ [x]):=((qm.zB l [x]).trans rfl).symm
@[simp] theorem aeV (l:List Int):dV (ints l)=true:=qm.N7 (fun _=>rfl) l
def Hq:yh UInt8 where
 enc:=fun x=> [.a (.int .u8 x.toNat)]
 is_:=fun| [.a (.int .u8 n)]=>decide (((UInt8.ofNat n.toNat).toNat:Int)=n)|_=>false
 dec:=fun| [.a (.int .u8 n)]=>UInt8.ofNat n.toNat|_=>0
 k:=1
 len:=fun _=>rfl
 one:=fun x=>by simp [yc,Value.oneCell']
 ok:=fun x=>by simp
 back:=fun x=>by simp
 there:=fun r h=>by
  split at h
  ·rw [of_decide_eq_true h]
  ·cases h
def wU (l:List UInt8):List (List D):=Hq.rows l
@[simp] theorem alu (l:List UInt8):(wU l).length=l.length:=Hq.BM l
@[simp] theorem alv (l m:List UInt8):wU (l++m)=wU l++wU m:=Hq.zB l m
@[simp] theorem alx (l:List UInt8):wid 1 (wU l)=true:=Hq.Hl l
theorem dZ {l:List UInt8}{j:Nat}(h:j<l.length):(wU l)[j]?=some ((fun x=> [.a (.int .u8 x.toNat)]) l[j]):=Hq.Ho h
@[simp] theorem al9 {l:List UInt8}{j:Nat}(h:j<(wU l).length):(wU l)[j]=(fun x=> [.a (.int .u8 x.toNat)]) (l[j]'(by simpa using h)):=by
 have h2:=dZ (l:=l) (j:=j) (by simpa using h)
 rw [List.getElem?_eq_getElem h]at h2;injection h2
@[simp] theorem ak8 (l:List UInt8)(i:Nat):(wU l).drop i=wU (l.drop i):=Hq.Ec l i
@[simp] theorem ak9 (l:List UInt8)(i:Nat):(wU l).take i=wU (l.take i):=Hq.Ed l i
theorem Ee:wU []= []:=rfl
theorem Bj (x:UInt8)(l:List UInt8):wU (x::l)= [.a (.int .u8 x.toNat)]::wU l:=rfl
@[simp] theorem ala (l:List UInt8):dV (wU l)=true:=Hq.N7 (fun _=>rfl) l
def sJ:yh ByteArray where
 enc:=fun x=> [.a (.string x)]
 is_:=fun| [.a (.string _)]=>true|_=>false
 dec:=fun| [.a (.string x)]=>x|_=> .empty
 k:=1
 len:=fun _=>rfl
 one:=fun x=>by simp [yc,Value.oneCell']
 ok:=fun x=>by simp
 back:=fun x=>by simp
 there:=fun r h=>by
  split at h
  ·rfl
  ·cases h
def strs (l:List ByteArray):List (List D):=sJ.rows l
def uX (r:List (List D)):Bool:=sJ.isL r
def EZ (r:List (List D)):List ByteArray:=sJ.unL r
@[simp] theorem aly (l:List ByteArray):(strs l).length=l.length:=sJ.BM l
@[simp] theorem alz (l m:List ByteArray):strs (l++m)=strs l++strs m:=sJ.zB l m
@[simp] theorem alA (l:List ByteArray):wid 1 (strs l)=true:=sJ.Hl l
theorem l7 {l:List ByteArray}{j:Nat}(h:j<l.length):(strs l)[j]?=some ((fun x=> [.a (.string x)]) l[j]):=sJ.Ho h
@[simp] theorem ama {l:List ByteArray}{j:Nat}(h:j<(strs l).length):(strs l)[j]=(fun x=> [.a (.string x)]) (l[j]'(by simpa using h)):=by
 have h2:=l7 (l:=l) (j:=j) (by simpa using h)
 rw [List.getElem?_eq_getElem h]at h2;injection h2
@[simp] theorem alb (l:List ByteArray)(i:Nat):(strs l).drop i=strs (l.drop i):=sJ.Ec l i
@[simp] theorem alc (l:List ByteArray)(i:Nat):(strs l).take i=strs (l.take i):=sJ.Ed l i
@[simp] theorem Mf (l:List ByteArray):uX (strs l)=true:=sJ.Mc l
@[simp] theorem ajJ:uX []=true:=id rfl
@[simp] theorem ajK (r q:List (List D)):uX (r++q)=(uX r&&uX q):=sJ.QG r q
@[simp] theorem aiM (l:List ByteArray):EZ (strs l)=l:=sJ.Md l
@[simp] theorem ajL:EZ []= []:=id rfl
@[simp] theorem ajM (r q:List (List D)):EZ (r++q)=EZ r++EZ q:=sJ.QH r q
theorem Mg {r:List (List D)}(h:uX r=true):strs (EZ r)=r:=sJ.Me h
theorem Rh {r:List (List D)}(h:uX r=true):∃l,r=strs l:=⟨_,(Mg h).symm⟩
@[simp] theorem aeW (l:List ByteArray):dV (strs l)=true:=sJ.N7 (fun _=>rfl) l
structure abE where
 Kind:Int
 R:Int
def alB:abE:=⟨0,0⟩
def Mh:yh abE where
 enc:=fun x=> [.a (.int .i64 x.Kind), .a (.int .i64 x.R)]
 is_:=fun| [.a (.int .i64 _), .a (.int .i64 _)]=>true|_=>false
 dec:=fun| [.a (.int .i64 x0), .a (.int .i64 x1)]=>⟨x0,x1⟩|_=>alB
 k:=2
 len:=fun _=>rfl
 one:=fun x=>by simp [yc,Value.oneCell']
 ok:=fun x=>by simp
 back:=fun x=>by simp
 there:=fun r h=>by
  split at h
  ·rfl
  ·cases h
structure fH where
 av:List Int
 At:Int
def ajN:fH:=⟨[],0⟩
def kG:yh fH where
 enc:=fun x=> [.l (ints x.av), .a (.int .i64 x.At)]
 is_:=fun| [.l r0, .a (.int .i64 _)]=>gB r0|_=>false
 dec:=fun| [.l r0, .a (.int .i64 x1)]=>⟨uW r0,x1⟩|_=>ajN
 k:=2
 len:=fun _=>rfl
 one:=fun x=>by simp [yc,Value.oneCell']
 ok:=fun x=>by simp
 back:=fun x=>by simp
 there:=fun r h=>by
  split at h
  ·simp only [qM h]
  ·cases h
def aG (l:List fH):List (List D):=kG.rows l
def jd (r:List (List D)):Bool:=kG.isL r
def wu (r:List (List D)):List fH:=kG.unL r
@[simp] theorem abF (l:List fH):(aG l).length=l.length:=kG.BM l
@[simp] theorem akh (l m:List fH):aG (l++m)=aG l++aG m:=kG.zB l m
@[simp] theorem Ri (l:List fH):wid 2 (aG l)=true:=kG.Hl l
theorem dW {l:List fH}{j:Nat}(h:j<l.length):(aG l)[j]?=some ((fun x=> [.l (ints x.av), .a (.int .i64 x.At)]) l[j]):=kG.Ho h
@[simp] theorem ald {l:List fH}{j:Nat}(h:j<(aG l).length):(aG l)[j]=(fun x=> [.l (ints x.av), .a (.int .i64 x.At)]) (l[j]'(by simpa using h)):=by
 have h2:=dW (l:=l) (j:=j) (by simpa using h)
 rw [List.getElem?_eq_getElem h]at h2;injection h2
@[simp] theorem ajO (l:List fH)(i:Nat):(aG l).drop i=aG (l.drop i):=kG.Ec l i
@[simp] theorem ajP (l:List fH)(i:Nat):(aG l).take i=aG (l.take i):=kG.Ed l i
@[simp] theorem nS (l:List fH):jd (aG l)=true:=kG.Mc l
@[simp] theorem aiC:jd []=true:=id rfl
@[simp] theorem aiD (r q:List (List D)):jd (r++q)=(jd r&&jd q):=kG.QG r q
@[simp] theorem agL (l:List fH):wu (aG l)=l:=kG.Md l
@[simp] theorem aiE:wu []= []:=id rfl
@[simp] theorem aiF (r q:List (List D)):wu (r++q)=wu r++wu q:=kG.QH r q
theorem BN {r:List (List D)}(h:jd r=true):aG (wu r)=r:=kG.Me h
theorem AA {r:List (List D)}(h:jd r=true):∃l,r=aG l:=⟨_,(BN h).symm⟩
theorem YO (x:fH)(l:List fH):aG (x::l)= [.l (ints x.av), .a (.int .i64 x.At)]::aG l:=rfl
theorem wz (l:List fH)(x:fH):aG l++ [[.l (ints x.av), .a (.int .i64 x.At)]]=aG (l++ [x]):=((kG.zB l [x]).trans rfl).symm
structure dL where
 av:List Int
def agM:dL:=⟨[]⟩
def jF:yh dL where
 enc:=fun x=> [.l (ints x.av)]
 is_:=fun| [.l r0]=>gB r0|_=>false
 dec:=fun| [.l r0]=>⟨uW r0⟩|_=>agM
 k:=1
 len:=fun _=>rfl
 one:=fun x=>by simp [yc,Value.oneCell']
 ok:=fun x=>by simp
 back:=fun x=>by simp
 there:=fun r h=>by
  split at h
  ·simp only [qM h]
  ·cases h
def aC (l:List dL):List (List D):=jF.rows l
def iE (r:List (List D)):Bool:=jF.isL r
def sK (r:List (List D)):List dL:=jF.unL r
@[simp] theorem ajQ (l:List dL):(aC l).length=l.length:=jF.BM l
@[simp] theorem ajR (l m:List dL):aC (l++m)=aC l++aC m:=jF.zB l m
@[simp] theorem ajS (l:List dL):wid 1 (aC l)=true:=jF.Hl l
theorem dX {l:List dL}{j:Nat}(h:j<l.length):(aC l)[j]?=some ((fun x=> [.l (ints x.av)]) l[j]):=jF.Ho h
@[simp] theorem aki {l:List dL}{j:Nat}(h:j<(aC l).length):(aC l)[j]=(fun x=> [.l (ints x.av)]) (l[j]'(by simpa using h)):=by
 have h2:=dX (l:=l) (j:=j) (by simpa using h)
 rw [List.getElem?_eq_getElem h]at h2;injection h2
@[simp] theorem aiN (l:List dL)(i:Nat):(aC l).drop i=aC (l.drop i):=jF.Ec l i
@[simp] theorem aiO (l:List dL)(i:Nat):(aC l).take i=aC (l.take i):=jF.Ed l i
@[simp] theorem mV (l:List dL):iE (aC l)=true:=jF.Mc l
@[simp] theorem agN:iE []=true:=id rfl
@[simp] theorem agO (r q:List (List D)):iE (r++q)=(iE r&&iE q):=jF.QG r q
@[simp] theorem agw (l:List dL):sK (aC l)=l:=jF.Md l
@[simp] theorem agP:sK []= []:=id rfl
@[simp] theorem agQ (r q:List (List D)):sK (r++q)=sK r++sK q:=jF.QH r q
theorem Ah {r:List (List D)}(h:iE r=true):aC (sK r)=r:=jF.Me h
theorem zk {r:List (List D)}(h:iE r=true):∃l,r=aC l:=⟨_,(Ah h).symm⟩
theorem iI (x:dL)(l:List dL):aC (x::l)= [.l (ints x.av)]::aC l:=rfl
theorem E5 (l:List dL)(x:dL):aC l++ [[.l (ints x.av)]]=aC (l++ [x]):=((jF.zB l [x]).trans rfl).symm
structure YP where
 aA:List dL
def ajT:YP:=⟨[]⟩
def YQ:yh YP where
 enc:=fun x=> [.l (aC x.aA)]
 is_:=fun| [.l r0]=>iE r0|_=>false
 dec:=fun| [.l r0]=>⟨sK r0⟩|_=>ajT
 k:=1
 len:=fun _=>rfl
 one:=fun x=>by simp [yc,Value.oneCell']
 ok:=fun x=>by simp
 back:=fun x=>by simp
 there:=fun r h=>by
  split at h
  ·simp only [Ah h]
  ·cases h
structure YR where
 bT:List fH
def ajU:YR:=⟨[]⟩
def YS:yh YR where
 enc:=fun x=> [.l (aG x.bT)]
 is_:=fun| [.l r0]=>jd r0|_=>false
 dec:=fun| [.l r0]=>⟨wu r0⟩|_=>ajU
 k:=1
 len:=fun _=>rfl
 one:=fun x=>by simp [yc,Value.oneCell']
 ok:=fun x=>by simp
 back:=fun x=>by simp
 there:=fun r h=>by
  split at h
  ·simp only [BN h]
  ·cases h
structure Pf where
 First:Int
 bT:List ByteArray
def ajV:Pf:=⟨0,[]⟩
def Ef:yh Pf where
 enc:=fun x=> [.a (.int .i64 x.First), .l (strs x.bT)]
 is_:=fun| [.a (.int .i64 _), .l r1]=>uX r1|_=>false
 dec:=fun| [.a (.int .i64 x0), .l r1]=>⟨x0,EZ r1⟩|_=>ajV
 k:=2
 len:=fun _=>rfl
 one:=fun x=>by simp [yc,Value.oneCell']
 ok:=fun x=>by simp
 back:=fun x=>by simp
 there:=fun r h=>by
  split at h
  ·simp only [Mg h]
  ·cases h
structure dF where
 Vi:Bool
 bQ:Int
 ak:fH
 bD:Int
 Op:Int
 bN:Int
 fC:Int
 dY:Int
 bL:Int
 iO:Int
 aL:YP
 fD:YR
 kr:Int
 gX:fH
 bO:List Int
 lV:Int
 bX:fH
def vC:dF:=⟨false,0,⟨[],0⟩,0,0,0,0,0,0,0,⟨[]⟩,⟨[]⟩,0,⟨[],0⟩,[],0,⟨[],0⟩⟩
def N9:yh dF where
 enc:=fun x=> [.a (.bool x.Vi), .a (.int .i64 x.bQ), .l (ints x.ak.av), .a (.int .i64 x.ak.At), .a (.int .i64 x.bD), .a (.int .i64 x.Op), .a (.int .i64 x.bN), .a (.int .i64 x.fC), .a (.int .i64 x.dY), .a (.int .i64 x.bL), .a (.int .i64 x.iO), .l (aC x.aL.aA), .l (aG x.fD.bT), .a (.int .i64 x.kr), .l (ints x.gX.av), .a (.int .i64 x.gX.At), .l (ints x.bO), .a (.int .i64 x.lV), .l (ints x.bX.av), .a (.int .i64 x.bX.At)]
 is_:=fun| [.a (.bool _), .a (.int .i64 _), .l r2, .a (.int .i64 _), .a (.int .i64 _), .a (.int .i64 _), .a (.int .i64 _), .a (.int .i64 _), .a (.int .i64 _), .a (.int .i64 _), .a (.int .i64 _), .l LJ, .l LK, .a (.int .i64 _), .l NJ, .a (.int .i64 _), .l r16, .a (.int .i64 _), .l Pg, .a (.int .i64 _)]=>gB r2&&iE LJ&&jd LK&&gB NJ&&gB r16&&gB Pg|_=>false
 dec:=fun| [.a (.bool x0), .a (.int .i64 x1), .l r2, .a (.int .i64 x3), .a (.int .i64 x4), .a (.int .i64 x5), .a (.int .i64 x6), .a (.int .i64 x7), .a (.int .i64 x8), .a (.int .i64 x9), .a (.int .i64 Kn), .l LJ, .l LK, .a (.int .i64 K4), .l NJ, .a (.int .i64 LM), .l r16, .a (.int .i64 x17), .l Pg, .a (.int .i64 x19)]=>⟨x0,x1,⟨uW r2,x3⟩,x4,x5,x6,x7,x8,x9,Kn,⟨sK LJ⟩,⟨wu LK⟩,K4,⟨uW NJ,LM⟩,uW r16,x17,⟨uW Pg,x19⟩⟩|_=>vC
 k:=20
 len:=fun _=>rfl
 one:=fun x=>by simp [yc,Value.oneCell']
 ok:=fun x=>by simp
 back:=fun x=>by simp
 there:=fun r h=>by
  split at h
  ·simp only [Bool.and_eq_true]at h;simp [qM h.1.1.1.1.1,Ah h.1.1.1.1.2,BN h.1.1.1.2,qM h.1.1.2,qM h.1.2,qM h.2]
  ·cases h
abbrev aH (f:Int)(l:List ByteArray):V:= .agg [vI f, .aM (some 6) (strs l)]
abbrev aK (k r:Int):V:= .agg [vI k,vI r]
abbrev gL (e:dF):V:= .agg [V.v (.bool e.Vi),V.v (.int .i64 e.bQ), .aM (some 0) (ints e.ak.av),V.v (.int .i64 e.ak.At),V.v (.int .i64 e.bD),V.v (.int .i64 e.Op),V.v (.int .i64 e.bN),V.v (.int .i64 e.fC),V.v (.int .i64 e.dY),V.v (.int .i64 e.bL),V.v (.int .i64 e.iO), .aM (some 1) (aC e.aL.aA), .aM (some 2) (aG e.fD.bT),V.v (.int .i64 e.kr), .aM (some 3) (ints e.gX.av),V.v (.int .i64 e.gX.At), .aM (some 4) (ints e.bO),V.v (.int .i64 e.lV), .aM (some 5) (ints e.bX.av),V.v (.int .i64 e.bX.At)]
abbrev gO (e:dF):V:= .agg [V.v (.bool e.Vi),V.v (.int .i64 e.bQ), .own 0,V.v (.int .i64 e.ak.At),V.v (.int .i64 e.bD),V.v (.int .i64 e.Op),V.v (.int .i64 e.bN),V.v (.int .i64 e.fC),V.v (.int .i64 e.dY),V.v (.int .i64 e.bL),V.v (.int .i64 e.iO), .own 1, .own 2,V.v (.int .i64 e.kr), .own 3,V.v (.int .i64 e.gX.At), .own 4,V.v (.int .i64 e.lV), .own 5,V.v (.int .i64 e.bX.At)]
abbrev hO (e:dF):List (Nat×List (List D)):= [(0,ints e.ak.av),(1,aC e.aL.aA),(2,aG e.fD.bT),(3,ints e.gX.av),(4,ints e.bO),(5,ints e.bX.av)]
end Go.Proofs.YtlpdjhiggpblcaaGreat
namespace Go.Proofs.YtlpdjhiggpblcaaGreat
set_option linter.unusedSectionVars false
set_option linter.unusedSimpArgs false
set_option linter.unusedVariables false
open Go.RowKit
def Ext (w w':World):Prop:=Below w.heap.size w w'
theorem Ext.refl (w:World):Ext w w:=Below.refl _ _
theorem Ext.trans {a b c:World}(h:Ext a b)(k:Ext b c):Ext a c:=Below.trans h (Below.mono k (Below.size h))
theorem Ext.cell {w w':World}(h:Ext w w'){p:Addr}{v:Value}(hc:w.cell? p=some v):w'.cell? p=some v:=
 (Below.cell h (World.block_lt_of_cell? w p hc)).trans hc
theorem Ext.size {w w':World}(h:Ext w w'):w.heap.size≤w'.heap.size:=Below.size h
theorem Ext.alloc {a w:World}(h:Ext a w)(o:Obj):Ext a (w.alloc o):=Below.alloc h (Below.size h) o
theorem Ext.drew {a w:World}(h:Ext a w):Ext a w.drew:=Below.drew h
theorem akj {w:World}{g:Nat}{T:TypeId}{cs:Array Value}(h:w.heap[g]?=some (.cells cs T (0,0))):(∀i,w.cell? ⟨g,i,none⟩=cs[i]?)∧(∀i,w.frozen? ⟨g,i,none⟩=false)∧g<w.heap.size:=
 ⟨fun i=>cell_of_row w g i cs T (0,0) h,fun i=>frozen_of_row w g i cs T h,(Array.getElem?_eq_some_iff.1 h).1⟩
theorem QI (w:World)(o:Obj):(w.alloc o).heap[w.heap.size]?=some o:=heap_alloc_new w o
theorem aiP {w w':World}{g:Nat}{o:Obj}(h:w.heap[g]?=some o)(x:Ext w w'):w'.heap[g]?=some o:=(Below.block x g (Array.getElem?_eq_some_iff.1 h).1).trans h
theorem Ext.row {W w w':World}{g:Nat}(h:Ext W w)(x:w.grownBy w' (some g))(hg:W.heap.size≤g):Ext W w':=Below.grown h x h.size (fun k hk=>by injection hk with hk;omega)
structure Pc where
 P:World→List Nat→Prop
 st:∀{w w':World} {F:List Nat},P w F→(∀b∈F,w'.heap[b]?=w.heap[b]?)→P w' F
inductive Sep (w:World):List Pc→List Nat→Prop
 | nil:Sep w [] []
 | cons {h:Pc} {L:List Pc} {F G:List Nat}:h.P w F→Sep w L G→Sep w (h::L) (F++G)
theorem Sep.st {w w':World}{L:List Pc}{F:List Nat}(h:Sep w L F)(hk:∀b∈F,w'.heap[b]?=w.heap[b]?):Sep w' L F:=by
 induction h with
 | nil=>exact .nil
 | cons h1 _ ih=>exact .cons (Pc.st _ h1 fun b hb=>hk b (List.mem_append_left _ hb)) (ih fun b hb=>hk b (List.mem_append_right _ hb))
theorem Sep.fQ {w:World}{h:Pc}{L:List Pc}{F:List Nat}(s:Sep w (h::L) F):∃F1 G,F=F1++G∧h.P w F1∧Sep w L G:=by
 cases s with
 | cons a b=>exact⟨_,_,rfl,a,b⟩
structure St (W w:World) (L:List Pc):Prop where
 ext:Ext W w
 sep:∃F,Sep w L F∧F.Nodup∧∀b∈F,W.heap.size≤b∧b<w.heap.size
theorem St.refl (w:World):St w w []:=⟨Ext.refl w,[], .nil,List.nodup_nil,fun _ h=>by cases h⟩
theorem St.of {W w:World}(x:Ext W w):St W w []:=⟨x,[], .nil,List.nodup_nil,fun _ h=>by cases h⟩
theorem St.call {W w w':World}{L:List Pc}(S:St W w L)(x:Ext w w'):St W w' L:=by
 obtain⟨F,s,n,hb⟩:=S.sep
 refine⟨S.ext.trans x,F,s.st fun b h=>Below.block x b (hb b h).2,n,fun b h=>⟨(hb b h).1,?_⟩⟩
 have:=x.size;have:=(hb b h).2;omega
theorem St.drew {W w:World}{L:List Pc}(S:St W w L):St W w.drew L:=S.call (Ext.refl w).drew
theorem St.drop {W w:World}{h:Pc}{L:List Pc}(S:St W w (h::L)):St W w L:=by
 obtain⟨F,s,n,hb⟩:=S.sep
 obtain⟨F1,G,rfl,_,g⟩:=s.fQ
 exact⟨S.ext,G,g,(List.nodup_append.1 n).2.1,fun b h=>hb b (List.mem_append_right _ h)⟩
theorem Sep.swap {w:World}{h k:Pc}{L:List Pc}{F:List Nat}(s:Sep w (h::k::L) F):∃F',Sep w (k::h::L) F'∧F'.Perm F:=by
 obtain⟨F1,G,rfl,a,g⟩:=s.fQ
 obtain⟨F2,G2,rfl,b,g2⟩:=g.fQ
 refine⟨F2++(F1++G2), .cons b (.cons a g2),?_⟩
 rw [←List.append_assoc,←List.append_assoc]
 exact List.Perm.append_right _ List.perm_append_comm
theorem St.swap {W w:World}{h k:Pc}{L:List Pc}(S:St W w (h::k::L)):St W w (k::h::L):=by
 obtain⟨F,s,n,hb⟩:=S.sep
 obtain⟨F',s',p⟩:=s.swap
 exact⟨S.ext,F',s',p.nodup_iff.2 n,fun b h=>hb b (p.mem_iff.1 h)⟩
theorem St.tail {W w:World}{h:Pc}{L L':List Pc}(S:St W w (h::L))(f:∀F,Sep w L F→∃F',Sep w L' F'∧F'.Perm F):St W w (h::L'):=by
 obtain⟨F,s,n,hb⟩:=S.sep
 obtain⟨F1,G,rfl,a,g⟩:=s.fQ
 obtain⟨G',g',p⟩:=f G g
 have p2:(F1++G').Perm (F1++G):=List.Perm.append_left _ p
 exact⟨S.ext,_, .cons a g',p2.nodup_iff.2 n,fun b h=>hb b (p2.mem_iff.1 h)⟩
theorem Sep.bring {w:World}:∀(i:Nat) {h:Pc} {L:List Pc} {F:List Nat},Sep w L F→L[i]?=some h→∃F',Sep w (h::L.eraseIdx i) F'∧F'.Perm F
 | 0,h,[],F,_,e=>by cases e
 | i+1,h,[],F,_,e=>by cases e
 | 0,h,k::L,F,s,e=>by
  simp only [List.getElem?_cons_zero,Option.some.injEq]at e
  subst e
  exact⟨F,s,List.Perm.refl _⟩
 | i+1,h,k::L,F,s,e=>by
  obtain⟨F1,G,rfl,a,g⟩:=s.fQ
  obtain⟨G',g',p⟩:=Sep.bring i (L:=L) g (by simpa using e)
  obtain⟨F',s',p'⟩:=Sep.swap (.cons a g')
  exact⟨F',s',p'.trans (List.Perm.append_left _ p)⟩
theorem St.bring {W w:World}{L:List Pc}(S:St W w L)(i:Nat){h:Pc}(e:L[i]?=some h):St W w (h::L.eraseIdx i):=by
 obtain⟨F,s,n,hb⟩:=S.sep
 obtain⟨F',s',p⟩:=s.bring i e
 exact⟨S.ext,F',s',p.nodup_iff.2 n,fun b h=>hb b (p.mem_iff.1 h)⟩
theorem St.open_ {W w:World}{h:Pc}{L:List Pc}(S:St W w (h::L)):∃F,h.P w F∧F.Nodup∧(∀b∈F,W.heap.size≤b∧b<w.heap.size)∧
  ∀(w':World) (h':Pc) (F':List Nat),w'.os=w.os→w'.tape=w.tape→w'.output=w.output→w.heap.size≤w'.heap.size→(∀b,b<w.heap.size→b∉F→w'.heap[b]?=w.heap[b]?)→
   h'.P w' F'→F'.Nodup→(∀b∈F',(b∈F∨w.heap.size≤b)∧b<w'.heap.size)→St W w' (h'::L):=by
 obtain⟨F,s,n,hb⟩:=S.sep
 obtain⟨F1,G,rfl,a,g⟩:=s.fQ
 obtain⟨n1,n2,n3⟩:=List.nodup_append.1 n
 refine⟨F1,a,n1,fun b h=>hb b (List.mem_append_left _ h),fun w' h' F' e1 e2 e3 hs hk hp hn hF=>?_⟩
 refine⟨?_,F'++G, .cons hp (g.st fun b h=>hk b (hb b (List.mem_append_right _ h)).2 fun h1=>n3 b h1 b h rfl),?_,?_⟩
 ·refine⟨e1.trans S.ext.os,e2.trans S.ext.tape,e3.trans S.ext.output,Nat.le_trans S.ext.size hs,fun k hk2=>?_⟩
  have:=S.ext.size
  exact(hk k (by omega) fun h1=>by have:=(hb k (List.mem_append_left _ h1)).1;omega).trans (Below.block S.ext k hk2)
 ·refine List.nodup_append.2 ⟨hn,n2,fun b h1 c h2 e=>?_⟩
  subst e
  rcases(hF b h1).1 with h3|h3
  ·exact n3 b h3 b h2 rfl
  ·have:=(hb b (List.mem_append_right _ h2)).2;omega
 ·intro b h
  rcases List.mem_append.1 h with h1|h1
  ·refine⟨?_,(hF b h1).2⟩
   rcases(hF b h1).1 with h3|h3
   ·exact(hb b (List.mem_append_left _ h3)).1
   ·have:=S.ext.size;omega
  ·have:=hb b (List.mem_append_right _ h1)
   exact⟨this.1,by omega⟩
theorem St.more {W w w':World}{L:List Pc}(S:St W w L)(x:Ext w w'){h:Pc}{F:List Nat}(hp:h.P w' F)(hn:F.Nodup)(hF:∀b∈F,w.heap.size≤b∧b<w'.heap.size):St W w' (h::L):=by
 obtain⟨G,s,n,hb⟩:=S.sep
 have hs:=x.size
 have hs2:=S.ext.size
 refine⟨S.ext.trans x,F++G, .cons hp (s.st fun b h=>Below.block x b (hb b h).2),List.nodup_append.2 ⟨hn,n,fun b h1 c h2 e=>?_⟩,fun b h=>?_⟩
 ·subst e;have:=(hF b h1).1;have:=(hb b h2).2;omega
 ·rcases List.mem_append.1 h with h1|h1
  ·have:=hF b h1;exact⟨by omega,this.2⟩
  ·have:=hb b h1;exact⟨this.1,by omega⟩
def rowP (b:Nat)(T:TypeId)(cs:Array Value):Pc:=⟨fun w F=>F= [b]∧w.heap[b]?=some (.cells cs T (0,0)),fun h k=>⟨h.1,(k b (by rw [h.1];simp)).trans h.2⟩⟩
theorem St.row {W w:World}{b:Nat}{T:TypeId}{cs:Array Value}{L:List Pc}(S:St W w L)(i:Nat)(e:L[i]?=some (rowP b T cs)):w.heap[b]?=some (.cells cs T (0,0)):=by
 obtain⟨F,s, -, -⟩:=(S.bring i e).sep
 obtain⟨_,_,_,a,_⟩:=s.fQ
 exact a.2
theorem St.cells {W w:World}{b:Nat}{T:TypeId}{cs:Array Value}{L:List Pc}(S:St W w L)(i:Nat)(e:L[i]?=some (rowP b T cs)):(∀i,w.cell? ⟨b,i,none⟩=cs[i]?)∧(∀i,w.frozen? ⟨b,i,none⟩=false)∧b<w.heap.size:=akj (S.row i e)
theorem St.alloc {W w:World}{L:List Pc}(S:St W w L)(cs:Array Value)(T:TypeId):St W (w.alloc (.cells cs T)) (rowP w.heap.size T cs::L):=
 S.more ((Ext.refl w).alloc _) (F:= [w.heap.size]) ⟨rfl,QI w _⟩ (by simp) (by simp)
theorem St.skip {W w:World}{L:List Pc}(S:St W w L)(o:Obj):St W (w.alloc o) L:=S.call ((Ext.refl w).alloc o)
theorem St.set {W w w':World}{b:Nat}{T:TypeId}{cs cs':Array Value}{L:List Pc}(S:St W w (rowP b T cs::L))(h:w'.heap[b]?=some (.cells cs' T (0,0)))(g:w.grownBy w' (some b)):St W w' (rowP b T cs'::L):=by
 obtain⟨F,⟨rfl,_⟩,_,hb,k⟩:=S.open_
 have hb2:=hb b (by simp)
 refine k w' _ [b] g.os g.tape g.output g.size (fun c hc hne=>g.block c hc (fun e=>hne (by injection e with e;simp [e]))) ⟨rfl,h⟩ (by simp) (fun c hc=>?_)
 have:=g.size
 simp at hc;subst hc;exact⟨.inl (by simp),by omega⟩
theorem flat_get {α:Type}{k:Nat}:∀(rows:List (List α)) (i j:Nat) (r:List α) (d:α),(∀r∈rows,r.length=k)→rows[i]?=some r→r[j]?=some d→rows.flatten[i*k+j]?=some d
 | [],i,j,r,d,_,h,_=>by simp at h
 | r0::rows,0,j,r,d,u,h,e=>by
  simp at h;subst h
  rw [List.flatten_cons,Nat.zero_mul,Nat.zero_add,List.getElem?_append_left (List.getElem?_eq_some_iff.1 e).1];exact e
 | r0::rows,i+1,j,r,d,u,h,e=>by
  have h0:r0.length=k:=u r0 (by simp)
  rw [List.flatten_cons,List.getElem?_append_right (by rw [h0,Nat.succ_mul];omega),h0,show(i+1)*k+j-k=i*k+j by rw [Nat.succ_mul];omega]
  exact flat_get rows i j r d (fun r hr=>u r (List.mem_cons_of_mem _ hr)) (by simpa using h) e
theorem ji {α:Type}{k:Nat}:∀(rows:List (List α)),(∀r∈rows,r.length=k)→rows.flatten.length=rows.length*k
 | [],_=>by simp
 | r0::rows,u=>by
  rw [List.flatten_cons,List.length_append,u r0 (by simp),ji rows fun r hr=>u r (List.mem_cons_of_mem _ hr),List.length_cons,Nat.succ_mul];omega
theorem zC {α:Type}{k:Nat}:∀(rows:List (List α)) (i j:Nat) (r:List α) (d:α),(∀r∈rows,r.length=k)→rows[i]?=some r→j<k→(rows.set i (r.set j d)).flatten=rows.flatten.set (i*k+j) d
 | [],i,j,r,d,_,h,_=>by simp at h
 | r0::rows,0,j,r,d,u,h,e=>by
  simp at h;subst h
  have h0:r0.length=k:=u r0 (by simp)
  simp [h0,e]
 | r0::rows,i+1,j,r,d,u,h,e=>by
  have h0:r0.length=k:=u r0 (by simp)
  have hn:¬((i+1)*k+j<r0.length):=by rw [h0,Nat.succ_mul];omega
  simp only [List.set_cons_succ,List.flatten_cons,List.set_append,hn,if_false]
  rw [zC rows i j r d (fun r hr=>u r (List.mem_cons_of_mem _ hr)) (by simpa using h) e,h0,show(i+1)*k+j-k=i*k+j by rw [Nat.succ_mul];omega]
def eG (w:World):Nat→Obj→Prop:=fun b o=>w.heap[b]?=some o
inductive sw (G:Nat→Obj→Prop):D→Value→Prop
 | a (x:Value):sw G (.a x) x
 | gone (u:Value) (h:u.oneCell'=true):sw G .gone u
 | nil (A:Option Addr) (c:Nat) (hm:c≤9223372036854775807) (hA0:A=none→c=0):sw G (.l []) (.slice A 0 c)
 | l (rows:List (List D)) (n c b o k:Nat) (T:TypeId) (fr:Nat×Nat) (cs:Array Value) (us:Nat→Value) (hn:rows.length=n) (h0:0<n) (hc:n≤c) (hm:c≤9223372036854775807) (hk:0<k) (hu:∀r∈rows,r.length=k) (hb:G b (.cells cs T fr))
   (hcell:∀i d,rows.flatten[i]?=some d→cs[o+i]?=some (us i)) (hr:∀i d,rows.flatten[i]?=some d→sw G d (us i)):sw G (.l rows) (.slice (some ⟨b,o,none⟩) n c)
theorem sw.mono {G G':Nat→Obj→Prop}{v:Value}{d:D}(h:sw G d v)(x:∀b o,G b o→G' b o):sw G' d v:=by
 induction h with
 | a v=>exact .a v
 | gone u hu=>exact .gone u hu
 | nil A c h1 h2=>exact .nil A c h1 h2
 | l rows n c b o k T fr cs us h1 h2 h3 h4 h5 h6 h7 h8 _ ih=>exact .l rows n c b o k T fr cs us h1 h2 h3 h4 h5 h6 (x _ _ h7) h8 ih
theorem sw.atom {G:Nat→Obj→Prop}{v u:Value}(h:sw G (.a v) u):u=v:=by cases h;rfl
theorem sw.len {G:Nat→Obj→Prop}{v:Value}{rows:List (List D)}(h:sw G (.l rows) v):∃A c,v= .slice A rows.length c∧rows.length≤c∧c≤9223372036854775807∧(A=none→c=0):=by
 cases h with
 | nil A c h1 h2=>exact⟨A,c,rfl,Nat.zero_le _,h1,h2⟩
 | l _ n c b o k T fr cs us h1 h2 h3 h4=>exact⟨some ⟨b,o,none⟩,c,by rw [h1],by omega,h4,fun h=>by cases h⟩
theorem sw.at_ {G:Nat→Obj→Prop}{v:Value}{rows:List (List D)}(h:sw G (.l rows) v){i:Nat}{r:List D}(hi:rows[i]?=some r):
  ∃c b o T fr cs,v= .slice (some ⟨b,o,none⟩) rows.length c∧G b (.cells cs T fr)∧∀(j:Nat) (d:D),r[j]?=some d→∃u,cs[o+(i*r.length+j)]?=some u∧sw G d u:=by
 cases h with
 | nil A c h1 h2=>simp at hi
 | l _ n c b o k T fr cs us h1 h2 h3 h4 h5 h6 h7 h8 h9=>
  have hk:r.length=k:=h6 r (List.mem_of_getElem? hi)
  refine⟨c,b,o,T,fr,cs,by rw [h1],h7,fun j d e=>?_⟩
  have f:=flat_get rows i j r d h6 hi e
  rw [hk]
  exact⟨_,h8 _ _ f,h9 _ _ f⟩
inductive oQ (w:World):D→Value→List Nat→Prop
 | a (x:Value):oQ w (.a x) x []
 | gone (u:Value) (h:u.oneCell'=true):oQ w .gone u []
 | nil (A:Option Addr) (F:List Nat):oQ w (.l []) (.slice A 0 0) F
 | l (rows:List (List D)) (n c g o k:Nat) (T:TypeId) (cs:Array Value) (us:Nat→Value) (fs:Nat→List Nat) (hn:rows.length=n) (hc:n≤c) (hm:c≤maxLen) (hk:0<k) (hu:∀r∈rows,r.length=k) (hs:cs.size=o+c*k) (h0:rows= []→c=0)
   (hb:w.heap[g]?=some (.cells cs T (0,0))) (hcell:∀i d,rows.flatten[i]?=some d→cs[o+i]?=some (us i)) (hr:∀i d,rows.flatten[i]?=some d→oQ w d (us i) (fs i)):
   oQ w (.l rows) (.slice (some ⟨g,o,none⟩) n c) (g::(List.range rows.flatten.length).flatMap fs)
theorem oQ.st {w w':World}{v:Value}{d:D}{F:List Nat}(h:oQ w d v F)(hk:∀b∈F,w'.heap[b]?=w.heap[b]?):oQ w' d v F:=by
 induction h with
 | a v=>exact .a v
 | gone u hu=>exact .gone u hu
 | nil A F=>exact .nil A F
 | l rows n c g o k T cs us fs h1 h2 h3 h4 h5 h6 h0 h7 h8 _ ih=>
  refine .l rows n c g o k T cs us fs h1 h2 h3 h4 h5 h6 h0 ((hk g List.mem_cons_self).trans h7) h8 (fun i d e=>ih i d e fun b hb=>hk b (List.mem_cons_of_mem _ (List.mem_flatMap.2 ⟨i,?_,hb⟩)))
  exact List.mem_range.2 (List.getElem?_eq_some_iff.1 e).1
theorem oQ.rd {w:World}{v:Value}{d:D}{F:List Nat}(h:oQ w d v F){G:Nat→Obj→Prop}(x:∀b∈F,∀o,w.heap[b]?=some o→G b o):sw G d v:=by
 induction h with
 | a v=>exact .a v
 | gone u hu=>exact .gone u hu
 | nil A F=>exact .nil A 0 (by omega) (fun _=>rfl)
 | l rows n c g o k T cs us fs h1 h2 h3 h4 h5 h6 h00 h7 h8 _ ih=>
  rcases Nat.eq_zero_or_pos n with h0|h0
  ·subst h0
   obtain rfl:rows= []:=List.eq_nil_of_length_eq_zero h1
   exact .nil _ c (by unfold maxLen at h3;omega) (fun h=>nomatch h)
  ·refine .l rows n c g o k T (0,0) cs us h1 h0 h2 (by unfold maxLen at h3;omega) h4 h5 (x g List.mem_cons_self _ h7) (fun i d e=>h8 i d e) (fun i d e=>ih i d e fun b hb=>x b (List.mem_cons_of_mem _ (List.mem_flatMap.2 ⟨i,?_,hb⟩)))
   exact List.mem_range.2 (List.getElem?_eq_some_iff.1 e).1
def qF (u:Value)(rows:List (List D)):Pc:=⟨fun w F=>oQ w (.l rows) u F,fun h k=>h.st k⟩
structure Hd where
 v:Value
 cv:Nat→Value
structure kH (w:World) (rows:List (List D)) (h:Hd) (F:List Nat):Prop where
 own:oQ w (.l rows) h.v F
 hd:∀(g o n c:Nat) (cs:Array Value) (T:TypeId) (fr:Nat×Nat) (m:Nat) (r':List (List D)),h.v= .slice (some ⟨g,o,none⟩) n c→w.heap[g]?=some (.cells cs T fr)→rows.flatten[m]?=some (.l r')→cs[o+m]?=some (h.cv m)
theorem kH.st {w w':World}{rows:List (List D)}{h:Hd}{F:List Nat}(t:kH w rows h F)(hk:∀b∈F,w'.heap[b]?=w.heap[b]?):kH w' rows h F:=by
 refine⟨t.own.st hk,fun g ob n c cs T fr m r' e1 e2 e3=>t.hd g ob n c cs T fr m r' e1 ?_ e3⟩
 rw [←hk g ?_];exact e2
 have o:=t.own
 rw [e1]at o
 cases o with
 | nil A F=>simp at e3
 | l=>exact List.mem_cons_self
theorem oQ.tree {w:World}{rows:List (List D)}{u:Value}{F:List Nat}(o:oQ w (.l rows) u F):∃h:Hd,h.v=u∧kH w rows h F:=by
 cases o with
 | nil A F=>exact⟨⟨.slice A 0 0,fun _=>undef⟩,rfl, .nil A F,fun g ob n c cs T fr m r' e1 e2 e3=>by simp at e3⟩
 | l _ n c g ob k T cs us fs h1 h2 h3 h4 h5 h6 h0 h7 h8 h9=>
  refine⟨⟨_,us⟩,rfl, .l rows n c g ob k T cs us fs h1 h2 h3 h4 h5 h6 h0 h7 h8 h9,fun g' ob' n' c' cs' T' fr m r' e1 e2 e3=>?_⟩
  injection e1 with e1 _ _;injection e1 with e1;injection e1 with e1 eo _
  subst e1;subst eo
  rw [h7]at e2;injection e2 with e2;injection e2 with e2 _ _
  rw [←e2];exact h8 m _ e3
def gH (h:Hd)(rows:List (List D)):Pc:=⟨fun w F=>kH w rows h F,fun t k=>t.st k⟩
def rG:Hd:=⟨.slice none 0 0,fun _=>undef⟩
theorem kH.nil (w:World):kH w [] rG []:=⟨.nil none [],fun g ob n c cs T fr m r' e1=>by cases e1⟩
theorem St.BO {W w:World}{h:Hd}{rows:List (List D)}{L:List Pc}(S:St W w (gH h rows::L)):St W w (qF h.v rows::L):=by
 obtain⟨F,s,n,hb⟩:=S.sep
 obtain⟨F1,G,rfl,a,g⟩:=s.fQ
 exact⟨S.ext,_, .cons (h:=qF h.v rows) (kH.own a) g,n,hb⟩
theorem St.tree {W w:World}{u:Value}{rows:List (List D)}{L:List Pc}(S:St W w (qF u rows::L)):∃h:Hd,h.v=u∧St W w (gH h rows::L):=by
 obtain⟨F,s,n,hb⟩:=S.sep
 obtain⟨F1,G,rfl,a,g⟩:=s.fQ
 obtain⟨h,e,t⟩:=oQ.tree a
 exact⟨h,e,S.ext,_, .cons (h:=gH h rows) t g,n,hb⟩
theorem St.aea {W w:World}{h:Hd}{rows:List (List D)}{L:List Pc}(S:St W w L)(hm:gH h rows∈L):∃F,kH w rows h F:=by
 obtain⟨i,e⟩:=List.getElem?_of_mem hm
 obtain⟨F,s,_,_⟩:=(S.bring i e).sep
 obtain⟨F1,_,rfl,a,_⟩:=s.fQ
 exact⟨F1,a⟩
theorem St.agR {W w:World}{u:Value}{rows:List (List D)}{L:List Pc}(S:St W w L)(h:qF u rows∈L):∃F,oQ w (.l rows) u F:=by
 obtain⟨i,e⟩:=List.getElem?_of_mem h
 obtain⟨F,s,_,_⟩:=(S.bring i e).sep
 obtain⟨F1,_,rfl,a,_⟩:=s.fQ
 exact⟨F1,a⟩
theorem St.rd {W w:World}{u:Value}{rows:List (List D)}{L:List Pc}(S:St W w L)(h:qF u rows∈L):sw (eG w) (.l rows) u:=by
 obtain⟨F,a⟩:=S.agR h
 exact a.rd fun _ _ _ e=>e
theorem St.Oa {W w:World}{b:Nat}{T:TypeId}{cs:Array Value}{L:List Pc}(S:St W w L)(h:rowP b T cs∈L):w.heap[b]?=some (.cells cs T (0,0)):=by
 obtain⟨i,e⟩:=List.getElem?_of_mem h
 exact S.row i e
def kZ (w0:World)(F:List Nat):Pc:=⟨fun w F'=>F'=F∧∀b∈F,w.heap[b]?=w0.heap[b]?,fun h k=>⟨h.1,fun b hb=>(k b (by rw [h.1];exact hb)).trans (h.2 b hb)⟩⟩
theorem St.WM {W w w0:World}{F:List Nat}{L:List Pc}(S:St W w L)(h:kZ w0 F∈L):∀b∈F,w.heap[b]?=w0.heap[b]?:=by
 obtain⟨i,e⟩:=List.getElem?_of_mem h
 obtain⟨G,s,_,_⟩:=(S.bring i e).sep
 obtain⟨F1,_,rfl,a,_⟩:=s.fQ
 exact a.2
theorem aeX {W w:World}(h:∀b o,eG W b o→w.heap[b]?=some o){b i:Nat}{v:Value}(hc:W.cell? ⟨b,i,none⟩=some v):w.cell? ⟨b,i,none⟩=some v:=by
 have hb:b<W.heap.size:=World.block_lt_of_cell? W _ hc
 have e0:W.heap[b]?=some W.heap[b]:=Array.getElem?_eq_getElem hb
 have e:w.heap[b]?=W.heap[b]?:=(h b _ e0).trans e0.symm
 unfold World.cell? at hc⊢
 rw [e];exact hc
def WO (w:World):Prop:= ∃m:Int,w.cell? ⟨0,0,none⟩=some (.int .i64 m)
theorem WO.keep {W w:World}(h:∀b o,eG W b o→w.heap[b]?=some o)(z:WO W):WO w:=z.imp fun _ e=>aeX h e
def ZW (w:World):Prop:=True
 ∧WO w
def Zed (K:Nat→Obj→Prop):Prop:= ∀w:World,(∀b o,K b o→w.heap[b]?=some o)→ZW w
theorem aiQ {W:World}(z:ZW W):Zed (eG W):=fun w h=>by
 exact⟨trivial,z.2.keep h⟩
end Go.Proofs.YtlpdjhiggpblcaaGreat
namespace Go.Proofs.YtlpdjhiggpblcaaGreat
open Go.RowKit
set_option linter.unusedSimpArgs false
set_option linter.unusedVariables false
def WQ (es:List (Int×Int))(ents:Array MapEntry):Prop:=ents.toList.map (fun e=>(e.key,e.val))=es.map fun p=>(Value.int .i64 p.1,Value.int .i64 p.2)
def Rj (G:Nat→Obj→Prop)(es:List (Int×Int))(u:Value):Prop:= ∃b ents clock,u= .map (some b)∧G b (.map ents clock)∧WQ es ents
theorem Rj.mono {G G':Nat→Obj→Prop}{es:List (Int×Int)}{u:Value}(h:Rj G es u)(x:∀b o,G b o→G' b o):Rj G' es u:=by
 obtain⟨b,ents,clock,h1,h2,h3⟩:=h
 exact⟨b,ents,clock,h1,x _ _ h2,h3⟩
structure Rel where
 K:Nat→Obj→Prop
 Z:Nat→Obj→Prop
 src:Nat→Value
 bl:Nat→Nat
 hd:Nat→Hd
 Lb:Nat→Prop
 Lt:Nat→Prop
mutual
def RV (ρ:Rel):V→Value→Prop
 | .v x,u=>u=x
 | .nil,u=>u= .slice none 0 0
 | .aM o rows,u=>sw ρ.K (.l rows) u∧∀j,o=some j→ρ.src j=u
 | .own p,u=>ρ.Lt p∧u=(ρ.hd p).v
 | .inn p i j k,u=>ρ.Lt p∧u=(ρ.hd p).cv (i*k+j)∧u.oneCell'=true
 | .fz rows,u=>sw ρ.Z (.l rows) u
 | .mp es,u=>Rj ρ.Z es u
 | .ref b off,u=>ρ.Lb b∧u= .pointer (some ⟨ρ.bl b,off,none⟩)
 | .pe base k i off,u=> ∃ub,RV ρ base ub∧∃g o n c,ub= .slice (some ⟨g,o,none⟩) n c∧i<n∧u= .pointer (some ⟨g,o+(i*k+off),none⟩)
 | .agg cs,u=> ∃us,u= .agg us.toArray∧jC ρ cs us
 | .fT cs,u=> ∃us,u= .tuple us.toArray∧jC ρ cs us
 | .fn f cs,u=> ∃us,u= .func (.func f) #[] us.toArray∧jC ρ cs us
 | .dead,_=>True
def jC (ρ:Rel):List V→List Value→Prop
 | [],us=>us= []
 | v::r,us=> ∃u q,us=u::q∧RV ρ v u∧jC ρ r q
end
structure Rel.le (ρ ρ':Rel):Prop where
 K:∀b o,ρ.K b o→ρ'.K b o
 Z:∀b o,ρ.Z b o→ρ'.Z b o
 src:ρ'.src=ρ.src
 b:∀b,ρ.Lb b→ρ'.Lb b∧ρ'.bl b=ρ.bl b
 t:∀p,ρ.Lt p→ρ'.Lt p∧ρ'.hd p=ρ.hd p
theorem Rel.le.refl (ρ:Rel):ρ.le ρ:=⟨fun _ _ h=>h,fun _ _ h=>h,rfl,fun _ h=>⟨h,rfl⟩,fun _ h=>⟨h,rfl⟩⟩
mutual
theorem RV.le {ρ ρ':Rel}(e:ρ.le ρ'):∀{v:V} {u:Value},RV ρ v u→RV ρ' v u
 | .v _,_,h=>h
 | .nil,_,h=>h
 | .aM _ _,_,h=>⟨h.1.mono e.K,fun j i=>by rw [e.src];exact h.2 j i⟩
 | .own p,_,h=>⟨(e.t p h.1).1,by rw [(e.t p h.1).2];exact h.2⟩
 | .inn p _ _ _,_,h=>⟨(e.t p h.1).1,by rw [(e.t p h.1).2];exact h.2⟩
 | .fz _,_,h=>sw.mono h e.Z
 | .mp _,_,h=>Rj.mono h e.Z
 | .ref b _,_,h=>⟨(e.b b h.1).1,by rw [(e.b b h.1).2];exact h.2⟩
 | .pe _ _ _ _,_,h=>by obtain⟨ub,h1,h2⟩:=h;exact⟨ub,RV.le e h1,h2⟩
 | .agg _,_,h=>by obtain⟨us,h1,h2⟩:=h;exact⟨us,h1,jC.le e h2⟩
 | .fT _,_,h=>by obtain⟨us,h1,h2⟩:=h;exact⟨us,h1,jC.le e h2⟩
 | .fn _ _,_,h=>by obtain⟨us,h1,h2⟩:=h;exact⟨us,h1,jC.le e h2⟩
 | .dead,_,_=>trivial
theorem jC.le {ρ ρ':Rel}(e:ρ.le ρ'):∀{vs:List V} {us:List Value},jC ρ vs us→jC ρ' vs us
 | [],_,h=>h
 | _::_,_,h=>by obtain⟨u,q,h1,h2,h3⟩:=h;exact⟨u,q,h1,RV.le e h2,jC.le e h3⟩
end
mutual
theorem RV.less {ρ ρ':Rel}{p:Nat}(hK:ρ'.K=ρ.K)(hZ:∀b o,ρ.Z b o→ρ'.Z b o)(hs:ρ'.src=ρ.src)(hb:∀b,ρ.Lb b→ρ'.Lb b∧ρ'.bl b=ρ.bl b)(ht:∀q,q≠p→ρ.Lt q→ρ'.Lt q∧ρ'.hd q=ρ.hd q):
  ∀{v:V} {u:Value},aP p v=false→RV ρ v u→RV ρ' v u
 | .v _,_,_,h=>h
 | .nil,_,_,h=>h
 | .aM _ _,_,_,h=>⟨by rw [hK];exact h.1,fun j i=>by rw [hs];exact h.2 j i⟩
 | .own q,_,m,h=>by
  have hq:q≠p:=by intro e;subst e;simp [aP]at m
  exact⟨(ht q hq h.1).1,by rw [(ht q hq h.1).2];exact h.2⟩
 | .inn q _ _ _,_,m,h=>by
  have hq:q≠p:=by intro e;subst e;simp [aP]at m
  exact⟨(ht q hq h.1).1,by rw [(ht q hq h.1).2];exact h.2⟩
 | .fz _,_,_,h=>sw.mono h hZ
 | .mp _,_,_,h=>Rj.mono h hZ
 | .ref b _,_,_,h=>⟨(hb b h.1).1,by rw [(hb b h.1).2];exact h.2⟩
 | .pe _ _ _ _,_,m,h=>by obtain⟨ub,h1,h2⟩:=h;exact⟨ub,RV.less hK hZ hs hb ht (by simpa [aP] using m) h1,h2⟩
 | .agg _,_,m,h=>by obtain⟨us,h1,h2⟩:=h;exact⟨us,h1,jC.less hK hZ hs hb ht (by simpa [aP] using m) h2⟩
 | .fT _,_,m,h=>by obtain⟨us,h1,h2⟩:=h;exact⟨us,h1,jC.less hK hZ hs hb ht (by simpa [aP] using m) h2⟩
 | .fn _ _,_,m,h=>by obtain⟨us,h1,h2⟩:=h;exact⟨us,h1,jC.less hK hZ hs hb ht (by simpa [aP] using m) h2⟩
 | .dead,_,_,_=>trivial
theorem jC.less {ρ ρ':Rel}{p:Nat}(hK:ρ'.K=ρ.K)(hZ:∀b o,ρ.Z b o→ρ'.Z b o)(hs:ρ'.src=ρ.src)(hb:∀b,ρ.Lb b→ρ'.Lb b∧ρ'.bl b=ρ.bl b)(ht:∀q,q≠p→ρ.Lt q→ρ'.Lt q∧ρ'.hd q=ρ.hd q):
  ∀{vs:List V} {us:List Value},aP.any p vs=false→jC ρ vs us→jC ρ' vs us
 | [],_,_,h=>h
 | _::_,_,m,h=>by
  simp [aP.any]at m
  obtain⟨u,q,h1,h2,h3⟩:=h;exact⟨u,q,h1,RV.less hK hZ hs hb ht m.1 h2,jC.less hK hZ hs hb ht m.2 h3⟩
end
theorem jC.len {ρ:Rel}:∀{vs:List V} {us:List Value},jC ρ vs us→us.length=vs.length
 | [],_,h=>by rw [show _= []from h];rfl
 | _::_,_,h=>by obtain⟨u,q,rfl,h2,h3⟩:=h;rw [List.length_cons,List.length_cons,h3.len]
theorem jC.get {ρ:Rel}:∀{vs:List V} {us:List Value} {i:Nat} {v:V},jC ρ vs us→vs[i]?=some v→∃u,us[i]?=some u∧RV ρ v u
 | [],_,i,v,_,e=>by simp at e
 | _::_,_,0,v,h,e=>by obtain⟨u,q,rfl,h2,h3⟩:=h;simp at e;subst e;exact⟨u,rfl,h2⟩
 | _::_,_,i+1,v,h,e=>by obtain⟨u,q,rfl,h2,h3⟩:=h;simpa using h3.get (i:=i) (by simpa using e)
theorem jC.of {ρ:Rel}:∀{vs:List V} {us:List Value},us.length=vs.length→(∀(i:Nat) (v:V) (u:Value),vs[i]?=some v→us[i]?=some u→RV ρ v u)→jC ρ vs us
 | [],us,hl,_=>by cases us with|nil=>rfl|cons=>simp at hl
 | v::vs,us,hl,h=>by
  cases us with
  | nil=>simp at hl
  | cons u us=>exact⟨u,us,rfl,h 0 v u rfl rfl,jC.of (by simpa using hl) fun i v' u' e1 e2=>h (i+1) v' u' (by simpa using e1) (by simpa using e2)⟩
theorem jC.app {ρ:Rel}:∀{vs ws:List V} {us xs:List Value},jC ρ vs us→jC ρ ws xs→jC ρ (vs++ws) (us++xs)
 | [],_,_,_,h,k=>by rw [show _= []from h];exact k
 | _::_,_,_,_,h,k=>by obtain⟨u,q,rfl,h2,h3⟩:=h;exact⟨u,q++_,rfl,h2,h3.app k⟩
theorem jC.drop {ρ:Rel}:∀(n:Nat) {vs:List V} {us:List Value},jC ρ vs us→jC ρ (vs.drop n) (us.drop n)
 | 0,_,_,h=>h
 | n+1,[],_,h=>by rw [show _= []from h];rfl
 | n+1,_::_,_,h=>by obtain⟨u,q,rfl,h2,h3⟩:=h;exact h3.drop n
theorem jC.take {ρ:Rel}:∀(n:Nat) {vs:List V} {us:List Value},jC ρ vs us→jC ρ (vs.take n) (us.take n)
 | 0,_,_,_=>rfl
 | n+1,[],_,h=>by rw [show _= []from h];rfl
 | n+1,_::_,_,h=>by obtain⟨u,q,rfl,h2,h3⟩:=h;exact⟨u,_,rfl,h2,h3.take n⟩
theorem jC.set {ρ:Rel}{v:V}{u:Value}(k:RV ρ v u):∀(n:Nat) {vs:List V} {us:List Value},jC ρ vs us→jC ρ (vs.set n v) (us.set n u)
 | _,[],_,h=>by rw [show _= []from h];rfl
 | 0,_::_,_,h=>by obtain⟨u',q,rfl,h2,h3⟩:=h;exact⟨u,q,rfl,k,h3⟩
 | n+1,_::_,_,h=>by obtain⟨u',q,rfl,h2,h3⟩:=h;exact⟨u',_,rfl,h2,h3.set k n⟩
section
variable {α:Type}
theorem Mi {k:Nat}{x:α}:∀{l:List (Nat×α)} (j:Nat),look j (put k x l)=if j=k then some x else look j l
 | [],j=>by simp only [put,look]
 | (i,y)::r,j=>by
  unfold put
  by_cases h:k=i
  ·subst h;rw [if_pos rfl];simp only [look];split<;>rfl
  ·rw [if_neg h]
   by_cases h2:i<k
   ·rw [if_pos h2];simp only [look]
   ·rw [if_neg h2];simp only [look]
    by_cases h3:j=i
    ·subst h3;rw [if_pos rfl,if_pos rfl,if_neg fun e=>h e.symm]
    ·rw [if_neg h3,if_neg h3,Mi j]
theorem qN {k:Nat}:∀{l:List (Nat×α)} (j:Nat),look j (drop1 k l)=if j=k then none else look j l
 | [],j=>by simp only [drop1,look];split<;>rfl
 | (i,y)::r,j=>by
  unfold drop1
  by_cases h:k=i
  ·subst h;rw [if_pos rfl,qN j];simp only [look]
   by_cases h3:j=k
   ·rw [if_pos h3,if_pos h3]
   ·rw [if_neg h3,if_neg h3,if_neg h3]
  ·rw [if_neg h];simp only [look]
   by_cases h3:j=i
   ·subst h3;rw [if_pos rfl,if_pos rfl,if_neg fun e=>h e.symm]
   ·rw [if_neg h3,if_neg h3,qN j]
theorem fI {k:Nat}{x:α}:∀{l:List (Nat×α)},look k l=some x→(k,x)∈l
 | [],h=>by cases h
 | (i,y)::r,h=>by
  simp only [look]at h
  split at h
  ·rename_i e;subst e;injection h with h;subst h;exact List.mem_cons_self
  ·exact List.mem_cons_of_mem _ (fI h)
theorem jX {k:Nat}:∀{l:List (Nat×α)},look k l=none→k∉l.map (·.1)
 | [],_=>by simp
 | (i,y)::r,h=>by
  simp only [look]at h
  split at h
  ·cases h
  ·rename_i e;simp only [List.map_cons,List.mem_cons,not_or];exact⟨e,jX h⟩
theorem jY {k:Nat}{x:α}:∀{l:List (Nat×α)},(l.map (·.1)).Nodup→(k,x)∈l→look k l=some x
 | [],_,h=>by cases h
 | (i,y)::r,n,h=>by
  simp only [List.map_cons,List.nodup_cons]at n
  simp only [look]
  rcases List.mem_cons.1 h with h|hm
  ·injection h with h1 h2;subst h1;subst h2;rw [if_pos rfl]
  ·have:k≠i:=by intro e;subst e;exact n.1 (List.mem_map.2 ⟨(k,x),hm,rfl⟩)
   rw [if_neg this];exact jY n.2 hm
theorem oD {k:Nat}{x:α}:∀(l:List (Nat×α)),(upd k x l).map (·.1)=l.map (·.1)
 | []=>rfl
 | (i,y)::r=>by
  unfold upd;split
  ·rename_i e;subst e;rfl
  ·rw [List.map_cons,List.map_cons,oD r]
theorem WR {k j:Nat}{x y:α}:∀{l:List (Nat×α)},(l.map (·.1)).Nodup→(j,y)∈upd k x l→(j=k∧y=x)∨(j≠k∧(j,y)∈l)
 | [],_,h=>by cases h
 | (i,z)::r,n,h=>by
  simp only [List.map_cons,List.nodup_cons]at n
  unfold upd at h
  split at h
  ·rename_i e;subst e
   rcases List.mem_cons.1 h with h|hm
   ·injection h with h1 h2;exact .inl ⟨h1,h2⟩
   ·exact .inr ⟨fun e=>n.1 (by rw [←e];exact List.mem_map.2 ⟨(j,y),hm,rfl⟩),List.mem_cons_of_mem _ hm⟩
  ·rename_i e
   rcases List.mem_cons.1 h with h|h
   ·injection h with h1 h2;subst h1;subst h2;exact .inr ⟨fun e2=>e e2.symm,List.mem_cons_self⟩
   ·rcases WR n.2 h with h|h
    ·exact .inl h
    ·exact .inr ⟨h.1,List.mem_cons_of_mem _ h.2⟩
theorem vD {k:Nat}{x:α}:∀{l:List (Nat×α)},look k l=some x→∃a b,l=a++(k,x)::b∧(∀y,upd k y l=a++(k,y)::b)∧((l.map (·.1)).Nodup→drop1 k l=a++b)
 | [],h=>by cases h
 | (i,z)::r,h=>by
  simp only [look]at h
  by_cases e:k=i
  ·subst e;rw [if_pos rfl]at h;injection h with h;subst h
   refine⟨[],r,rfl,fun y=>by unfold upd;rw [if_pos rfl];rfl,fun n=>?_⟩
   simp only [List.map_cons,List.nodup_cons]at n
   unfold drop1;rw [if_pos rfl]
   have:∀{l:List (Nat×α)},k∉l.map (·.1)→drop1 k l=l:=by
    intro l;induction l with
    | nil=>intro _;rfl
    | cons y l ih=>intro hn;simp only [List.map_cons,List.mem_cons,not_or]at hn;obtain⟨j,y⟩:=y;unfold drop1;rw [if_neg hn.1,ih hn.2]
   exact this n.1
  ·rw [if_neg e]at h
   obtain⟨a,b,h1,h2,h3⟩:=vD h
   refine⟨(i,z)::a,b,by rw [h1];rfl,fun y=>by unfold upd;rw [if_neg e,h2];rfl,fun n=>?_⟩
   simp only [List.map_cons,List.nodup_cons]at n
   unfold drop1;rw [if_neg e,h3 n.2];rfl
end
structure Ctx where
 W:World
 L:List Pc
 K:Nat→Obj→Prop
 src:Nat→Value
 n:Nat
 hK:∀w,St W w L→∀b o,K b o→w.heap[b]?=some o
 bF:Nat→Nat
 hF:Nat→Hd
 zed:Zed K
def dS (bl:Nat→Nat)(T:Nat→TypeId)(us:Nat→Array Value)(l:List (Nat×List V)):List Pc:=l.map fun x=>rowP (bl x.1) (T x.1) (us x.1)
def bW (hd:Nat→Hd)(l:List (Nat×List (List D))):List Pc:=l.map fun x=>gH (hd x.1) x.2
def iA (w0:Nat→World)(F:Nat→List Nat)(l:List (Nat×List (List D))):List Pc:=l.map fun x=>kZ (w0 x.1) (F x.1)
structure Lay where
 bl:Nat→Nat
 hd:Nat→Hd
 T:Nat→TypeId
 us:Nat→Array Value
 w0:Nat→World
 F:Nat→List Nat
def aX (c:Ctx)(s:S)(y:Lay):Rel:=
 {K:=c.K,Z:=fun b o=> ∃p,p∈s.dJ.map (·.1)∧b∈y.F p∧(y.w0 p).heap[b]?=some o,src:=c.src,bl:=y.bl,hd:=y.hd,Lb:=fun b=>b∈s.box.map (·.1),Lt:=fun p=>p∈(s.tree++s.dJ).map (·.1)}
structure At (c:Ctx) (s:S) (y:Lay) (a:Act) (w:World):Prop where
 defers:a.defers= []
 size:a.tmps.size=c.n
 st:St c.W w (dS y.bl y.T y.us s.box++(bW y.hd s.tree++(iA y.w0 y.F s.dJ++c.L)))
 env:∀t v,look t s.env=some v→RV (aX c s y) v (a.tmps.getD t undef)
 box:∀b cs,(b,cs)∈s.box→jC (aX c s y) cs (y.us b).toList
 dJ:∀p rows,(p,rows)∈s.dJ→kH (y.w0 p) rows (y.hd p) (y.F p)
 nb:(s.box.map (·.1)).Nodup
 nt:((s.tree++s.dJ).map (·.1)).Nodup
 fix:c.n≤bg∧∀i,bg≤i→i<2*bg→y.bl i=c.bF i∧y.hd i=c.hF i
def Good (c:Ctx)(s:S)(a:Act)(w:World):Prop:= ∃y,At c s y a w
theorem Sep.perm {w:World}{L L':List Pc}(p:L.Perm L'):∀{F:List Nat},Sep w L F→∃F',Sep w L' F'∧F'.Perm F:=by
 induction p with
 | nil=>intro F s;exact⟨F,s,List.Perm.refl _⟩
 | cons x _ ih=>
  intro F s
  obtain⟨F1,G,rfl,a,g⟩:=s.fQ
  obtain⟨G',g',pg⟩:=ih g
  exact⟨F1++G', .cons a g',List.Perm.append_left _ pg⟩
 | swap x y l=>intro F s;exact s.swap
 | trans _ _ ih1 ih2=>
  intro F s
  obtain⟨F1,s1,p1⟩:=ih1 s
  obtain⟨F2,s2,p2⟩:=ih2 s1
  exact⟨F2,s2,p2.trans p1⟩
theorem St.perm {W w:World}{L L':List Pc}(S:St W w L)(p:L.Perm L'):St W w L':=by
 obtain⟨F,s,n,hb⟩:=S.sep
 obtain⟨F',s',pf⟩:=s.perm p
 exact⟨S.ext,F',s',pf.nodup_iff.2 n,fun b h=>hb b (pf.mem_iff.1 h)⟩
theorem St.rW {W w:World}:∀{L1 L2:List Pc},St W w (L1++L2)→St W w L2
 | [],_,S=>S
 | _::_,_,S=>St.rW S.drop
end Go.Proofs.YtlpdjhiggpblcaaGreat
namespace Go.Proofs.YtlpdjhiggpblcaaGreat
set_option linter.unusedSectionVars false
set_option linter.unusedSimpArgs false
set_option linter.unusedVariables false
open Go.RowKit
theorem aeY (c:Ctx)(s:S)(y:Lay)(d:Option Nat)(v:V):aX c (s.put d v) y=aX c s y:=by cases d<;>rfl
theorem abG (c:Ctx)(s:S)(y:Lay)(d:Option Nat):aX c (s.skip d) y=aX c s y:=by cases d<;>rfl
theorem YT (a:Act)(d:Option Nat)(u:Value):(a.put d u).tmps.size=a.tmps.size:=by cases d<;>simp [Act.put]
theorem aeb (a:Act)(d t:Nat)(u:Value)(h:d<a.tmps.size):(a.put (some d) u).tmps.getD t undef=if t=d then u else a.tmps.getD t undef:=by
 by_cases e:t=d
 ·subst e;simp [Act.put,h]
 ·rw [if_neg e];simp [Act.put,Array.getElem?_setIfInBounds_ne (fun x=>e x.symm)]
def fO (n:Nat)(d:Option Nat):Bool:=match d with
 | some d=>decide (d<n)
 | none=>true
theorem fO.lt {n d:Nat}(h:fO n (some d)=true):d<n:=by simpa [fO] using h
section
variable {P:Program} {c:Ctx} {s:S} {y:Lay} {a:Act} {w:World}
theorem At.value (A:At c s y a w){v:V}{u:Value}(h:RV (aX c s y) v u){d:Option Nat}(hd':fO c.n d=true):At c (s.put d v) y (a.put d u) w:=by
 cases d with
 | none=>exact A
 | some d=>
  refine⟨A.defers,by rw [YT];exact A.size,A.st,fun t v' e=>?_,A.box,A.dJ,A.nb,A.nt,A.fix⟩
  rw [aeY]
  have e:look t (put d v s.env)=some v':=e
  rw [Mi]at e
  rw [aeb _ _ _ _ (by rw [A.size];exact fO.lt hd')]
  by_cases h2:t=d
  ·rw [if_pos h2]at e⊢;injection e with e;subst e;exact h
  ·rw [if_neg h2]at e⊢;exact A.env t v' e
theorem At.skip (A:At c s y a w)(u:Value){d:Option Nat}:At c (s.skip d) y (a.put d u) w:=by
 cases d with
 | none=>exact A
 | some d=>
  refine⟨A.defers,by rw [YT];exact A.size,A.st,fun t v' e=>?_,A.box,A.dJ,A.nb,A.nt,A.fix⟩
  rw [abG]
  have e:look t (drop1 d s.env)=some v':=e
  rw [qN]at e
  by_cases h2:t=d
  ·rw [if_pos h2]at e;cases e
  ·rw [if_neg h2]at e
   have:(a.put (some d) u).tmps.getD t undef=a.tmps.getD t undef:=by simp [Act.put,Array.getElem?_setIfInBounds_ne (fun x=>h2 x.symm)]
   rw [this];exact A.env t v' e
theorem WS {ρ:Rel}(x:Value):RV ρ (yu x) x:=by
 unfold yu
 split
 ·rfl
 ·rfl
theorem Mj {ρ:Rel}{x:Value}{v:V}(h:uN x=some v):RV ρ v x:=by
 unfold uN at h
 split at h<;>(try cases h)<;>(try rfl)
 rename_i cs
 refine⟨cs.toList,by simp,?_⟩
 refine jC.of (by simp) fun i v u e1 e2=>?_
 rw [List.getElem?_map,e2]at e1
 simp at e1;subst e1
 exact WS u
theorem At.ev (A:At c s y a w){x:Operand}{v:V}(h:s.ev x=some v):RV (aX c s y) v (a.eval x):=by
 cases x with
 | tmp t=>exact A.env t v h
 | const x=>exact Mj h
 | func f=>simp only [S.ev]at h;injection h with h;subst h;exact⟨[],rfl,rfl⟩
 | global g=>cases h
def Step (P:Program)(c:Ctx)(o:Oper)(s s':S):Prop:=
 ∀(a:Act) (w:World),Good c s a w→∀(next:Act→World→Prop) (Q:Exit→Act→World→Prop),(∀a' w',Good c s' a' w'→next a' w')→o.wp P a w next Q
theorem qw {o:Oper}{u:Value}{w':World}{next:Act→World→Prop}{Q:Exit→Act→World→Prop}(h:(execOp a.eval o).run P w= .ok (.value u) w')(k:next (a.put o.dst u) w'):o.wp P a w next Q:=by
 unfold Oper.wp;rw [h];exact k
theorem JF {o:Oper}{w':World}{next:Act→World→Prop}{Q:Exit→Act→World→Prop}(h:(execOp a.eval o).run P w= .ok .skip w')(k:next (a.put o.dst undef) w'):o.wp P a w next Q:=by
 unfold Oper.wp;rw [h];exact k
theorem jq {o:Oper}{v:V}(hd':fO c.n o.dst=true)
  (h:∀y a w,At c s y a w→∃u,(execOp a.eval o).run P w= .ok (.value u) w∧RV (aX c s y) v u):Step P c o s (s.put o.dst v):=by
 intro a w G next Q k
 obtain⟨y,A⟩:=G
 obtain⟨u,hr,hv⟩:=h y a w A
 exact qw hr (k _ _ ⟨y,A.value hv hd'⟩)
theorem aeZ {o:Oper}{x:Operand}(ho:o.op= .move x)(hd':fO c.n o.dst=true){v:V}(h:s.ev x=some v):Step P c o s (s.put o.dst v):=
 jq hd' fun yy a w A=>⟨a.eval x,by unfold execOp;rw [ho];rfl,A.ev h⟩
theorem YU {o:Oper}{x:Operand}(ho:o.op= .assign x)(hd':fO c.n o.dst=true){v:V}(h:s.ev x=some v):Step P c o s (s.put o.dst v):=
 jq hd' fun yy a w A=>⟨a.eval x,by unfold execOp;rw [ho];rfl,A.ev h⟩
theorem Ph {v:V}{b:Bool}(h:ER v=some b):v= .v (.bool b):=by
 unfold ER at h;split at h
 ·injection h with h;subst h;rfl
 ·cases h
theorem yE {v:V}{n:Int}(h:idxOf v=some n):∃k,v= .v (.int k n):=by
 unfold idxOf at h;split at h
 ·injection h with h;subst h;exact⟨_,rfl⟩
 ·cases h
theorem ae0 {o:Oper}{x y z:Operand}(ho:o.op= .pick x y z)(hd':fO c.n o.dst=true){b:Bool}{v:V}(hx:s.ev x=some (.v (.bool b)))(h:s.ev (if b then y else z)=some v):Step P c o s (s.put o.dst v):=
 jq hd' fun yy a w A=>by
  have e:a.eval x= .bool b:=A.ev hx
  refine⟨a.eval (if b then y else z),?_,A.ev h⟩
  unfold execOp;rw [ho]
  simp only [e]
  cases b<;>rfl
theorem ae1 {op:BinOp}{k:IntKind}{x y:Int}{z:Value}(h:arith op k x y=some z)(h1:op≠ .shl)(h2:op≠ .shr)(t:TypeId)(X Y:Operand)(w:World):
  (do eqGuard op t X Y (.int k x) (.int k y);binOp op t (.int k x) (.int k y):Sem Value).run P w= .ok z w:=by
 cases op<;>simp only [arith]at h<;>first
  | (exact absurd rfl h1)
  | (exact absurd rfl h2)
  | (cases h;done)
  | (injection h with h;subst h;simp [eqGuard,binOp,Op.intArith,Op.intBits,Op.intCmp];done)
  | (obtain⟨hy,h⟩:=aB h;injection h with h;subst h;simp [eqGuard,binOp,Op.intDiv,hy];done)
theorem agS {op:BinOp}{k k':IntKind}{x y:Int}{z:Value}(h:akb op k k' x y=some z)(t:TypeId)(X Y:Operand)(w:World):
  (do eqGuard op t X Y (.int k x) (.int k' y);binOp op t (.int k x) (.int k' y):Sem Value).run P w= .ok z w:=by
 unfold akb at h
 split at h
 ·obtain⟨hy,h⟩:=aB h;injection h with h;subst h
  simp [eqGuard,binOp,Op.shift,show ¬y<0 by omega]
 ·obtain⟨hy,h⟩:=aB h;injection h with h;subst h
  simp [eqGuard,binOp,Op.shift,show ¬y<0 by omega]
 ·rename_i h1 h2
  obtain⟨hk,h3⟩:=aB h
  subst hk
  exact ae1 h3 (fun e=>h1 e) (fun e=>h2 e) t X Y w
theorem agT {op:BinOp}{x y:ByteArray}{z:Value}(h:aj9 op x y=some z)(t:TypeId)(X Y:Operand)(w:World):
  (do eqGuard op t X Y (.string x) (.string y);binOp op t (.string x) (.string y):Sem Value).run P w= .ok z w:=by
 cases op<;>simp only [aj9]at h<;>first
  | (cases h;done)
  | (injection h with h;subst h;simp [eqGuard,binOp,Op.stringOp];done)
  | (obtain⟨hy,h⟩:=aB h;injection h with h;subst h;simp [eqGuard,binOp,Op.stringOp,IntKind.max,IntKind.bits,IntKind.signed];omega)
theorem agU {op:BinOp}{x y:Bool}{z:Value}{d:TypeDesc}(h:aby op x y d=some z)(t:TypeId)(ht:P.underlying t=some d)(X Y:Operand)(w:World):
  (do eqGuard op t X Y (.bool x) (.bool y);binOp op t (.bool x) (.bool y):Sem Value).run P w= .ok z w:=by
 have hg:eqGuard op t X Y (.bool x) (.bool y)=pure ():=by cases op<;>rfl
 rw [hg]
 unfold aby at h
 split at h
 ·split at h
  ·injection h with h;subst h;exact run_eql_bool w t x y ht
  ·injection h with h;subst h;exact run_neq_bool w t x y ht
  ·cases h
 ·cases h
theorem agV {op:BinOp}{a:Addr}{z:Value}{d:TypeDesc}(h:abz op d=some z)(t:TypeId)(ht:P.underlying t=some d)(X Y:Operand)(w:World):
  (do eqGuard op t X Y (.pointer (some a)) (.pointer none);binOp op t (.pointer (some a)) (.pointer none):Sem Value).run P w= .ok z w:=by
 have hg:eqGuard op t X Y (.pointer (some a)) (.pointer none)=pure ():=by cases op<;>rfl
 rw [hg]
 unfold abz at h
 split at h
 ·rename_i e
  have hp:P.underlying t=some (.pointer (P.pointee t)):=by unfold Program.pointee;rw [ht]
  split at h
  ·injection h with h;subst h;exact run_eql_pointer_nil w t (some a) hp
  ·injection h with h;subst h;exact run_neq_pointer_nil w t (some a) hp
  ·cases h
 ·cases h
theorem Vd {t:TypeId}(h:aiG P t=true):P.underlying t=some (.int .i64):=by
 unfold aiG at h
 cases e:P.underlying t with
 | none=>rw [e]at h;cases h
 | some d=>
  rw [e]at h
  simp only [Option.map_some,Option.getD_some]at h
  unfold ali at h;split at h
  ·rfl
  ·cases h
theorem Ve {t:TypeId}(h:aiG P t=true){cs:Array Value}{n:Nat}{v:Value}(hv:cs[n]?=some v)(w:World):(part t cs n).run P w= .ok v w:=by
 have hagg:(isAgg t).run P w= .ok false w:=by
  unfold isAgg
  rw [Sem.run_bind,run_underlying (Vd h)]
  rfl
 unfold part
 rw [Sem.run_bind,hagg]
 simp [Result.andThen,hv]
theorem Mk (w:World):∀(fs:List Field) (n:Nat) (ns ms:List Int) (xs ys:Array Value),QX P n fs=true→xs.toList.drop n=ns.map (Value.int .i64)→ys.toList.drop n=ms.map (Value.int .i64)→ns.length=fs.length→ms.length=fs.length→(Op.eqFields 9999 xs ys fs).run P w= .ok (ns==ms) w
 | [],n,ns,ms,xs,ys,_,_,_,h3,h4=>by
  have:ns= []:=List.eq_nil_of_length_eq_zero h3
  have:ms= []:=List.eq_nil_of_length_eq_zero h4
  subst ns;subst ms
  simp [Op.eqFields]
 | f::fs,n,[],ms,xs,ys,_,_,_,h3,_=>by simp at h3
 | f::fs,n,a::ns,[],xs,ys,_,_,_,_,h4=>by simp at h4
 | f::fs,n,a::ns,b::ms,xs,ys,h0,h1,h2,h3,h4=>by
  unfold QX at h0
  simp only [Bool.and_eq_true,bne_iff_ne,ne_eq,beq_iff_eq]at h0
  obtain⟨⟨⟨k1,k2⟩,k3⟩,k4⟩:=h0
  have g:∀{zs:Array Value} {c:Int} {q:List Int},zs.toList.drop n=(c::q).map (Value.int .i64)→zs[n]?=some (.int .i64 c)∧zs.toList.drop (n+1)=q.map (Value.int .i64):=by
   intro zs c q h
   have e1:(zs.toList.drop n)[0]?=some (.int .i64 c):=by rw [h];rfl
   have e2:zs.toList.drop (n+1)=(zs.toList.drop n).drop 1:=by rw [List.drop_drop]
   refine⟨by simpa using e1,by rw [e2,h];rfl⟩
  obtain⟨g1,g2⟩:=g h1
  obtain⟨g3,g4⟩:=g h2
  have ih:=Mk w fs (n+1) ns ms xs ys k4 g2 g4 (by simpa using h3) (by simpa using h4)
  unfold Op.eqFields
  rw [if_pos k1,k2]
  simp only [Sem.run_bind,Ve k3 g1,Ve k3 g3,Result.andThen_ok,run_equalIn_int w 9998 f.type .i64 .i64 a b (Vd k3),Sem.run_ite]
  by_cases hab:a=b
  ·subst hab;simp [ih]
  ·simp [hab]
theorem Pj {cs ds:List V}{e:Bool}(h:Dy cs ds=some e):(cs= []∧ds= []∧e=true)∨∃a r b q e',cs= .v (.int .i64 a)::r∧ds= .v (.int .i64 b)::q∧Dy r q=some e'∧e=(a==b&&e'):=by
 unfold Dy at h
 split at h
 ·injection h with h;exact .inl ⟨rfl,rfl,h.symm⟩
 ·obtain⟨e',h3,h⟩:=aj h
  injection h with h
  exact .inr ⟨_,_,_,_,e',rfl,rfl,h3,h.symm⟩
 ·cases h
theorem Pk {ρ:Rel}:∀{cs ds:List V} {e:Bool} {us vs:List Value},Dy cs ds=some e→jC ρ cs us→jC ρ ds vs→∃ns ms:List Int,us=ns.map (Value.int .i64)∧vs=ms.map (Value.int .i64)∧ns.length=cs.length∧ms.length=cs.length∧e=(ns==ms)
 | [],ds,e,us,vs,h,h1,h2=>by
  rcases Pj h with⟨_,rfl,rfl⟩|⟨a,r,b,q,e',h3,_⟩
  ·rw [show us= []from h1,show vs= []from h2]
   exact⟨[],[],rfl,rfl,rfl,rfl,rfl⟩
  ·cases h3
 | c::cs,ds,e,us,vs,h,h1,h2=>by
  rcases Pj h with⟨h3,_⟩|⟨a,r,b,q,e',h3,rfl,h4,rfl⟩
  ·cases h3
  ·injection h3 with e1 e3;subst e1;subst e3
   obtain⟨u,us',rfl,hu,h1⟩:=h1
   obtain⟨v,vs',rfl,hv,h2⟩:=h2
   obtain⟨ns,ms,rfl,rfl,l1,l2,rfl⟩:=Pk h4 h1 h2
   refine⟨a::ns,b::ms,?_,?_,?_,?_,?_⟩
   ·rw [show u=_ from hu];rfl
   ·rw [show v=_ from hv];rfl
   ·simp [l1]
   ·simp [l2]
   ·rfl
theorem agW {t:TypeId}{n:Nat}(h:eqT P t=some n):P.underlying t=some (.struct (P.fieldsOf t))∧QX P 0 (P.fieldsOf t).toList=true∧P.stoodInHeld t=false∧P.eqGuardType P.depth t=false∧(P.fieldsOf t).toList.length=n:=by
 unfold eqT at h
 obtain⟨d,h1,h⟩:=aj h
 obtain⟨fs,h2,h⟩:=aj h
 obtain⟨⟨h3,h4,h5⟩,h⟩:=aB h
 injection h with h
 unfold YG at h2
 split at h2
 ·rename_i fs'
  injection h2 with h2;subst h2
  have:P.fieldsOf t=fs':=by unfold Program.fieldsOf;rw [h1]
  rw [this]
  exact⟨h1,h3,h4,h5,h⟩
 ·cases h2
theorem YV {o:Oper}{op:BinOp}{t t':TypeId}{x y:Operand}(ho:o.op= .binOp op t x y t'){vx vy v:V}(hx:s.ev x=some vx)(hy:s.ev y=some vy)(h:bin P t op vx vy=some v){yy:Lay}{a:Act}{w:World}(A:At c s yy a w):∃u,(execOp a.eval o).run P w= .ok (.value u) w∧RV (aX c s yy) v u:=by
 have ex:=A.ev hx
 have ey:=A.ev hy
 suffices hh:∃z,(do eqGuard op t x y (a.eval x) (a.eval y);binOp op t (a.eval x) (a.eval y):Sem Value).run P w= .ok z w∧v= .v z by
  obtain⟨z,h1,rfl⟩:=hh
  refine⟨z,?_,rfl⟩
  unfold execOp;rw [ho]
  simp only [Sem.run_bind]
  rw [Sem.run_bind]at h1
  rw [h1];rfl
 unfold bin at h
 split at h
 ·obtain⟨z,h1,h2⟩:=aj h
  injection h2 with h2
  rw [show a.eval x=_ from ex,show a.eval y=_ from ey]
  exact⟨z,agS h1 t x y w,h2.symm⟩
 ·obtain⟨z,h1,h2⟩:=aj h
  injection h2 with h2
  rw [show a.eval x=_ from ex,show a.eval y=_ from ey]
  exact⟨z,agT h1 t x y w,h2.symm⟩
 ·obtain⟨d,hd,h⟩:=aj h
  obtain⟨z,h1,h2⟩:=aj h
  injection h2 with h2
  rw [show a.eval x=_ from ex,show a.eval y=_ from ey]
  exact⟨z,agU h1 t hd x y w,h2.symm⟩
 ·obtain⟨d,hd,h⟩:=aj h
  obtain⟨z,h1,h2⟩:=aj h
  injection h2 with h2
  rw [show a.eval x=_ from ex.2,show a.eval y=_ from ey]
  exact⟨z,agV h1 t hd x y w,h2.symm⟩
 ·obtain⟨n,hn,h⟩:=aj h
  obtain⟨hl,h⟩:=aB h
  obtain⟨e,he,h⟩:=aj h
  obtain⟨h1,h2,h3,h4,h5⟩:=agW hn
  obtain⟨us,e1,r1⟩:=ex
  obtain⟨vs,e2,r2⟩:=ey
  obtain⟨ns,ms,rfl,rfl,l1,l2,rfl⟩:=Pk he r1 r2
  rw [e1,e2]
  have hr:=Mk (P:=P) w (P.fieldsOf t).toList 0 ns ms (ns.map (Value.int .i64)).toArray (ms.map (Value.int .i64)).toArray h2 (by simp) (by simp) (by omega) (by omega)
  have hg:=run_eqGuard_agg (P:=P) w op t x y (ns.map (Value.int .i64)).toArray (ms.map (Value.int .i64)).toArray h4
  cases op<;>simp only [agy]at h<;>first|(cases h;done)|(injection h with h;subst h)
  ·exact⟨_,by rw [Sem.run_bind,hg,Result.andThen_ok,run_eql_struct,run_equalIn_agg w 9999 t _ _ h1 h3,hr];rfl,rfl⟩
  ·exact⟨_,by rw [Sem.run_bind,hg,Result.andThen_ok,run_neq_struct,run_equalIn_agg w 9999 t _ _ h1 h3,hr];rfl,rfl⟩
 ·cases h
theorem agX {o:Oper}{op:BinOp}{t t':TypeId}{x y:Operand}(ho:o.op= .binOp op t x y t')(hd':fO c.n o.dst=true){vx vy v:V}(hx:s.ev x=some vx)(hy:s.ev y=some vy)(h:bin P t op vx vy=some v):
  Step P c o s (s.put o.dst v):=jq hd' fun _ _ _ A=>YV ho hx hy h A
theorem aiR {o:Oper}{op:UnOp}{t:TypeId}{x:Operand}(ho:o.op= .unOp op t x)(hd':fO c.n o.dst=true){vx v:V}(hx:s.ev x=some vx)(h:un op vx=some v):
  Step P c o s (s.put o.dst v):=jq hd' fun yy a w A=>by
 have ex:=A.ev hx
 unfold un at h
 split at h
 ·split at h
  ·injection h with h;subst h
   exact⟨_,by unfold execOp;simp only [ho,show a.eval x=_ from ex];simp [Op.unary,Op.intArith],rfl⟩
  ·cases h
 ·split at h
  ·injection h with h;subst h
   exact⟨_,by unfold execOp;simp only [ho,show a.eval x=_ from ex];simp [Op.unary],rfl⟩
  ·cases h
 ·cases h
theorem WT {o:Oper}{x:Operand}{i:Nat}(ho:o.op= .extract x i)(hd':fO c.n o.dst=true){vx v:V}(hx:s.ev x=some vx)(h:Q0 i vx=some v):Step P c o s (s.put o.dst v):=jq hd' fun yy a w A=>by
 have ex:=A.ev hx
 unfold Q0 at h
 split at h
 ·obtain⟨us',e1,e2⟩:=ex
  obtain⟨u,h1,h2⟩:=e2.get h
  exact⟨u,by unfold execOp;simp only [ho,e1];simp [Instr.extract,h1],h2⟩
 ·cases h
theorem Ue {o:Oper}{x:Operand}(ho:o.op= .nilCheck x)(hd':fO c.n o.dst=true){vx v:V}(hx:s.ev x=some vx)(h:O7 vx=some v):Step P c o s (s.put o.dst v):=jq hd' fun yy a w A=>by
 have ex:=A.ev hx
 unfold O7 at h
 split at h
 ·injection h with h;subst h
  exact⟨_,by unfold execOp;simp only [ho,show a.eval x=_ from ex.2];rfl,ex.1,rfl⟩
 ·injection h with h;subst h
  obtain⟨ub,h1,g,q,n,cc,h2,h3,h4⟩:=ex
  exact⟨_,by unfold execOp;simp only [ho,h4];rfl,ub,h1,g,q,n,cc,h2,h3,rfl⟩
 ·cases h
end
section
variable {P:Program}
theorem Ob {t:TypeId}{g:Bool}(h:oN P t=some g):∃d,P.underlying t=some d∧sG d=g:=by
 obtain⟨d,h1,h2⟩:=aj h
 injection h2 with h2
 exact⟨d,h1,h2⟩
theorem YW {d:TypeDesc}(h:sG d=true):d.isRow=true:=by cases d<;>simp_all [sG]
theorem aec {t:TypeId}{d:TypeDesc}(h:P.underlying t=some d):∃i,P.info? t=some i:=by
 unfold Program.underlying at h
 cases e:P.info? t with
 | none=>rw [e]at h;cases h
 | some i=>exact⟨i,rfl⟩
theorem aed {t:TypeId}{d:TypeDesc}(h:P.underlying t=some d):(P.info? t).map (·.size)=some (P.cellsOf t):=by
 obtain⟨i,e⟩:=aec h
 unfold Program.cellsOf;rw [e];rfl
theorem Kw (w:World)(b o:Nat)(t:TypeId)(d:TypeDesc)(u:Value)(hu:P.underlying t=some d)(hd:sG d=false)(hc:w.cell? ⟨b,o,none⟩=some u):
  (Instr.loadAt t (.pointer (some ⟨b,o,none⟩))).run P w= .ok u w:=by
 have hagg:(isAgg t).run P w= .ok false w:=by
  unfold isAgg
  rw [Sem.run_bind,run_underlying hu w]
  cases d<;>simp_all [sG]
 simp [Instr.loadAt,Instr.sureAddr,loadVar,Sem.run_bind,hagg,load,Sem.run,hc]
end
section
variable {P:Program} {c:Ctx} {s:S} {y:Lay} {a:Act} {w:World}
theorem At.kw (A:At c s y a w):∀b o,c.K b o→w.heap[b]?=some o:=c.hK w (St.rW (St.rW (St.rW A.st)))
theorem At.zw (A:At c s y a w):∀b o,(aX c s y).Z b o→w.heap[b]?=some o:=by
 intro b o ⟨p,hp,hb,ho⟩
 obtain⟨x,hx,rfl⟩:=List.mem_map.1 hp
 have:kZ (y.w0 x.1) (y.F x.1)∈iA y.w0 y.F s.dJ++c.L:=List.mem_append_left _ (List.mem_map.2 ⟨x,hx,rfl⟩)
 rw [(St.rW (St.rW A.st)).WM this b hb];exact ho
theorem At.aee (A:At c s y a w){b:Nat}{cs:List V}(h:look b s.box=some cs):w.heap[y.bl b]?=some (.cells (y.us b) (y.T b) (0,0))∧jC (aX c s y) cs (y.us b).toList:=by
 have m:=fI h
 exact⟨A.st.Oa (List.mem_append_left _ (List.mem_map.2 ⟨(b,cs),m,rfl⟩)),A.box b cs m⟩
theorem At.DI (A:At c s y a w){p:Nat}{rows:List (List D)}(h:look p s.tree=some rows):∃F,kH w rows (y.hd p) F:=
 A.st.aea (List.mem_append_right _ (List.mem_append_left _ (List.mem_map.2 ⟨(p,rows),fI h,rfl⟩)))
theorem At.agY (A:At c s y a w){p:Nat}{rows:List (List D)}(h:look p s.dJ=some rows):sw (aX c s y).Z (.l rows) (y.hd p).v:=by
 have m:=fI h
 exact(A.dJ p rows m).own.rd fun b hb o e=>⟨p,List.mem_map.2 ⟨(p,rows),m,rfl⟩,hb,e⟩
theorem At.apart (A:At c s y a w){p:Nat}{r1 r2:List (List D)}(h1:look p s.tree=some r1)(h2:look p s.dJ=some r2):False:=by
 have n:=A.nt
 rw [List.map_append,List.nodup_append]at n
 exact n.2.2 p (List.mem_map.2 ⟨(p,r1),fI h1,rfl⟩) p (List.mem_map.2 ⟨(p,r2),fI h2,rfl⟩) rfl
theorem kH.inner {w:World}{rows:List (List D)}{h:Hd}{F:List Nat}(t:kH w rows h F){i j:Nat}{r:List D}{rs:List (List D)}(hi:rows[i]?=some r)(hj:r[j]?=some (.l rs)):∃F',oQ w (.l rs) (h.cv (i*r.length+j)) F'∧∀b∈F',b∈F:=by
 have o:=t.own
 have hd:=t.hd
 generalize h.v=u at o hd
 cases o with
 | nil=>simp at hi
 | l _ n c g ob k T cs us fs h1 h2 h3 h4 h5 h6 h0 h7 h8 h9=>
  have hk:r.length=k:=h5 r (List.mem_of_getElem? hi)
  have f:=flat_get rows i j r _ h5 hi hj
  have e:=hd g ob n c cs T (0,0) _ rs rfl h7 f
  rw [h8 _ _ f]at e
  injection e with e
  rw [hk,←e]
  exact⟨fs (i*k+j),h9 _ _ f,fun b hb=>List.mem_cons_of_mem _ (List.mem_flatMap.2 ⟨_,List.mem_range.2 (List.getElem?_eq_some_iff.1 f).1,hb⟩)⟩
theorem K5 {d:D}{rs:List (List D)}(h:LQ d=some rs):d= .l rs:=by
 cases d<;>simp only [LQ]at h
 ·cases h
 ·injection h with h;rw [h]
 ·cases h
theorem Ml {s:S}{p i j k:Nat}{rs:List (List D)}(h:s.rows (.inn p i j k)=some rs):∃rows r,look p s.tree=some rows∧rows[i]?=some r∧r.length=k∧r[j]?=some (.l rs):=by
 simp only [S.rows]at h
 obtain⟨rows,h1,h⟩:=aj h
 obtain⟨r,h2,h⟩:=aj h
 obtain⟨h3,h⟩:=aB h
 obtain⟨d,h4,h⟩:=aj h
 rw [K5 h]at h4
 exact⟨rows,r,h1,h2,h3,h4⟩
theorem At.ajW (A:At c s y a w){p i j k:Nat}{u:Value}{rs:List (List D)}(hv:RV (aX c s y) (.inn p i j k) u)(h:s.rows (.inn p i j k)=some rs):∃F,oQ w (.l rs) u F:=by
 obtain⟨rows,r,h1,h2,h3,h4⟩:=Ml h
 obtain⟨F,t⟩:=A.DI h1
 obtain⟨F',o,_⟩:=t.inner h2 h4
 rw [h3]at o
 rw [show u=_ from hv.2.1]
 exact⟨F',o⟩
theorem At.rows (A:At c s y a w){v:V}{u:Value}{rows:List (List D)}(hv:RV (aX c s y) v u)(h:s.rows v=some rows):sw (eG w) (.l rows) u:=by
 have h9:=h
 cases v<;>simp only [S.rows]at h<;>try (cases h;done)
 case inn p i j k=>
  obtain⟨F,o⟩:=A.ajW hv h9
  exact o.rd fun _ _ _ e=>e
 case nil=>injection h with h;subst h;rw [show u=_ from hv];exact .nil none 0 (by omega) (fun _=>rfl)
 case aM o r=>injection h with h;subst h;exact hv.1.mono A.kw
 case fz r=>injection h with h;subst h;exact sw.mono hv A.zw
 case own p=>
  rw [show u=_ from hv.2]
  cases e:look p s.tree with
  | some r=>
   rw [e]at h;simp only [lT]at h;injection h with h;subst h
   obtain⟨F,o⟩:=A.DI e
   exact o.own.rd fun _ _ _ e=>e
  | none=>
   rw [e]at h;simp only [lT]at h
   exact(A.agY h).mono A.zw
theorem At.aef (A:At c s y a w){base:V}{ub:Value}{rows:List (List D)}{i:Nat}{r:List D}(hv:RV (aX c s y) base ub)(h:s.rows base=some rows)(hi:rows[i]?=some r):
  ∃cc b o T fr cs,ub= .slice (some ⟨b,o,none⟩) rows.length cc∧w.heap[b]?=some (.cells cs T fr)∧∀(j:Nat) (d:D) (v:V),r[j]?=some d→s.under base r.length i j d=some v→∃u,cs[o+(i*r.length+j)]?=some u∧RV (aX c s y) v u:=by
 have h9:=h
 cases base<;>simp only [S.rows]at h<;>try (cases h;done)
 case inn p i2 j2 k2=>
  obtain⟨F,o'⟩:=A.ajW hv h9
  obtain⟨cc,b,o,T,fr,cs,h1,h2,h3⟩:=(o'.rd (G:=eG w) fun _ _ _ e=>e).at_ hi
  refine⟨cc,b,o,T,fr,cs,h1,h2,fun j d v e1 e2=>?_⟩
  obtain⟨u,hu,hd⟩:=h3 j d e1
  refine⟨u,hu,?_⟩
  cases d<;>simp only [S.under]at e2<;>try (cases e2;done)
  injection e2 with e2;subst e2;exact hd.atom
 case nil=>injection h with h;subst h;simp at hi
 case aM o' r'=>
  injection h with h;subst h
  obtain⟨cc,b,o,T,fr,cs,h1,h2,h3⟩:=hv.1.at_ hi
  refine⟨cc,b,o,T,fr,cs,h1,A.kw _ _ h2,fun j d v e1 e2=>?_⟩
  obtain⟨u,hu,hd⟩:=h3 j d e1
  refine⟨u,hu,?_⟩
  cases d<;>simp only [S.under]at e2<;>(try (cases e2;done))<;>(injection e2 with e2;subst e2)
  ·exact hd.atom
  ·exact⟨hd,fun j h=>by cases h⟩
 case fz r'=>
  injection h with h;subst h
  obtain⟨cc,b,o,T,fr,cs,h1,h2,h3⟩:=sw.at_ hv hi
  refine⟨cc,b,o,T,fr,cs,h1,A.zw _ _ h2,fun j d v e1 e2=>?_⟩
  obtain⟨u,hu,hd⟩:=h3 j d e1
  refine⟨u,hu,?_⟩
  cases d<;>simp only [S.under]at e2<;>(try (cases e2;done))<;>(injection e2 with e2;subst e2)
  ·exact hd.atom
  ·exact hd
 case own p=>
  rw [show ub=_ from hv.2]
  cases e:look p s.tree with
  | some r'=>
   rw [e]at h;simp only [lT]at h;injection h with h;subst h
   obtain⟨F,tr⟩:=A.DI e
   obtain⟨cc,b,o,T,fr,cs,h1,h2,h3⟩:=(tr.own.rd (G:=eG w) fun _ _ _ e=>e).at_ hi
   refine⟨cc,b,o,T,fr,cs,h1,h2,fun j d v e1 e2=>?_⟩
   obtain⟨u,hu,hd⟩:=h3 j d e1
   refine⟨u,hu,?_⟩
   cases d<;>simp only [S.under]at e2
   ·injection e2 with e2;subst e2;exact hd.atom
   ·cases e5:look p s.dJ with
    | some r2=>exact(A.apart e e5).elim
    | none=>
     rw [e5]at e2;simp only [D8]at e2
     injection e2 with e2;subst e2
     refine⟨by show p∈(s.tree++s.dJ).map (·.1);rw [List.map_append,List.mem_append];exact .inl (List.mem_map.2 ⟨_,fI e,rfl⟩),?_⟩
     suffices hh:u=(y.hd p).cv (i*r.length+j)from⟨hh,by obtain⟨A0,c0,e0,_⟩:=hd.len;rw [e0];rfl⟩
     have hk:∀r2∈r',r2.length=r.length:=by
      have:=tr.own
      rw [show (y.hd p).v=_ from h1]at this
      cases this with
      | nil=>simp at hi
      | l _ _ _ _ _ k2 T2 cs2 us2 fs2 a1 a2 a3 a4 a5=>exact fun r2 hr2=>(a5 r2 hr2).trans (a5 r (List.mem_of_getElem? hi)).symm
     have f:=flat_get r' i j r _ hk hi e1
     have:=tr.hd b _ _ cc cs T fr _ _ h1 h2 f
     rw [hu]at this;injection this
   ·cases e2
  | none=>
   rw [e]at h;simp only [lT]at h
   obtain⟨cc,b,o,T,fr,cs,h1,h2,h3⟩:=(A.agY h).at_ hi
   refine⟨cc,b,o,T,fr,cs,h1,A.zw _ _ h2,fun j d v e1 e2=>?_⟩
   obtain⟨u,hu,hd⟩:=h3 j d e1
   refine⟨u,hu,?_⟩
   cases d<;>simp only [S.under]at e2
   ·injection e2 with e2;subst e2;exact hd.atom
   ·rw [h]at e2;simp only [D8]at e2;injection e2 with e2;subst e2;exact hd
   ·cases e2
theorem Pn {α β:Type}{f:α→Option β}:∀{l:List α} {r:List β},bH f l=some r→r.length=l.length∧∀(i:Nat) (x:α),l[i]?=some x→∃z,r[i]?=some z∧f x=some z
 | [],r,h=>by simp only [bH]at h;injection h with h;subst h;exact⟨rfl,fun i x e=>by simp at e⟩
 | x::l,r,h=>by
  simp only [bH]at h
  obtain⟨z,h1,h⟩:=aj h
  obtain⟨q,h2,h⟩:=aj h
  injection h with h;subst h
  obtain⟨k1,k2⟩:=Pn h2
  refine⟨by rw [List.length_cons,List.length_cons,k1],fun i x' e=>?_⟩
  cases i with
  | zero=>simp at e;subst e;exact⟨z,rfl,h1⟩
  | succ i=>exact k2 i x' (by simpa using e)
theorem Rk {s:S}{base:V}{k i:Nat}:∀{l:List D} {j:Nat} {r:List V},vB s base k i j l=some r→r.length=l.length∧∀(m:Nat) (d:D),l[m]?=some d→∃v,r[m]?=some v∧s.under base k i (j+m) d=some v
 | [],j,r,h=>by simp only [vB]at h;injection h with h;subst h;exact⟨rfl,fun m d e=>by simp at e⟩
 | x::l,j,r,h=>by
  simp only [vB]at h
  obtain⟨z,h1,h⟩:=aj h
  obtain⟨q,h2,h⟩:=aj h
  injection h with h;subst h
  obtain⟨k1,k2⟩:=Rk h2
  refine⟨by rw [List.length_cons,List.length_cons,k1],fun m d e=>?_⟩
  cases m with
  | zero=>simp at e;subst e;exact⟨z,rfl,h1⟩
  | succ m=>
   obtain⟨v,e1,e2⟩:=k2 m d (by simpa using e)
   exact⟨v,by simpa using e1,by rw [show j+(m+1)=j+1+m by omega];exact e2⟩
theorem At.loadAt (A:At c s y a w){t:TypeId}{vx v:V}{u0:Value}(ex:RV (aX c s y) vx u0)(h:s.load P t vx=some v):∃u,(Instr.loadAt t u0).run P w= .ok u w∧RV (aX c s y) v u:=by
 have fin:∀u,(Instr.loadAt t u0).run P w= .ok u w→RV (aX c s y) v u→∃u,(Instr.loadAt t u0).run P w= .ok u w∧RV (aX c s y) v u:=fun u hr hv=>⟨u,hr,hv⟩
 cases vx<;>simp only [S.load]at h<;>try (cases h;done)
 case ref b off=>
  obtain⟨g,hg,h⟩:=aj h
  obtain⟨cs,hcs,h⟩:=aj h
  obtain⟨d,hu,hd⟩:=Ob hg
  obtain⟨hb,hv⟩:=A.aee hcs
  rw [show u0=_ from ex.2]at fin⊢
  have cell:∀i,w.cell? ⟨y.bl b,i,none⟩=(y.us b).toList[i]?:=fun i=>by rw [cell_of_row w _ i _ _ _ hb,Array.getElem?_toList]
  unfold span at h
  cases g with
  | true=>
   rw [if_pos rfl]at h
   obtain⟨hle,h⟩:=aB h
   injection h with h;subst h
   refine fin (.agg (((y.us b).toList.drop off).take (P.cellsOf t)).toArray) ?_ ⟨_,rfl,(hv.drop off).take _⟩
   refine run_loadAt_mid w _ _ t _ d (fun j u e=>?_) hu (YW hd) ?_
   ·refine(cell (off+j)).trans ?_
    rw [List.getElem?_take]at e
    split at e
    ·rw [List.getElem?_drop]at e;exact e
    ·cases e
   ·rw [aed hu,List.length_take,List.length_drop,hv.len];congr 1;omega
  | false=>
   rw [if_neg (by simp)]at h
   obtain⟨u,h1,h2⟩:=hv.get h
   exact fin u (Kw w _ _ t d u hu hd ((cell off).trans h1)) h2
 case pe base k i off=>
  obtain⟨g,hg,h⟩:=aj h
  obtain⟨rows,hrows,h⟩:=aj h
  obtain⟨r,hr,h⟩:=aj h
  obtain⟨hk,h0⟩:=aB h
  clear h
  obtain⟨d,hu,hd⟩:=Ob hg
  obtain⟨ub,e1,g',o',n',c',e2,e3,e4⟩:=ex
  obtain⟨cc,b,q,T,fr,cs,h1,h2,h3⟩:=A.aef e1 hrows hr
  rw [e2]at h1
  injection h1 with h1 _ _
  injection h1 with h1
  injection h1 with h1 h1' _
  subst h1;subst h1';subst hk
  rw [e4]at fin⊢
  have cell:∀j,w.cell? ⟨g',j,none⟩=cs[j]?:=fun j=>cell_of_row w _ j _ _ _ h2
  have h:=h0
  unfold S.Jy at h
  cases g with
  | true=>
   rw [if_pos rfl]at h
   obtain⟨hle,h⟩:=aB h
   obtain⟨vs,hvs,h⟩:=aj h
   injection h with h;subst h
   obtain⟨m1,m2⟩:=Rk hvs
   have hlen:((r.drop off).take (P.cellsOf t)).length=P.cellsOf t:=by rw [List.length_take,List.length_drop];omega
   have key:∀j,j<P.cellsOf t→∃u v,cs[o'+(i*r.length+off)+j]?=some u∧vs[j]?=some v∧RV (aX c s y) v u:=by
    intro j hj
    have hd2:((r.drop off).take (P.cellsOf t))[j]?=some (r[off+j]'(by omega)):=by
     rw [List.getElem?_take,if_pos hj,List.getElem?_drop,List.getElem?_eq_getElem]
    obtain⟨v,q1,q2⟩:=m2 j _ hd2
    obtain⟨u,q3,q4⟩:=h3 (off+j) _ v (List.getElem?_eq_getElem (by omega)) q2
    exact⟨u,v,by rw [show o'+(i*r.length+off)+j=o'+(i*r.length+(off+j)) by omega];exact q3,q1,q4⟩
   refine fin (.agg ((List.range (P.cellsOf t)).map fun j=>cs[o'+(i*r.length+off)+j]?.getD undef).toArray) ?_ ⟨_,rfl,jC.of (by simp [m1,hlen]) fun j v u w1 w2=>?_⟩
   ·refine run_loadAt_mid w _ _ t _ d (fun j u e=>?_) hu (YW hd) (by rw [aed hu];simp)
    rw [cell]
    have hj:j<P.cellsOf t:=by have:=(List.getElem?_eq_some_iff.1 e).1;simpa using this
    obtain⟨u',v',k1,k2,k3⟩:=key j hj
    rw [List.getElem?_map,List.getElem?_range hj,Option.map_some,k1]at e
    rw [k1];exact e
   ·have hj:j<P.cellsOf t:=by have:=(List.getElem?_eq_some_iff.1 w1).1;rw [m1,hlen]at this;exact this
    obtain⟨u',v',k1,k2,k3⟩:=key j hj
    rw [List.getElem?_map,List.getElem?_range hj,Option.map_some,k1]at w2
    rw [k2]at w1
    injection w1 with w1;injection w2 with w2
    subst w1
    have:u'=u:=by simpa using w2
    subst this;exact k3
  | false=>
   rw [if_neg (by simp)]at h
   obtain⟨dd,hdd,h⟩:=aj h
   obtain⟨u,q1,q2⟩:=h3 off dd v hdd h
   exact fin u (Kw w _ _ t d u hu hd (by rw [cell];exact q1)) q2
theorem Vf {o:Oper}{t:TypeId}{x:Operand}(ho:o.op= .load t x){vx v:V}(hx:s.ev x=some vx)(h:s.load P t vx=some v){yy:Lay}{a:Act}{w:World}(A:At c s yy a w):∃u,(execOp a.eval o).run P w= .ok (.value u) w∧RV (aX c s yy) v u:=by
 obtain⟨u,hr,hv⟩:=A.loadAt (A.ev hx) h
 refine⟨u,?_,hv⟩
 unfold execOp;simp only [ho];rw [Sem.run_bind,hr];rfl
theorem ae2 {o:Oper}{t:TypeId}{x:Operand}(ho:o.op= .load t x)(hd':fO c.n o.dst=true){vx v:V}(hx:s.ev x=some vx)(h:s.load P t vx=some v):Step P c o s (s.put o.dst v):=jq hd' fun _ _ _ A=>Vf ho hx h A
end
section
variable {P:Program} {c:Ctx} {s:S}
theorem Mq {ρ:Rel}{v v':V}{n:Nat}(h:yw v n=some v'){u:Value}(hu:RV ρ v u):∃b o,u= .pointer (some ⟨b,o,none⟩)∧RV ρ v' (.pointer (some ⟨b,o+n,none⟩)):=by
 unfold yw at h
 split at h
 ·injection h with h;subst h
  exact⟨_,_,hu.2,hu.1,rfl⟩
 ·injection h with h;subst h
  rename_i base k i off
  obtain⟨ub,h1,g,o,n',c',h2,h3,h4⟩:=hu
  exact⟨g,_,h4,ub,h1,g,o,n',c',h2,h3,by rw [show o+(i*k+(off+n))=o+(i*k+off)+n by omega]⟩
 ·cases h
theorem Mr {t:TypeId}{f off:Nat}{ft:TypeId}(h:bZ P t f=some (off,ft)):∃fs fd,P.underlying t=some (.struct fs)∧fs[f]?=some fd∧fd.offset=off∧fd.type=ft∧P.cellsOf ft≠0:=by
 unfold bZ at h
 obtain⟨d,h1,h⟩:=aj h
 unfold abA at h
 split at h
 ·obtain⟨fd,h2,h⟩:=aj h
  obtain⟨h3,h⟩:=aB h
  injection h with h;injection h with e1 e2
  exact⟨_,fd,h1,h2,e1,e2,by rw [←e2];exact h3⟩
 ·cases h
theorem Hr {o:Oper}{t:TypeId}{x:Operand}{f:Nat}(ho:o.op= .fieldAddr t x f){vx v:V}{q:Nat×TypeId}(hx:s.ev x=some vx)(hf:bZ P t f=some q)(h:yw vx q.1=some v){yy:Lay}{a:Act}{w:World}(A:At c s yy a w):∃u,(execOp a.eval o).run P w= .ok (.value u) w∧RV (aX c s yy) v u:=by
 obtain⟨off,ft⟩:=q
 obtain⟨fs,fd,h1,h2,h3,h4,h5⟩:=Mr hf
 obtain⟨b,oo,e1,e2⟩:=Mq h (A.ev hx)
 refine⟨_,?_,e2⟩
 have hsz:P.cellsOf fd.type≠0:=by rw [h4];exact h5
 unfold Program.cellsOf at hsz
 cases hi:P.info? fd.type with
 | none=>rw [hi]at hsz;simp at hsz
 | some i=>
  rw [hi]at hsz;simp at hsz
  unfold execOp;simp only [ho,e1]
  simp [Instr.fieldAt,run_underlying h1,h2,Instr.sureAddr,fieldPlace,sizeOf,typeInfo,hi,hsz,h3,Addr.add_mid]
theorem Rl {o:Oper}{t:TypeId}{x:Operand}{f:Nat}(ho:o.op= .fieldAddr t x f)(hd':fO c.n o.dst=true){vx v:V}{q:Nat×TypeId}(hx:s.ev x=some vx)(hf:bZ P t f=some q)(h:yw vx q.1=some v):
  Step P c o s (s.put o.dst v):=jq hd' fun _ _ _ A=>Hr ho hx hf h A
theorem E8 {t:TypeId}{e:TypeId×Option Nat}(h:lU P t=some e):(∃q,e=(q,none)∧P.underlying t=some (.slice q))∨∃q n,e=(q,some n)∧P.underlying t=some (.array n q):=by
 unfold lU at h
 obtain⟨d,h1,h⟩:=aj h
 unfold ad8 at h
 split at h
 ·injection h with h;subst h;exact .inl ⟨_,rfl,h1⟩
 ·injection h with h;subst h;exact .inr ⟨_,_,rfl,h1⟩
 ·cases h
theorem kN {t:TypeId}(h:eY P t=true)(w:World):(sizeOf t).run P w= .ok (P.cellsOf t) w:=by
 unfold eY at h
 cases hi:P.info? t with
 | none=>rw [hi]at h;cases h
 | some i=>simp [sizeOf,typeInfo,hi,Program.cellsOf]
theorem Ht {o:Oper}{t:TypeId}{x i:Operand}(ho:o.op= .indexAddr t x i){vx vi v:V}{n:Int}{e:TypeId×Option Nat}(hx:s.ev x=some vx)(hi:s.ev i=some vi)(hn:idxOf vi=some n)(he:lU P t=some e)
  (h:lq P s vx n e.1 e.2=some v) {yy:Lay} {a:Act} {w:World} (A:At c s yy a w):∃u,(execOp a.eval o).run P w= .ok (.value u) w∧RV (aX c s yy) v u:=by
 obtain⟨k,rfl⟩:=yE hn
 have hn:k=k:=rfl
 have ei:a.eval i= .int k n:=by have:=A.ev hi;rw [show idxOf (.v (.int k n))=some n from rfl]at *;exact this
 have ex:=A.ev hx
 rcases E8 he with⟨q,rfl,hu⟩|⟨q,m,rfl,hu⟩
 ·simp only [lq]at h
  obtain⟨rows,hr,h⟩:=aj h
  obtain⟨⟨hz,h0,h1⟩,h⟩:=aB h
  injection h with h;subst h
  obtain⟨A',cc,e1,e2,e3,e4⟩:=(A.rows ex hr).len
  have hlt:n.toNat<rows.length:=by omega
  obtain⟨r,hrr⟩:∃r,rows[n.toNat]?=some r:=⟨_,List.getElem?_eq_getElem hlt⟩
  obtain⟨c2,b,oo,T,fr,cs,k1,k2,k3⟩:=A.aef ex hr hrr
  have ha:A'=some ⟨b,oo,none⟩:=by rw [e1]at k1;injection k1
  refine⟨.pointer (some ⟨b,oo+(n.toNat*P.cellsOf q+0),none⟩),?_,_,ex,b,oo,rows.length,cc,by rw [e1,ha],hlt,rfl⟩
  unfold execOp;simp only [ho,ei,e1,ha]
  simp [Instr.indexAt,asIntOf,run_underlying hu,h0,h1,kN hz,Addr.add_mid]
 ·simp only [lq]at h
  obtain⟨⟨hz,h0,h1⟩,h⟩:=aB h
  obtain⟨b,oo,e1,e2⟩:=Mq h ex
  refine⟨_,?_,e2⟩
  unfold execOp;simp only [ho,ei,e1]
  simp [Instr.indexAt,asIntOf,run_underlying hu,h0,h1,kN hz,Addr.add_mid,Instr.sureAddr]
theorem Rm {o:Oper}{t:TypeId}{x i:Operand}(ho:o.op= .indexAddr t x i)(hd':fO c.n o.dst=true){vx vi v:V}{n:Int}{e:TypeId×Option Nat}(hx:s.ev x=some vx)(hi:s.ev i=some vi)(hn:idxOf vi=some n)(he:lU P t=some e)
  (h:lq P s vx n e.1 e.2=some v):Step P c o s (s.put o.dst v):=jq hd' fun _ _ _ A=>Ht ho hx hi hn he h A
theorem Rn {ρ:Rel}{cs:List V}{us:List Value}{off:Nat}{t:TypeId}{g:Bool}{v:V}(hv:jC ρ cs us)(hg:oN P t=some g)(h:span cs off (P.cellsOf t) g=some v)(w:World):∃u,(part t us.toArray off).run P w= .ok u w∧RV ρ v u:=by
 obtain⟨d,hu,hd⟩:=Ob hg
 obtain⟨i,hi⟩:=aec hu
 unfold span at h
 have hagg:(isAgg t).run P w= .ok g w:=by
  unfold isAgg
  rw [Sem.run_bind,run_underlying hu w]
  cases d<;>simp_all [sG]
 cases g with
 | true=>
  rw [if_pos rfl]at h
  obtain⟨hle,h⟩:=aB h
  injection h with h;subst h
  refine⟨.agg (us.toArray.extract off (off+P.cellsOf t)),?_,((us.drop off).take (P.cellsOf t)),?_,(hv.drop off).take _⟩
  ·simp [part,hagg,sizeOf,typeInfo,hi,Program.cellsOf]
  ·first|rfl|simp
 | false=>
  rw [if_neg (by simp)]at h
  obtain⟨u,h1,h2⟩:=hv.get h
  exact⟨u,by simp [part,hagg,h1],h2⟩
theorem abH {o:Oper}{t:TypeId}{x:Operand}{f:Nat}(ho:o.op= .field t x f)(hd':fO c.n o.dst=true){cs:List V}{v:V}{q:Nat×TypeId}{g:Bool}(hx:s.ev x=some (.agg cs))(hf:bZ P t f=some q)(hg:oN P q.2=some g)(h:span cs q.1 (P.cellsOf q.2) g=some v):
  Step P c o s (s.put o.dst v):=jq hd' fun yy a w A=>by
 obtain⟨off,ft⟩:=q
 obtain⟨fs,fd,h1,h2,h3,h4,h5⟩:=Mr hf
 obtain⟨us,e1,e2⟩:=A.ev hx
 obtain⟨u,k1,k2⟩:=Rn (P:=P) e2 hg h w
 refine⟨u,?_,k2⟩
 unfold execOp;simp only [ho,e1]
 simp only at k1
 simp [Instr.field,run_underlying h1,h2,asAgg,h3,h4,k1]
theorem abI {o:Oper}{t:TypeId}{x i:Operand}(ho:o.op= .index t x i)(hd':fO c.n o.dst=true){vx vi v:V}{n:Int}(hx:s.ev x=some vx)(hi:s.ev i=some vi)(hn:idxOf vi=some n)(h:GY P t vx n=some v):Step P c o s (s.put o.dst v):=jq hd' fun yy a w A=>by
 obtain⟨k,rfl⟩:=yE hn
 have ei:a.eval i= .int k n:=A.ev hi
 have ex:=A.ev hx
 unfold GY at h
 split at h
 ·rename_i b
  obtain⟨d,hu,h⟩:=aj h
  obtain⟨⟨hs,h0,h1⟩,h⟩:=aB h
  injection h with h;subst h
  have hd:d= .string:=by unfold NP at hs;split at hs<;>first|rfl|cases hs
  subst hd
  have hlt:n.toNat<b.size:=by omega
  refine⟨_,?_,rfl⟩
  unfold execOp;simp only [ho,ei,show a.eval x=_ from ex]
  have e1:b[n.toNat]?=some (b[n.toNat]'hlt):=by simp [hlt]
  have e2:b.toList[n.toNat]?=some (b[n.toNat]'hlt):=by
   rw [ByteArray.toList_eq]
   simp [hlt]
   rfl
  simp [Instr.index,asIntOf,run_underlying hu,h0,e1,e2]
 ·rename_i cs
  obtain⟨e,he,ha⟩:=aj h
  obtain⟨m,hm,hb⟩:=aj ha
  obtain⟨⟨hz,h0,h1⟩,hc⟩:=aB hb
  obtain⟨g,hg,hl⟩:=aj hc
  clear h ha hb hc
  rcases E8 he with⟨q,rfl,hu⟩|⟨q,m',rfl,hu⟩
  ·cases hm
  injection hm with hm;subst hm
  obtain⟨us,e1,e2⟩:=ex
  obtain⟨u,k1,k2⟩:=Rn (P:=P) e2 hg hl w
  refine⟨u,?_,k2⟩
  unfold execOp;simp only [ho,ei,e1]
  simp only at k1
  simp [Instr.index,asIntOf,run_underlying hu,h0,h1,kN hz,k1]
 ·cases h
theorem Vg {ρ:Rel}{d n:Int}{x:Option V}(h:WC d x=some n):(x=none∧n=d)∨∃k,x=some (.v (.int k n)):=by
 cases x with
 | none=>simp only [WC]at h;injection h with h;exact .inl ⟨rfl,h.symm⟩
 | some v=>obtain⟨k,rfl⟩:=yE h;exact .inr ⟨k,rfl⟩
theorem Ms {x:Option Operand}{v:Option V}(h:j5 s x=some v):(x=none∧v=none)∨∃y u,x=some y∧v=some u∧s.ev y=some u:=by
 cases x with
 | none=>simp only [j5]at h;injection h with h;exact .inl ⟨rfl,h.symm⟩
 | some y=>simp only [j5]at h;obtain⟨u,h1,h2⟩:=aj h;injection h2 with h2;exact .inr ⟨y,u,rfl,h2.symm,h1⟩
theorem wY {y:Lay}{a:Act}{w:World}(A:At c s y a w){lo hi:Option Operand}{vl vh:Option V}{n cap:Nat}{p:Nat×Nat}(hlo:j5 s lo=some vl)(hhi:j5 s hi=some vh)(h:bounds n vl vh=some p)(hc:n≤cap)(isS:Bool):
  p.1≤p.2∧p.2≤n∧(Instr.sliceBounds isS n cap (lo.map a.eval) (hi.map a.eval) none).run P w= .ok (p.1,p.2,cap) w:=by
 unfold bounds at h
 obtain⟨l,h1,h⟩:=aj h
 obtain⟨q,h2,h⟩:=aj h
 obtain⟨⟨h3,h4,h5⟩,h⟩:=aB h
 injection h with h;subst h
 refine⟨by simp only;omega,by simp only;omega,?_⟩
 rcases Ms hlo with⟨rfl,rfl⟩|⟨xl,ul,rfl,rfl,el⟩<;>rcases Ms hhi with⟨rfl,rfl⟩|⟨xh,uh,rfl,rfl,eh⟩<;>
  (rcases Vg (ρ:=aX c s y) h1 with⟨k1,rfl⟩|⟨kl,k1⟩<;>first|(cases k1;done)|skip)<;>
  (rcases Vg (ρ:=aX c s y) h2 with⟨k2,rfl⟩|⟨kh,k2⟩<;>first|(cases k2;done)|skip)
 ·simp [Instr.sliceBounds]
 ·injection k2 with k2;subst k2
  have e:a.eval xh= .int kh q:=A.ev eh
  simp [Instr.sliceBounds,Instr.sliceBound,e,asIntOf,show 0≤q by omega,show q≤(cap:Int) by omega]
 ·injection k1 with k1;subst k1
  have e:a.eval xl= .int kl l:=A.ev el
  simp [Instr.sliceBounds,Instr.sliceBound,e,asIntOf,h3,show l≤(n:Int) by omega]
 ·injection k1 with k1;subst k1
  injection k2 with k2;subst k2
  have e:a.eval xl= .int kl l:=A.ev el
  have e2:a.eval xh= .int kh q:=A.ev eh
  have e3:(q.toNat:Int)=q:=by omega
  simp [Instr.sliceBounds,Instr.sliceBound,e,e2,asIntOf,h3,show 0≤q by omega,show q≤(cap:Int) by omega]
  intro hh;exfalso;rw [Int.max_def]at hh;split at hh<;>omega
theorem rH {k:Nat}:∀{rows:List (List D)},wid k rows=true→∀r∈rows,r.length=k
 | [],_,r,h=>by cases h
 | x::rows,e,r,h=>by
  simp only [wid,Bool.and_eq_true,decide_eq_true_eq]at e
  rcases List.mem_cons.1 h with h|h
  ·rw [h];exact e.1.1
  ·exact rH e.2 r h
theorem WU {k:Nat}:∀{rows:List (List D)},wid k rows=true→∀r∈rows,∀d∈r,yc d=true
 | [],_,r,h=>by cases h
 | x::rows,e,r,h=>by
  simp only [wid,Bool.and_eq_true,decide_eq_true_eq]at e
  rcases List.mem_cons.1 h with h|h
  ·rw [h];exact List.all_eq_true.1 e.1.2
  ·exact WU e.2 r h
theorem YX {α:Type}{k l m i:Nat}{rows:List (List α)}{d:α}(u:∀r∈rows,r.length=k)(hl:l≤rows.length)(e:((rows.drop l).take m).flatten[i]?=some d):rows.flatten[l*k+i]?=some d:=by
 have h1:rows=rows.take l++((rows.drop l).take m++(rows.drop l).drop m):=by rw [List.take_append_drop,List.take_append_drop]
 have h2:(rows.take l).flatten.length=l*k:=by rw [ji _ (fun r h=>u r (List.mem_of_mem_take h)),List.length_take];congr 1;omega
 rw [h1,List.flatten_append,List.flatten_append,List.getElem?_append_right (by rw [h2];omega),h2,show l*k+i-l*k=i by omega,List.getElem?_append_left (List.getElem?_eq_some_iff.1 e).1]
 exact e
theorem sw.sub {G:Nat→Obj→Prop}{rows:List (List D)}{A:Option Addr}{n c k l h:Nat}(hr:sw G (.l rows) (.slice A n c))(hw:∀r∈rows,r.length=k)(h1:l≤h)(h2:h≤n):
  sw G (.l ((rows.drop l).take (h-l))) (.slice (if c=l then A else A.map (·.add (l*k))) (h-l) (c-l)):=by
 obtain⟨A',c',e1,e2,e3,e4⟩:=hr.len
 injection e1 with e1 e5 e6
 subst e1;subst e5;subst e6
 by_cases hz:h-l=0
 ·rw [hz,List.take_zero]
  refine .nil _ _ (by omega) fun hn=>?_
  by_cases hc:c=l
  ·omega
  ·rw [if_neg hc]at hn
   cases A with
   | none=>have:=e4 rfl;omega
   | some a=>cases hn
 ·cases hr with
  | nil=>simp at h2;omega
  | l _ n' c b o k' T fr cs us q1 q2 q3 q4 q5 q6 q7 q8 q9=>
   have hk:k'=k:=by
    cases rows with
    | nil=>simp at h2;omega
    | cons r rs=>rw [←q6 r (by simp),hw r (by simp)]
   subst hk
   have hcl:¬c=l:=by omega
   rw [if_neg hcl,Option.map_some,Addr.add_mid]
   have hlen:((rows.drop l).take (h-l)).length=h-l:=by rw [List.length_take,List.length_drop];omega
   refine .l _ (h-l) (c-l) b (o+l*k') k' T fr cs (fun i=>us (l*k'+i)) hlen (by omega) (by omega) (by omega) q5 (fun r hr=>q6 r (List.mem_of_mem_drop (List.mem_of_mem_take hr))) q7 (fun i d e=>?_) (fun i d e=>?_)
   ·have:=YX q6 (by omega) e
    rw [show o+l*k'+i=o+(l*k'+i) by omega]
    exact q8 _ _ this
   ·exact q9 _ _ (YX q6 (by omega) e)
theorem abJ {o:Oper}{t:TypeId}{x:Operand}{lo hi:Option Operand}(ho:o.op= .slice t x lo hi none)(hd':fO c.n o.dst=true){vx v:V}{vl vh:Option V}{d:TypeDesc}(hx:s.ev x=some vx)(hlo:j5 s lo=some vl)(hhi:j5 s hi=some vh)(hu:P.underlying t=some d)
  (h:qK P s vx vl vh d=some v):Step P c o s (s.put o.dst v):=jq hd' fun yy a w A=>by
 have ex:=A.ev hx
 unfold qK at h
 split at h
 ·unfold LU at h
  split at h
  ·rename_i b
   obtain⟨p,hp,h⟩:=aj h
   injection h with h;subst h
   obtain⟨_,_,hb⟩:=wY (P:=P) A hlo hhi hp (Nat.le_refl _) false
   refine⟨_,?_,rfl⟩
   unfold execOp;simp only [ho,show a.eval x=_ from ex]
   simp [Instr.sliceAt,Instr.slice,run_underlying hu,hb]
  ·cases h
 ·rename_i e
  obtain⟨hz,h2⟩:=aB h
  clear h
  have h:=h2
  clear h2
  have key:∀(rows:List (List D)) (p:Nat×Nat) (u:Value),a.eval x=u→sw (eG w) (.l rows) u→bounds rows.length vl vh=some p→∃A' n' c',u= .slice A' n' c'∧p.1≤p.2∧p.2≤n'∧
    (execOp a.eval o).run P w= .ok (.value (.slice (if c'=p.1 then A' else A'.map (·.add (p.1*P.cellsOf e))) (p.2-p.1) (c'-p.1))) w:=by
   intro rows p u hu' hr hp
   obtain⟨A',c',e1,e2,e3,e4⟩:=hr.len
   obtain⟨b1,b2,hb⟩:=wY (P:=P) A hlo hhi hp e2 true
   refine⟨A',_,c',e1,b1,b2,?_⟩
   unfold execOp;simp only [ho,hu',e1]
   simp [Instr.sliceAt,Instr.slice,run_underlying hu,hb,kN hz]
  unfold ES at h
  split at h
  ·obtain⟨p,hp,h⟩:=aj h
   injection h with h;subst h
   obtain⟨A',n',c',e1,b1,b2,hr⟩:=key [] p _ rfl (A.rows ex rfl) hp
   rw [show a.eval x=_ from ex]at e1
   injection e1 with e1 e2 e3
   subst e1;subst e2;subst e3
   refine⟨_,hr,?_⟩
   have:p.1=0:=by omega
   have h2:p.2=0:=by omega
   rw [this,h2];simp;rfl
  ·rename_i o' rows
   unfold cutV at h
   obtain⟨p,hp,h⟩:=aj h
   obtain⟨hw,h⟩:=aB h
   injection h with h;subst h
   obtain⟨A',n',c',e1,b1,b2,hr⟩:=key rows p _ rfl (A.rows ex rfl) hp
   refine⟨_,hr,?_,fun j h=>by cases h⟩
   have e3:=ex.1
   rw [e1]at e3
   exact e3.sub (rH hw) b1 b2
  ·rename_i rows
   unfold cutV at h
   obtain⟨p,hp,h⟩:=aj h
   obtain⟨hw,h⟩:=aB h
   injection h with h;subst h
   obtain⟨A',n',c',e1,b1,b2,hr⟩:=key rows p _ rfl (A.rows ex rfl) hp
   refine⟨_,hr,?_⟩
   have e3:sw _ _ _:=ex
   rw [e1]at e3
   exact e3.sub (rH hw) b1 b2
  ·rename_i q
   obtain⟨rows,hq,h⟩:=aj h
   unfold cutV at h
   obtain⟨p,hp,h⟩:=aj h
   obtain⟨hw,h⟩:=aB h
   injection h with h;subst h
   have e3:=A.agY hq
   obtain⟨A',n',c',e1,b1,b2,hr⟩:=key rows p _ ex.2 (e3.mono A.zw) hp
   refine⟨_,hr,?_⟩
   have e1:(yy.hd q).v=_:=e1
   rw [e1]at e3
   exact e3.sub (rH hw) b1 b2
  ·cases h
 ·cases h
end
section
variable {P:Program} {c:Ctx} {s:S}
theorem Ql {r:List D}{b:UInt8}(h:qL r=some b):∃n:Int,r= [.a (.int .u8 n)]∧b=UInt8.ofNat n.toNat:=by
 unfold qL at h
 split at h
 ·injection h with h;exact⟨_,rfl,h.symm⟩
 ·cases h
theorem ae3 (l:List Int):∀(r:ByteArray),l.foldl (fun r n=>r.push (UInt8.ofNat n.toNat)) r=⟨r.data++(l.map fun n=>UInt8.ofNat n.toNat).toArray⟩:=by
 induction l with
 | nil=>intro r;simp
 | cons x l ih=>intro r;rw [List.foldl_cons,ih];simp [ByteArray.push]
theorem abK {rows:List (List D)}{l:List UInt8}(h:bH qL rows=some l):∃ns:List Int,rows=ns.map (fun n=> [.a (.int .u8 n)])∧l=ns.map fun n=>UInt8.ofNat n.toNat:=by
 induction rows generalizing l with
 | nil=>simp only [bH]at h;injection h with h;exact⟨[],rfl,h.symm⟩
 | cons r rows ih=>
  simp only [bH]at h
  obtain⟨b,h1,h⟩:=aj h
  obtain⟨q,h2,h⟩:=aj h
  injection h with h
  obtain⟨n,rfl,rfl⟩:=Ql h1
  obtain⟨ns,rfl,rfl⟩:=ih h2
  exact⟨n::ns,rfl,h.symm⟩
theorem YZ {w:World}{rows:List (List D)}{l:List UInt8}{u:Value}(hr:sw (eG w) (.l rows) u)(h:bH qL rows=some l):(Conv.bytesToString u).run P w= .ok (.string ⟨l.toArray⟩) w:=by
 obtain⟨ns,hrows,rfl⟩:=abK h
 clear h
 cases hr with
 | nil A c h1 h2=>
  obtain rfl:ns= []:=by cases ns with|nil=>rfl|cons=>simp at hrows
  cases A with
  | none=>simp [Conv.bytesToString];rfl
  | some a=>
   have:=run_bytesToString (P:=P) w a 0 c [] (by simp [loadCells,loadCellsFrom])
   rw [this];simp;rfl
 | l _ n c b o k T fr cs us q1 q2 q3 q4 q5 q6 q7 q8 q9=>
  subst hrows
  have hk:k=1:=by
   cases ns with
   | nil=>simp at q1;omega
   | cons x ns=>exact(q6 [.a (.int .u8 x)] (by simp)).symm
  subst hk
  have hn:n=ns.length:=by rw [←q1,List.length_map]
  have hl:(loadCells ⟨b,o,none⟩ n).run P w= .ok (ns.map (Value.int .u8)).toArray w:=by
   have:=run_loadCells_list (P:=P) w ⟨b,o,none⟩ (ns.map (Value.int .u8)) (fun j v hv=>?_)
   ·rw [List.length_map,←hn]at this;exact this
   ·rw [Addr.add_mid,cell_of_row w b _ cs T fr q7]
    rw [List.getElem?_map]at hv
    obtain⟨x,hx,rfl⟩:=Option.map_eq_some_iff.1 hv
    have e:(ns.map (fun n=> [D.a (.int .u8 n)])).flatten[j]?=some (.a (.int .u8 x)):=by
     have:=flat_get (k:=1) (ns.map (fun n=> [D.a (.int .u8 n)])) j 0 [.a (.int .u8 x)] (.a (.int .u8 x)) q6 (by rw [List.getElem?_map,hx];rfl) rfl
     rw [show j*1+0=j by omega]at this;exact this
    rw [q8 _ _ e,(q9 _ _ e).atom]
  rw [run_bytesToString (P:=P) w _ n c ns hl,ae3]
  simp
theorem WV {o:Oper}{t0 t:TypeId}{x:Operand}(ho:o.op= .convert t0 t x)(hd':fO c.n o.dst=true){vx v:V}{d0 d:TypeDesc}(hx:s.ev x=some vx)(h0:P.underlying t0=some d0)(h1:P.underlying t=some d)(h:wW P s vx d0 d=some v):
  Step P c o s (s.put o.dst v):=jq hd' fun yy a w A=>by
 have ex:=A.ev hx
 have fin:∀u,(convert t0 t (a.eval x)).run P w= .ok u w→RV (aX c s yy) v u→∃u,(execOp a.eval o).run P w= .ok (.value u) w∧RV (aX c s yy) v u:=by
  intro u hr hv
  refine⟨u,?_,hv⟩
  unfold execOp;simp only [ho];rw [Sem.run_bind,hr];rfl
 have bytes:yx P s vx d0=some v→d= .string→(∀u,a.eval x=u→(∃A n c,u= .slice A n c))→∃u,(execOp a.eval o).run P w= .ok (.value u) w∧RV (aX c s yy) v u:=by
  intro hb hd hsl
  subst hd
  unfold yx at hb
  obtain⟨e,he,hb⟩:=aj hb
  obtain⟨de,hde,hb⟩:=aj hb
  obtain⟨hby,hb⟩:=aB hb
  obtain⟨rows,hrows,hb⟩:=aj hb
  obtain⟨l,hl,hb⟩:=aj hb
  injection hb with hb;subst hb
  have akk:de= .int .u8:=by unfold EW at hby;split at hby<;>first|rfl|cases hby
  subst akk
  have hd0:d0= .slice e:=by unfold iV at he;split at he<;>first|(injection he with he;subst he;rfl)|cases he
  subst hd0
  have hr:=YZ (P:=P) (A.rows ex hrows) hl
  obtain⟨A',n',c',hu⟩:=hsl _ rfl
  refine fin _ ?_ rfl
  rw [hu]at hr⊢
  simp [convert,run_underlying h0,run_underlying h1,run_underlying hde,hr]
 unfold wW at h
 split at h
 ·obtain⟨n,hn,h⟩:=aj h
  injection h with h;subst h
  obtain⟨k,rfl⟩:=yE hn
  refine fin _ ?_ rfl
  rw [show a.eval x=_ from ex]
  simp [convert,run_underlying h0,run_underlying h1,Conv.intToInt]
 ·split at h
  ·injection h with h;subst h
   refine fin _ ?_ rfl
   rw [show a.eval x=_ from ex]
   simp [convert,run_underlying h0,run_underlying h1]
  ·cases h
  ·refine bytes h rfl fun u hu=>?_
   have h2:=h
   unfold yx at h2
   obtain⟨e,he,h2⟩:=aj h2
   obtain⟨de,hde,h2⟩:=aj h2
   obtain⟨hby,h2⟩:=aB h2
   obtain⟨rows,hrows,h2⟩:=aj h2
   obtain⟨A',c',e1, -⟩:=(A.rows ex hrows).len
   exact⟨A',_,c',by rw [←hu];exact e1⟩
 ·cases h
end
def dQ {α:Type}(f:Nat→α)(k:Nat)(x:α):Nat→α:=fun j=>if j=k then x else f j
theorem dR {α:Type}(f:Nat→α)(k:Nat)(x:α):dQ f k x k=x:=if_pos rfl
theorem fU {α:Type}(f:Nat→α){k j:Nat}(x:α)(h:j≠k):dQ f k x j=f j:=if_neg h
theorem nY {α:Type}{x:Option α}(h:x.isNone=true):x=none:=by cases x with|none=>rfl|some=>cases h
theorem Ro {x:Value}(h:x.oneCell'=true):x.cells= #[x]:=by cases x<;>first|rfl|cases h
section
variable {P:Program} {c:Ctx} {s:S} {y:Lay} {a:Act} {w:World}
theorem At.aiS (A:At c s y a w){p:Nat}(h:p∈(s.tree++s.dJ).map (·.1)):∃B n k,(y.hd p).v= .slice B n k:=by
 obtain⟨⟨q,rows⟩,hx,rfl⟩:=List.mem_map.1 h
 rcases List.mem_append.1 hx with hx|hx
 ·obtain⟨F,o⟩:=A.st.aea (List.mem_append_right _ (List.mem_append_left _ (List.mem_map.2 ⟨_,hx,rfl⟩)))
  obtain⟨B,k,e,_⟩:=(o.own.rd (G:=eG w) fun _ _ _ e=>e).len
  exact⟨_,_,_,e⟩
 ·obtain⟨B,k,e,_⟩:=((A.dJ _ _ hx).own.rd (G:=eG (y.w0 q)) fun _ _ _ e=>e).len
  exact⟨_,_,_,e⟩
theorem At.one (A:At c s y a w){v:V}{u:Value}(h:RV (aX c s y) v u)(o:v.one=true):u.oneCell'=true:=by
 cases v with
 | v x=>rw [show u=x from h];exact o
 | nil=>rw [show u=_ from h];rfl
 | aM o' rows=>obtain⟨B,k,e,_⟩:=h.1.len;rw [e];rfl
 | own p=>obtain⟨B,n,k,e⟩:=A.aiS h.1;rw [h.2,show((aX c s y).hd p).v=_ from e];rfl
 | inn p i j k=>exact h.2.2
 | fz rows=>obtain⟨B,k,e,_⟩:=sw.len (show sw _ (.l rows) u from h);rw [e];rfl
 | ref b off=>rw [h.2];rfl
 | pe base k i off=>obtain⟨ub,_,g,q,n,cc,_,_,e⟩:=h;rw [e];rfl
 | agg cs=>cases o
 | fT cs=>cases o
 | fn f cs=>obtain⟨us,e,_⟩:=h;rw [e];rfl
 | mp es=>obtain⟨b,_,_,e,_⟩:=h;rw [e];rfl
 | dead=>cases o
theorem At.cells (A:At c s y a w){v:V}{u:Value}(h:RV (aX c s y) v u)(o:v.cells.all V.one=true):jC (aX c s y) v.cells u.cells.toList∧∀x∈u.cells.toList,x.oneCell'=true:=by
 by_cases hv:∃cs,v= .agg cs
 ·obtain⟨cs,rfl⟩:=hv
  obtain⟨us,rfl,hs⟩:=h
  refine⟨by simpa [V.cells,Value.cells] using hs,fun x hx=>?_⟩
  have hx:x∈us:=by simpa [Value.cells] using hx
  obtain⟨i,e⟩:=List.getElem?_of_mem hx
  have hl:=hs.len
  have hi:i<cs.length:=by rw [←hl];exact(List.getElem?_eq_some_iff.1 e).1
  obtain⟨u',e1,e2⟩:=hs.get (List.getElem?_eq_getElem hi)
  rw [e]at e1;injection e1 with e1;subst e1
  exact A.one e2 (List.all_eq_true.1 o _ (List.getElem_mem hi))
 ·have hc:v.cells= [v]:=by cases v<;>first|rfl|exact absurd ⟨_,rfl⟩ hv
  rw [hc]at o⊢
  have ho:v.one=true:=by simpa using o
  have h1:=A.one h ho
  rw [Ro h1]
  exact⟨⟨u,[],rfl,h,rfl⟩,fun x hx=>by simp at hx;subst hx;exact h1⟩
theorem Hu {bl:Nat→Nat}{T:Nat→TypeId}{us:Nat→Array Value}{k b:Nat}{T':TypeId}{u':Array Value}:∀{l:List (Nat×List V)},k∉l.map (·.1)→dS (dQ bl k b) (dQ T k T') (dQ us k u') l=dS bl T us l
 | [],_=>rfl
 | (j,x)::r,h=>by
  simp only [List.map_cons,List.mem_cons,not_or]at h
  unfold dS
  rw [List.map_cons,List.map_cons]
  have:=Hu (bl:=bl) (T:=T) (us:=us) (b:=b) (T':=T') (u':=u') h.2
  unfold dS at this
  rw [this]
  simp only [fU _ _ (fun e=>h.1 e.symm:j≠k)]
theorem uo {hd:Nat→Hd}{k:Nat}{u:Hd}:∀{l:List (Nat×List (List D))},k∉l.map (·.1)→bW (dQ hd k u) l=bW hd l
 | [],_=>rfl
 | (j,x)::r,h=>by
  simp only [List.map_cons,List.mem_cons,not_or]at h
  unfold bW
  rw [List.map_cons,List.map_cons]
  have:=uo (hd:=hd) (u:=u) h.2
  unfold bW at this
  rw [this]
  simp only [fU _ _ (fun e=>h.1 e.symm:j≠k)]
theorem At.uO (A:At c s y a w){t:Nat}{cs:List V}{us:Array Value}{T:TypeId}(hf:look t s.box=none)(hv:jC (aX c s y) cs us.toList)(hd':fO c.n (some t)=true):
  At c {s with env:=put t (.ref t 0) s.env,box:=(t,cs)::s.box} {y with bl:=dQ y.bl t w.heap.size,T:=dQ y.T t T,us:=dQ y.us t us} (a.put (some t) (.pointer (some ⟨w.heap.size,0,none⟩))) (w.alloc (.cells us T)):=by
 have hn:=jX hf
 have le:(aX c s y).le (aX c {s with box:=(t,cs)::s.box} {y with bl:=dQ y.bl t w.heap.size,T:=dQ y.T t T,us:=dQ y.us t us}):=
  ⟨fun _ _ h=>h,fun _ _ h=>h,rfl,fun b h=>⟨List.mem_cons_of_mem _ h,fU _ _ fun e=>hn (by rw [←e];exact h)⟩,fun p h=>⟨h,rfl⟩⟩
 have A1:At c {s with box:=(t,cs)::s.box} {y with bl:=dQ y.bl t w.heap.size,T:=dQ y.T t T,us:=dQ y.us t us} a (w.alloc (.cells us T)):=by
  refine⟨A.defers,A.size,?_,fun t' v e=>(A.env t' v e).le le,fun b cs' h=>?_,A.dJ,List.nodup_cons.2 ⟨hn,A.nb⟩,A.nt,A.fix.1,fun i h1 h2=>⟨(fU _ _ (by have:=fO.lt hd';have:=A.fix.1;omega)).trans (A.fix.2 i h1 h2).1,(A.fix.2 i h1 h2).2⟩⟩
  ·have S:=A.st.alloc us T
   show St c.W _ ((rowP (dQ y.bl t w.heap.size t) (dQ y.T t T t) (dQ y.us t us t)::dS (dQ y.bl t w.heap.size) (dQ y.T t T) (dQ y.us t us) s.box)++_)
   rw [dR,dR,dR,Hu hn]
   exact S
  ·rcases List.mem_cons.1 h with h|h
   ·injection h with h1 h2;subst h1;subst h2
    show jC _ cs' (dQ y.us b us b).toList
    rw [dR];exact hv.le le
   ·show jC _ cs' (dQ y.us t us b).toList
    rw [fU _ _ (fun e=>hn (by rw [←e];exact List.mem_map.2 ⟨_,h,rfl⟩))]
    exact(A.box b cs' h).le le
 exact A1.value (v:= .ref t 0) ⟨List.mem_cons_self,by show _=Value.pointer (some ⟨dQ y.bl t w.heap.size t,0,none⟩);rw [dR]⟩ hd'
theorem At.agZ (A:At c s y a w){t b0:Nat}{cs:List V}{us:Array Value}{T:TypeId}{w':World}(hf:look t s.box=none)(S:St c.W w' (rowP b0 T us::(dS y.bl y.T y.us s.box++(bW y.hd s.tree++(iA y.w0 y.F s.dJ++c.L)))))(hv:jC (aX c s y) cs us.toList)(hd':fO c.n (some t)=true):
  At c {s with env:=put t (.ref t 0) s.env,box:=(t,cs)::s.box} {y with bl:=dQ y.bl t b0,T:=dQ y.T t T,us:=dQ y.us t us} (a.put (some t) (.pointer (some ⟨b0,0,none⟩))) w':=by
 have hn:=jX hf
 have le:(aX c s y).le (aX c {s with box:=(t,cs)::s.box} {y with bl:=dQ y.bl t b0,T:=dQ y.T t T,us:=dQ y.us t us}):=
  ⟨fun _ _ h=>h,fun _ _ h=>h,rfl,fun b h=>⟨List.mem_cons_of_mem _ h,fU _ _ fun e=>hn (by rw [←e];exact h)⟩,fun p h=>⟨h,rfl⟩⟩
 have A1:At c {s with box:=(t,cs)::s.box} {y with bl:=dQ y.bl t b0,T:=dQ y.T t T,us:=dQ y.us t us} a w':=by
  refine⟨A.defers,A.size,?_,fun t' v e=>(A.env t' v e).le le,fun b cs' h=>?_,A.dJ,List.nodup_cons.2 ⟨hn,A.nb⟩,A.nt,A.fix.1,fun i h1 h2=>⟨(fU _ _ (by have:=fO.lt hd';have:=A.fix.1;omega)).trans (A.fix.2 i h1 h2).1,(A.fix.2 i h1 h2).2⟩⟩
  ·show St c.W _ ((rowP (dQ y.bl t b0 t) (dQ y.T t T t) (dQ y.us t us t)::dS (dQ y.bl t b0) (dQ y.T t T) (dQ y.us t us) s.box)++_)
   rw [dR,dR,dR,Hu hn]
   exact S
  ·rcases List.mem_cons.1 h with h|h
   ·injection h with h1 h2;subst h1;subst h2
    show jC _ cs' (dQ y.us b us b).toList
    rw [dR];exact hv.le le
   ·show jC _ cs' (dQ y.us t us b).toList
    rw [fU _ _ (fun e=>hn (by rw [←e];exact List.mem_map.2 ⟨_,h,rfl⟩))]
    exact(A.box b cs' h).le le
 exact A1.value (v:= .ref t 0) ⟨List.mem_cons_self,by show _=Value.pointer (some ⟨dQ y.bl t b0 t,0,none⟩);rw [dR]⟩ hd'
theorem At.newTree (A:At c s y a w){t:Nat}{rows:List (List D)}{u:Hd}{w':World}(hf:fresh s t=true)(hd':fO c.n (some t)=true)
  (S:St c.W w' (gH u rows::(dS y.bl y.T y.us s.box++(bW y.hd s.tree++(iA y.w0 y.F s.dJ++c.L))))):
  At c {s with env:=put t (.own t) s.env,tree:=(t,rows)::s.tree} {y with hd:=dQ y.hd t u} (a.put (some t) u.v) w':=by
 unfold fresh at hf
 rw [Bool.and_eq_true]at hf
 have hn1:=jX (nY hf.1)
 have hn2:=jX (nY hf.2)
 have hn:t∉(s.tree++s.dJ).map (·.1):=by rw [List.map_append,List.mem_append];exact fun h=>h.elim hn1 hn2
 have le:(aX c s y).le (aX c {s with tree:=(t,rows)::s.tree} {y with hd:=dQ y.hd t u}):=
  ⟨fun _ _ h=>h,fun _ _ h=>h,rfl,fun b h=>⟨h,rfl⟩,fun p h=>⟨List.mem_cons_of_mem _ h,fU _ _ fun e=>hn (by rw [←e];exact h)⟩⟩
 have A1:At c {s with tree:=(t,rows)::s.tree} {y with hd:=dQ y.hd t u} a w':=by
  refine⟨A.defers,A.size,?_,fun t' v e=>(A.env t' v e).le le,fun b cs' h=>(A.box b cs' h).le le,fun p rows' h=>?_,A.nb,List.nodup_cons.2 ⟨hn,A.nt⟩,A.fix.1,fun i h1 h2=>⟨(A.fix.2 i h1 h2).1,(fU _ _ (by have:=fO.lt hd';have:=A.fix.1;omega)).trans (A.fix.2 i h1 h2).2⟩⟩
  ·have S':St c.W w' (dS y.bl y.T y.us s.box++(gH u rows::bW y.hd s.tree++(iA y.w0 y.F s.dJ++c.L))):=S.perm (by
    rw [List.cons_append]
    exact(List.perm_middle).symm)
   show St c.W w' (dS y.bl y.T y.us s.box++(gH (dQ y.hd t u t) rows::bW (dQ y.hd t u) s.tree++(iA y.w0 y.F s.dJ++c.L)))
   rw [dR,uo hn1];exact S'
  ·show kH _ _ (dQ y.hd t u p) _
   rw [fU _ _ (fun e=>hn2 (by rw [←e];exact List.mem_map.2 ⟨_,h,rfl⟩))]
   exact A.dJ p rows' h
 exact A1.value (v:= .own t) ⟨List.mem_cons_self,by show u.v=(dQ y.hd t u t).v;rw [dR]⟩ hd'
theorem E9 (p:Nat):∀(l:List (Nat×List V)),(oq p l).map (·.1)=l.map (·.1)
 | []=>rfl
 | (i,z)::r=>by unfold oq;rw [List.map_cons,List.map_cons,E9 p r]
theorem Hw {bl:Nat→Nat}{T:Nat→TypeId}{us:Nat→Array Value}(p:Nat):∀(l:List (Nat×List V)),dS bl T us (oq p l)=dS bl T us l
 | []=>rfl
 | (i,z)::r=>by
  have:=Hw (bl:=bl) (T:=T) (us:=us) p r
  unfold dS at this⊢
  unfold oq;rw [List.map_cons,List.map_cons,this]
theorem Fa (p t:Nat):∀(l:List (Nat×V)),look t (Aq p l)=(look t l).map fun v=>if aP p v=true then .dead else v
 | []=>rfl
 | (i,z)::r=>by
  unfold Aq
  simp only [look]
  split
  ·rfl
  ·exact Fa p t r
theorem Po {ρ ρ':Rel}{p:Nat}(hK:ρ'.K=ρ.K)(hZ:∀b o,ρ.Z b o→ρ'.Z b o)(hs:ρ'.src=ρ.src)(hb:∀b,ρ.Lb b→ρ'.Lb b∧ρ'.bl b=ρ.bl b)(ht:∀q,q≠p→ρ.Lt q→ρ'.Lt q∧ρ'.hd q=ρ.hd q):
  ∀{vs:List V} {us:List Value},jC ρ vs us→jC ρ' (Ar p vs) us
 | [],_,h=>h
 | v::_,_,h=>by
  obtain⟨u,q,h1,h2,h3⟩:=h
  refine⟨u,q,h1,?_,Po hK hZ hs hb ht h3⟩
  cases e:aP p v with
  | true=>simp;trivial
  | false=>simp;exact RV.less hK hZ hs hb ht e h2
theorem Oc {p b:Nat}{cs:List V}:∀{l:List (Nat×List V)},(b,cs)∈oq p l→∃cs',(b,cs')∈l∧cs=Ar p cs'
 | [],h=>by cases h
 | (i,z)::r,h=>by
  unfold oq at h
  rcases List.mem_cons.1 h with h|h
  ·injection h with h1 h2;subst h1;subst h2;exact⟨z,List.mem_cons_self,rfl⟩
  ·obtain⟨cs',h1,h2⟩:=Oc h
   exact⟨cs',List.mem_cons_of_mem _ h1,h2⟩
theorem At.out (A:At c s y a w){p:Nat}{rows:List (List D)}(hl:look p s.tree=some rows):
  St c.W w (gH (y.hd p) rows::(dS y.bl y.T y.us s.box++(bW y.hd (drop1 p s.tree)++(iA y.w0 y.F s.dJ++c.L)))):=by
 obtain⟨l1,l2,h1,_,h3⟩:=vD hl
 have n:=A.nt
 rw [List.map_append,List.nodup_append]at n
 have h3:=h3 n.1
 refine A.st.perm ?_
 rw [h3]
 refine((List.perm_middle (l₁:=dS y.bl y.T y.us s.box) (l₂:=bW y.hd (l1++l2)++(iA y.w0 y.F s.dJ++c.L)) (a:=gH (y.hd p) rows)).symm.trans ?_).symm
 refine List.Perm.append_left _ ?_
 rw [←List.cons_append]
 refine List.Perm.append_right _ ?_
 rw [h1]
 unfold bW
 rw [List.map_append,List.map_append,List.map_cons]
 exact List.perm_middle.symm
theorem At.killed (A:At c s y a w){p:Nat}{w':World}{L':List Pc}(hK':∀w,St c.W w L'→∀b o,c.K b o→w.heap[b]?=some o)(S:St c.W w' (dS y.bl y.T y.us s.box++(bW y.hd (drop1 p s.tree)++(iA y.w0 y.F s.dJ++L'))))(hp:p∈s.tree.map (·.1)):At {c with L:=L',hK:=hK'} (s.kill p) y a w':=by
 have n:=A.nt
 rw [List.map_append,List.nodup_append]at n
 have hmem:∀q,q∈(drop1 p s.tree).map (·.1)→q∈s.tree.map (·.1)∧q≠p:=by
  intro q hq
  obtain⟨⟨q',r⟩,hx,rfl⟩:=List.mem_map.1 hq
  have:∀{l:List (Nat×List (List D))},(q',r)∈drop1 p l→(q',r)∈l∧q'≠p:=by
   intro l;induction l with
   | nil=>intro h;cases h
   | cons x l ih=>
    intro h
    obtain⟨i,z⟩:=x
    unfold drop1 at h
    split at h
    ·exact⟨List.mem_cons_of_mem _ (ih h).1,(ih h).2⟩
    ·rename_i hne
     rcases List.mem_cons.1 h with h|h
     ·injection h with h1 h2;subst h1;subst h2;exact⟨List.mem_cons_self,fun e=>hne e.symm⟩
     ·exact⟨List.mem_cons_of_mem _ (ih h).1,(ih h).2⟩
  have:=this hx
  exact⟨List.mem_map.2 ⟨_,this.1,rfl⟩,this.2⟩
 have hkeep:∀q,q≠p→q∈s.tree.map (·.1)→q∈(drop1 p s.tree).map (·.1):=by
  intro q hq h
  obtain⟨⟨q',r⟩,hx,rfl⟩:=List.mem_map.1 h
  have h2:=jY n.1 hx
  have:look q' (drop1 p s.tree)=some r:=by rw [qN,if_neg hq];exact h2
  exact List.mem_map.2 ⟨_,fI this,rfl⟩
 have ht:∀q,q≠p→(aX c s y).Lt q→(aX c (s.kill p) y).Lt q∧(aX c (s.kill p) y).hd q=(aX c s y).hd q:=by
  intro q hq h
  refine⟨?_,rfl⟩
  have h:q∈(s.tree++s.dJ).map (·.1):=h
  show q∈(drop1 p s.tree++s.dJ).map (·.1)
  rw [List.map_append,List.mem_append]at h⊢
  exact h.imp (hkeep q hq) _root_.id
 have hb:∀b,(aX c s y).Lb b→(aX c (s.kill p) y).Lb b∧(aX c (s.kill p) y).bl b=(aX c s y).bl b:=by
  intro b h
  refine⟨?_,rfl⟩
  show b∈(oq p s.box).map (·.1)
  rw [E9];exact h
 refine⟨A.defers,A.size,?_,fun t v e=>?_,fun b cs h=>?_,A.dJ,?_,?_,A.fix⟩
 ·show St c.W w' (dS y.bl y.T y.us (oq p s.box)++(bW y.hd (drop1 p s.tree)++(iA y.w0 y.F s.dJ++L')))
  rw [Hw];exact S
 ·have e:look t (Aq p s.env)=some v:=e
  rw [Fa]at e
  cases e2:look t s.env with
  | none=>rw [e2]at e;cases e
  | some v'=>
   rw [e2]at e;simp only [Option.map_some,Option.some.injEq]at e
   subst e
   cases e3:aP p v' with
   | true=>simp;trivial
   | false=>simp only [Bool.false_eq_true,if_false];exact RV.less (ρ:=aX c s y) (ρ':=aX c (s.kill p) y) rfl (fun _ _ h=>h) rfl hb ht e3 (A.env t v' e2)
 ·obtain⟨cs',h1,rfl⟩:=Oc h
  exact Po (ρ:=aX c s y) (ρ':=aX c (s.kill p) y) rfl (fun _ _ h=>h) rfl hb ht (A.box b cs' h1)
 ·show((oq p s.box).map (·.1)).Nodup
  rw [E9];exact A.nb
 ·show((drop1 p s.tree++s.dJ).map (·.1)).Nodup
  rw [List.map_append,List.nodup_append]
  refine⟨?_,n.2.1,fun x hx z hz=>n.2.2 x (hmem x hx).1 z hz⟩
  obtain⟨⟨q,r⟩,hx,rfl⟩:=List.mem_map.1 hp
  obtain⟨l1,l2,e1,_,e3⟩:=vD (jY n.1 hx)
  rw [e3 n.1,List.map_append]
  have n1:=n.1
  rw [e1,List.map_append,List.map_cons]at n1
  have n2:=List.perm_middle.nodup_iff.1 n1
  exact(List.nodup_cons.1 n2).2
theorem ag0 {o:Oper}{t:TypeId}{x:Operand}(ho:o.op= .box t x)(hd':fO c.n o.dst=true){v:V}{s':S}(hx:s.ev x=some v)(h1:v.cells.all V.one=true)(h:s.uO o.dst v.cells=some s'):Step P c o s s':=by
 intro a w G next Q k
 obtain⟨y,A⟩:=G
 unfold S.uO at h
 obtain⟨d,hd,h⟩:=aj h
 obtain⟨hf,h⟩:=aB h
 injection h with h;subst h
 rw [hd]at hd'
 have ex:=A.cells (A.ev hx) h1
 have A':=A.uO (T:=t) (nY hf) ex.1 hd'
 refine qw (u:= .pointer (some ⟨w.heap.size,0,none⟩)) (w':=w.alloc (.cells (a.eval x).cells t)) ?_ (k _ _ ⟨_,by rw [hd];exact A'⟩)
 unfold execOp;simp only [ho];simp [Instr.box,newVar,newRow]
theorem WW {ρ:Rel}{z:Value}{v:V}(h:uN z=some v):jC ρ v.cells z.cells.toList:=by
 have e:=Mj (ρ:=ρ) h
 unfold uN at h
 split at h<;>(try (cases h;done))<;>(injection h with h;subst h)
 case _=>exact⟨_,_,rfl,rfl,rfl⟩
 case _=>exact⟨_,_,rfl,rfl,rfl⟩
 case _=>exact⟨_,_,rfl,rfl,rfl⟩
 case _=>exact⟨_,_,rfl,rfl,rfl⟩
 case _=>exact⟨_,_,rfl,rfl,rfl⟩
 case _=>
  obtain⟨us,e1,e2⟩:=e
  injection e1 with e1
  show jC ρ (List.map yu _) (_:Array Value).toList
  have e3:us=(us.toArray).toList:=rfl
  rw [e3,←e1]at e2
  exact e2
theorem Hy {t:TypeId}{cs:List V}(h:jO P t=some cs):∃i z,P.info? t=some i∧i.zero=some z∧∀ρ:Rel,jC ρ cs z.cells.toList:=by
 unfold jO at h
 obtain⟨i,h1,h⟩:=aj h
 obtain⟨z,h2,h⟩:=aj h
 obtain⟨v,h3,h⟩:=aj h
 injection h with h;subst h
 exact⟨i,z,h1,h2,fun ρ=>WW h3⟩
theorem abL {o:Oper}{t:TypeId}(ho:o.op= .alloc t)(hd':fO c.n o.dst=true){cs:List V}{s':S}(hz:jO P t=some cs)(h:s.uO o.dst cs=some s'):Step P c o s s':=by
 intro a w G next Q k
 obtain⟨y,A⟩:=G
 unfold S.uO at h
 obtain⟨d,hd,h⟩:=aj h
 obtain⟨hf,h⟩:=aB h
 injection h with h;subst h
 rw [hd]at hd'
 obtain⟨i,z,h1,h2,h3⟩:=Hy hz
 have A':=A.uO (T:=t) (nY hf) (h3 _) hd'
 refine qw (u:= .pointer (some ⟨w.heap.size,0,none⟩)) (w':=w.alloc (.cells z.cells t)) ?_ (k _ _ ⟨_,by rw [hd];exact A'⟩)
 unfold execOp;simp only [ho];simp [Instr.alloc,zeroValue,typeInfo,h1,h2,newVar,newRow]
end
end Go.Proofs.YtlpdjhiggpblcaaGreat
