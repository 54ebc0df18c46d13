/- Part 3 of a proof in several texts (an abstract evaluator, what the functions compute). -/
import Derived.Test.YtlpdjhiggpblcaaGreatPkFnEdOk2
import Derived.Laws.StructEq
import Derived.Deep.MidRow
import Derived.Laws.BytesString
import Derived.Lib.ConvBytes
namespace Go.Proofs.YtlpdjhiggpblcaaGreat
open Go.RowKit
set_option linter.unusedSimpArgs false
structure Gt (α:Type) where
 enc:α→List D
 is_:List D→Bool
 dec:List D→α
 k:Nat
 len:∀x,(enc x).length=k
 one:∀x,(enc x).all A9=true
 ok:∀x,is_ (enc x)=true
 back:∀x,dec (enc x)=x
 there:∀r,is_ r=true→enc (dec r)=r
namespace Gt
variable {α:Type} (C:Gt α)
def rows (l:List α):List (List D):=l.map C.enc
def isL (r:List (List D)):Bool:=r.all C.is_
def unL (r:List (List D)):List α:=r.map C.dec
theorem Bf (l:List α):(C.rows l).length=l.length:=List.length_map ..
theorem wP (l m:List α):C.rows (l++m)=C.rows l++C.rows m:=List.map_append
theorem Gu (l:List α):wid C.k (C.rows l)=true:=by
 induction l with
 | nil=>rfl
 | cons x r ih=>
  show(decide ((C.enc x).length=C.k)&&(C.enc x).all A9&&wid C.k (C.rows r))=true
  rw [ih,C.len,C.one];simp
theorem Gv {l:List α}{j:Nat}(h:j<l.length):(C.rows l)[j]?=some (C.enc l[j]):=by simp [rows,h]
theorem Dx (l:List α)(n:Nat):(C.rows l).drop n=C.rows (l.drop n):=List.map_drop.symm
theorem Dy (l:List α)(n:Nat):(C.rows l).take n=C.rows (l.take n):=List.map_take.symm
theorem aex (l:List α):C.isL (C.rows l)=true:=by
 induction l with
 | nil=>rfl
 | cons x r ih=>show(C.is_ (C.enc x)&&C.isL (C.rows r))=true;rw [ih,C.ok];rfl
theorem agk (r q:List (List D)):C.isL (r++q)=(C.isL r&&C.isL q):=List.all_append
theorem aey (l:List α):C.unL (C.rows l)=l:=by
 induction l with
 | nil=>rfl
 | cons x r ih=>show C.dec (C.enc x)::C.unL (C.rows r)=_;rw [ih,C.back]
theorem agl (r q:List (List D)):C.unL (r++q)=C.unL r++C.unL q:=List.map_append
theorem aez {r:List (List D)}(h:C.isL r=true):C.rows (C.unL r)=r:=by
 induction r with
 | nil=>rfl
 | cons x r ih=>
  have h:(C.is_ x&&C.isL r)=true:=h
  rw [Bool.and_eq_true]at h
  show C.enc (C.dec x)::C.rows (C.unL r)=_
  rw [ih h.2,C.there x h.1]
theorem MH (hf:∀x,(C.enc x).all sF=true)(l:List α):dN (C.rows l)=true:=by
 induction l with
 | nil=>rfl
 | cons x r ih=>show((C.enc x).all sF&&dN (C.rows r))=true;rw [ih,hf];rfl
end Gt
def qZ:Gt Int where
 enc:=fun x=> [.a (.int .i64 x)]
 is_:=fun| [.a (.int .i64 _)]=>true|_=>false
 dec:=fun| [.a (.int .i64 x)]=>x|_=>0
 k:=1
 len:=fun _=>rfl
 one:=fun x=>by simp [A9,Value.oneCell']
 ok:=fun x=>by simp
 back:=fun x=>by simp
 there:=fun r h=>by
  split at h
  ·rfl
  ·cases h
def ints (l:List Int):List (List D):=qZ.rows l
def Ce (r:List (List D)):Bool:=qZ.isL r
def Cg (r:List (List D)):List Int:=qZ.unL r
@[simp] theorem aiR (l:List Int):(ints l).length=l.length:=qZ.Bf l
@[simp] theorem au (l m:List Int):ints (l++m)=ints l++ints m:=qZ.wP l m
@[simp] theorem aeA (l:List Int):wid 1 (ints l)=true:=qZ.Gu l
theorem aO {l:List Int}{j:Nat}(h:j<l.length):(ints l)[j]?=some ((fun x=> [.a (.int .i64 x)]) l[j]):=qZ.Gv h
@[simp] theorem ints_at {l:List Int}{j:Nat}(h:j<(ints l).length):(ints l)[j]=(fun x=> [.a (.int .i64 x)]) (l[j]'(by simpa using h)):=by
 have h2:=aO (l:=l) (j:=j) (by simpa using h)
 rw [List.getElem?_eq_getElem h]at h2;injection h2
@[simp] theorem aiv (l:List Int)(i:Nat):(ints l).drop i=ints (l.drop i):=qZ.Dx l i
@[simp] theorem aiw (l:List Int)(i:Nat):(ints l).take i=ints (l.take i):=qZ.Dy l i
@[simp] theorem agm (l:List Int):Ce (ints l)=true:=qZ.aex l
@[simp] theorem ahe:Ce []=true:=id rfl
@[simp] theorem ahf (r q:List (List D)):Ce (r++q)=(Ce r&&Ce q):=qZ.agk r q
@[simp] theorem agn (l:List Int):Cg (ints l)=l:=qZ.aey l
@[simp] theorem ahg:Cg []= []:=id rfl
@[simp] theorem ahh (r q:List (List D)):Cg (r++q)=Cg r++Cg q:=qZ.agl r q
theorem K4 {r:List (List D)}(h:Ce r=true):ints (Cg r)=r:=qZ.aez h
theorem bn:ints []= []:=rfl
theorem I8 (x:Int)(l:List Int):ints (x::l)= [.a (.int .i64 x)]::ints l:=rfl
theorem Tg (l:List Int)(x:Int):ints l++ [[.a (.int .i64 x)]]=ints (l++ [x]):=((qZ.wP l [x]).trans rfl).symm
@[simp] theorem acN (l:List Int):dN (ints l)=true:=qZ.MH (fun _=>rfl) l
def zO:Gt UInt8 where
 enc:=fun x=> [.a (.int .u8 x.toNat)]
 is_:=fun| [.a (.int .u8 n)]=>decide (((UInt8.ofNat n.toNat).toNat:Int)=n)|_=>false
 dec:=fun| [.a (.int .u8 n)]=>UInt8.ofNat n.toNat|_=>0
 k:=1
 len:=fun _=>rfl
 one:=fun x=>by simp [A9,Value.oneCell']
 ok:=fun x=>by simp
 back:=fun x=>by simp
 there:=fun r h=>by
  split at h
  ·rw [of_decide_eq_true h]
  ·cases h
def nK (l:List UInt8):List (List D):=zO.rows l
@[simp] theorem aiS (l:List UInt8):(nK l).length=l.length:=zO.Bf l
@[simp] theorem aiT (l m:List UInt8):nK (l++m)=nK l++nK m:=zO.wP l m
@[simp] theorem aiU (l:List UInt8):wid 1 (nK l)=true:=zO.Gu l
theorem dU {l:List UInt8}{j:Nat}(h:j<l.length):(nK l)[j]?=some ((fun x=> [.a (.int .u8 x.toNat)]) l[j]):=zO.Gv h
@[simp] theorem ajx {l:List UInt8}{j:Nat}(h:j<(nK l).length):(nK l)[j]=(fun x=> [.a (.int .u8 x.toNat)]) (l[j]'(by simpa using h)):=by
 have h2:=dU (l:=l) (j:=j) (by simpa using h)
 rw [List.getElem?_eq_getElem h]at h2;injection h2
@[simp] theorem aix (l:List UInt8)(i:Nat):(nK l).drop i=nK (l.drop i):=zO.Dx l i
@[simp] theorem aiy (l:List UInt8)(i:Nat):(nK l).take i=nK (l.take i):=zO.Dy l i
theorem Dz:nK []= []:=rfl
theorem AA (x:UInt8)(l:List UInt8):nK (x::l)= [.a (.int .u8 x.toNat)]::nK l:=rfl
@[simp] theorem aiz (l:List UInt8):dN (nK l)=true:=zO.MH (fun _=>rfl) l
def Ew:Gt ByteArray where
 enc:=fun x=> [.a (.string x)]
 is_:=fun| [.a (.string _)]=>true|_=>false
 dec:=fun| [.a (.string x)]=>x|_=> .empty
 k:=1
 len:=fun _=>rfl
 one:=fun x=>by simp [A9,Value.oneCell']
 ok:=fun x=>by simp
 back:=fun x=>by simp
 there:=fun r h=>by
  split at h
  ·rfl
  ·cases h
def strs (l:List ByteArray):List (List D):=Ew.rows l
@[simp] theorem aiV (l:List ByteArray):(strs l).length=l.length:=Ew.Bf l
@[simp] theorem Xd (l m:List ByteArray):strs (l++m)=strs l++strs m:=Ew.wP l m
@[simp] theorem aiW (l:List ByteArray):wid 1 (strs l)=true:=Ew.Gu l
theorem wQ {l:List ByteArray}{j:Nat}(h:j<l.length):(strs l)[j]?=some ((fun x=> [.a (.string x)]) l[j]):=Ew.Gv h
@[simp] theorem ajy {l:List ByteArray}{j:Nat}(h:j<(strs l).length):(strs l)[j]=(fun x=> [.a (.string x)]) (l[j]'(by simpa using h)):=by
 have h2:=wQ (l:=l) (j:=j) (by simpa using h)
 rw [List.getElem?_eq_getElem h]at h2;injection h2
@[simp] theorem aiA (l:List ByteArray)(i:Nat):(strs l).drop i=strs (l.drop i):=Ew.Dx l i
@[simp] theorem aiB (l:List ByteArray)(i:Nat):(strs l).take i=strs (l.take i):=Ew.Dy l i
theorem acO (l:List ByteArray)(x:ByteArray):strs l++ [[.a (.string x)]]=strs (l++ [x]):=((Ew.wP l [x]).trans rfl).symm
@[simp] theorem aiC (l:List ByteArray):dN (strs l)=true:=Ew.MH (fun _=>rfl) l
structure iG where
 av:List Int
 At:Int
def ahi:iG:=⟨[],0⟩
def y7:Gt iG where
 enc:=fun x=> [.l (ints x.av), .a (.int .i64 x.At)]
 is_:=fun| [.l r0, .a (.int .i64 _)]=>Ce r0|_=>false
 dec:=fun| [.l r0, .a (.int .i64 x1)]=>⟨Cg r0,x1⟩|_=>ahi
 k:=2
 len:=fun _=>rfl
 one:=fun x=>by simp [A9,Value.oneCell']
 ok:=fun x=>by simp
 back:=fun x=>by simp
 there:=fun r h=>by
  split at h
  ·simp only [K4 h]
  ·cases h
def aS (l:List iG):List (List D):=y7.rows l
@[simp] theorem ZG (l:List iG):(aS l).length=l.length:=y7.Bf l
@[simp] theorem ahH (l m:List iG):aS (l++m)=aS l++aS m:=y7.wP l m
@[simp] theorem Pv (l:List iG):wid 2 (aS l)=true:=y7.Gu l
theorem iR {l:List iG}{j:Nat}(h:j<l.length):(aS l)[j]?=some ((fun x=> [.l (ints x.av), .a (.int .i64 x.At)]) l[j]):=y7.Gv h
@[simp] theorem aiD {l:List iG}{j:Nat}(h:j<(aS l).length):(aS l)[j]=(fun x=> [.l (ints x.av), .a (.int .i64 x.At)]) (l[j]'(by simpa using h)):=by
 have h2:=iR (l:=l) (j:=j) (by simpa using h)
 rw [List.getElem?_eq_getElem h]at h2;injection h2
@[simp] theorem ahj (l:List iG)(i:Nat):(aS l).drop i=aS (l.drop i):=y7.Dx l i
@[simp] theorem ahk (l:List iG)(i:Nat):(aS l).take i=aS (l.take i):=y7.Dy l i
theorem Xe (x:iG)(l:List iG):aS (x::l)= [.l (ints x.av), .a (.int .i64 x.At)]::aS l:=rfl
theorem vW (l:List iG)(x:iG):aS l++ [[.l (ints x.av), .a (.int .i64 x.At)]]=aS (l++ [x]):=((y7.wP l [x]).trans rfl).symm
structure eT where
 av:List Int
def aeB:eT:=⟨[]⟩
def vX:Gt eT where
 enc:=fun x=> [.l (ints x.av)]
 is_:=fun| [.l r0]=>Ce r0|_=>false
 dec:=fun| [.l r0]=>⟨Cg r0⟩|_=>aeB
 k:=1
 len:=fun _=>rfl
 one:=fun x=>by simp [A9,Value.oneCell']
 ok:=fun x=>by simp
 back:=fun x=>by simp
 there:=fun r h=>by
  split at h
  ·simp only [K4 h]
  ·cases h
def aC (l:List eT):List (List D):=vX.rows l
@[simp] theorem ahl (l:List eT):(aC l).length=l.length:=vX.Bf l
@[simp] theorem ahm (l m:List eT):aC (l++m)=aC l++aC m:=vX.wP l m
@[simp] theorem ahn (l:List eT):wid 1 (aC l)=true:=vX.Gu l
theorem jq {l:List eT}{j:Nat}(h:j<l.length):(aC l)[j]?=some ((fun x=> [.l (ints x.av)]) l[j]):=vX.Gv h
@[simp] theorem ahI {l:List eT}{j:Nat}(h:j<(aC l).length):(aC l)[j]=(fun x=> [.l (ints x.av)]) (l[j]'(by simpa using h)):=by
 have h2:=jq (l:=l) (j:=j) (by simpa using h)
 rw [List.getElem?_eq_getElem h]at h2;injection h2
@[simp] theorem agp (l:List eT)(i:Nat):(aC l).drop i=aC (l.drop i):=vX.Dx l i
@[simp] theorem agq (l:List eT)(i:Nat):(aC l).take i=aC (l.take i):=vX.Dy l i
theorem gN (x:eT)(l:List eT):aC (x::l)= [.l (ints x.av)]::aC l:=rfl
theorem Ey (l:List eT)(x:eT):aC l++ [[.l (ints x.av)]]=aC (l++ [x]):=((vX.wP l [x]).trans rfl).symm
structure aeC where
 aA:List eT
def aiX:aeC:=⟨[]⟩
structure aeD where
 eX:List iG
def aiY:aeD:=⟨[]⟩
structure dB where
 Vi:Bool
 bV:Int
 ak:iG
 bH:Int
 Op:Int
 bU:Int
 fT:Int
 eY:Int
 bT:Int
 iZ:Int
 aI:aeC
 gH:aeD
 kF:Int
 iM:iG
 bP:List Int
 nH:Int
 dH:iG
def u6:dB:=⟨false,0,⟨[],0⟩,0,0,0,0,0,0,0,⟨[]⟩,⟨[]⟩,0,⟨[],0⟩,[],0,⟨[],0⟩⟩
abbrev aH (f:Int)(l:List ByteArray):V:= .agg [vI f, .aP (some 6) (strs l)]
abbrev aK (k r:Int):V:= .agg [vI k,vI r]
abbrev gL (e:dB):V:= .agg [V.v (.bool e.Vi),V.v (.int .i64 e.bV), .aP (some 0) (ints e.ak.av),V.v (.int .i64 e.ak.At),V.v (.int .i64 e.bH),V.v (.int .i64 e.Op),V.v (.int .i64 e.bU),V.v (.int .i64 e.fT),V.v (.int .i64 e.eY),V.v (.int .i64 e.bT),V.v (.int .i64 e.iZ), .aP (some 1) (aC e.aI.aA), .aP (some 2) (aS e.gH.eX),V.v (.int .i64 e.kF), .aP (some 3) (ints e.iM.av),V.v (.int .i64 e.iM.At), .aP (some 4) (ints e.bP),V.v (.int .i64 e.nH), .aP (some 5) (ints e.dH.av),V.v (.int .i64 e.dH.At)]
abbrev gO (e:dB):V:= .agg [V.v (.bool e.Vi),V.v (.int .i64 e.bV), .own 0,V.v (.int .i64 e.ak.At),V.v (.int .i64 e.bH),V.v (.int .i64 e.Op),V.v (.int .i64 e.bU),V.v (.int .i64 e.fT),V.v (.int .i64 e.eY),V.v (.int .i64 e.bT),V.v (.int .i64 e.iZ), .own 1, .own 2,V.v (.int .i64 e.kF), .own 3,V.v (.int .i64 e.iM.At), .own 4,V.v (.int .i64 e.nH), .own 5,V.v (.int .i64 e.dH.At)]
abbrev hO (e:dB):List (Nat×List (List D)):= [(0,ints e.ak.av),(1,aC e.aI.aA),(2,aS e.gH.eX),(3,ints e.iM.av),(4,ints e.bP),(5,ints e.dH.av)]
end Go.Proofs.YtlpdjhiggpblcaaGreat
namespace Go.Proofs.YtlpdjhiggpblcaaGreat
set_option linter.unusedSectionVars false
set_option linter.unusedSimpArgs false
set_option linter.unusedVariables false
open Go.RowKit
def Ext (w w':World):Prop:=Below w.heap.size w w'
theorem Ext.refl (w:World):Ext w w:=Below.refl _ _
theorem Ext.trans {a b c:World}(h:Ext a b)(k:Ext b c):Ext a c:=Below.trans h (Below.mono k (Below.size h))
theorem Ext.cell {w w':World}(h:Ext w w'){p:Addr}{v:Value}(hc:w.cell? p=some v):w'.cell? p=some v:=
 (Below.cell h (World.block_lt_of_cell? w p hc)).trans hc
theorem Ext.size {w w':World}(h:Ext w w'):w.heap.size≤w'.heap.size:=Below.size h
theorem Ext.alloc {a w:World}(h:Ext a w)(o:Obj):Ext a (w.alloc o):=Below.alloc h (Below.size h) o
theorem Ext.drew {a w:World}(h:Ext a w):Ext a w.drew:=Below.drew h
theorem ahJ {w:World}{g:Nat}{T:TypeId}{cs:Array Value}(h:w.heap[g]?=some (.cells cs T (0,0))):(∀i,w.cell? ⟨g,i,none⟩=cs[i]?)∧(∀i,w.frozen? ⟨g,i,none⟩=false)∧g<w.heap.size:=
 ⟨fun i=>cell_of_row w g i cs T (0,0) h,fun i=>frozen_of_row w g i cs T h,(Array.getElem?_eq_some_iff.1 h).1⟩
theorem OY (w:World)(o:Obj):(w.alloc o).heap[w.heap.size]?=some o:=heap_alloc_new w o
theorem agr {w w':World}{g:Nat}{o:Obj}(h:w.heap[g]?=some o)(x:Ext w w'):w'.heap[g]?=some o:=(Below.block x g (Array.getElem?_eq_some_iff.1 h).1).trans h
theorem Ext.row {W w w':World}{g:Nat}(h:Ext W w)(x:w.grownBy w' (some g))(hg:W.heap.size≤g):Ext W w':=Below.grown h x h.size (fun k hk=>by injection hk with hk;omega)
structure Pc where
 P:World→List Nat→Prop
 st:∀{w w':World} {F:List Nat},P w F→(∀b∈F,w'.heap[b]?=w.heap[b]?)→P w' F
inductive Sep (w:World):List Pc→List Nat→Prop
 | nil:Sep w [] []
 | cons {h:Pc} {L:List Pc} {F G:List Nat}:h.P w F→Sep w L G→Sep w (h::L) (F++G)
theorem Sep.st {w w':World}{L:List Pc}{F:List Nat}(h:Sep w L F)(hk:∀b∈F,w'.heap[b]?=w.heap[b]?):Sep w' L F:=by
 induction h with
 | nil=>exact .nil
 | cons h1 _ ih=>exact .cons (Pc.st _ h1 fun b hb=>hk b (List.mem_append_left _ hb)) (ih fun b hb=>hk b (List.mem_append_right _ hb))
theorem Sep.lF {w:World}{h:Pc}{L:List Pc}{F:List Nat}(s:Sep w (h::L) F):∃F1 G,F=F1++G∧h.P w F1∧Sep w L G:=by
 cases s with
 | cons a b=>exact⟨_,_,rfl,a,b⟩
structure St (W w:World) (L:List Pc):Prop where
 ext:Ext W w
 sep:∃F,Sep w L F∧F.Nodup∧∀b∈F,W.heap.size≤b∧b<w.heap.size
theorem St.refl (w:World):St w w []:=⟨Ext.refl w,[], .nil,List.nodup_nil,fun _ h=>by cases h⟩
theorem St.of {W w:World}(x:Ext W w):St W w []:=⟨x,[], .nil,List.nodup_nil,fun _ h=>by cases h⟩
theorem St.call {W w w':World}{L:List Pc}(S:St W w L)(x:Ext w w'):St W w' L:=by
 obtain⟨F,s,n,hb⟩:=S.sep
 refine⟨S.ext.trans x,F,s.st fun b h=>Below.block x b (hb b h).2,n,fun b h=>⟨(hb b h).1,?_⟩⟩
 have:=x.size;have:=(hb b h).2;omega
theorem St.drew {W w:World}{L:List Pc}(S:St W w L):St W w.drew L:=S.call (Ext.refl w).drew
theorem St.drop {W w:World}{h:Pc}{L:List Pc}(S:St W w (h::L)):St W w L:=by
 obtain⟨F,s,n,hb⟩:=S.sep
 obtain⟨F1,G,rfl,_,g⟩:=s.lF
 exact⟨S.ext,G,g,(List.nodup_append.1 n).2.1,fun b h=>hb b (List.mem_append_right _ h)⟩
theorem Sep.swap {w:World}{h k:Pc}{L:List Pc}{F:List Nat}(s:Sep w (h::k::L) F):∃F',Sep w (k::h::L) F'∧F'.Perm F:=by
 obtain⟨F1,G,rfl,a,g⟩:=s.lF
 obtain⟨F2,G2,rfl,b,g2⟩:=g.lF
 refine⟨F2++(F1++G2), .cons b (.cons a g2),?_⟩
 rw [←List.append_assoc,←List.append_assoc]
 exact List.Perm.append_right _ List.perm_append_comm
theorem St.swap {W w:World}{h k:Pc}{L:List Pc}(S:St W w (h::k::L)):St W w (k::h::L):=by
 obtain⟨F,s,n,hb⟩:=S.sep
 obtain⟨F',s',p⟩:=s.swap
 exact⟨S.ext,F',s',p.nodup_iff.2 n,fun b h=>hb b (p.mem_iff.1 h)⟩
theorem St.tail {W w:World}{h:Pc}{L L':List Pc}(S:St W w (h::L))(f:∀F,Sep w L F→∃F',Sep w L' F'∧F'.Perm F):St W w (h::L'):=by
 obtain⟨F,s,n,hb⟩:=S.sep
 obtain⟨F1,G,rfl,a,g⟩:=s.lF
 obtain⟨G',g',p⟩:=f G g
 have p2:(F1++G').Perm (F1++G):=List.Perm.append_left _ p
 exact⟨S.ext,_, .cons a g',p2.nodup_iff.2 n,fun b h=>hb b (p2.mem_iff.1 h)⟩
theorem Sep.bring {w:World}:∀(i:Nat) {h:Pc} {L:List Pc} {F:List Nat},Sep w L F→L[i]?=some h→∃F',Sep w (h::L.eraseIdx i) F'∧F'.Perm F
 | 0,h,[],F,_,e=>by cases e
 | i+1,h,[],F,_,e=>by cases e
 | 0,h,k::L,F,s,e=>by
  simp only [List.getElem?_cons_zero,Option.some.injEq]at e
  subst e
  exact⟨F,s,List.Perm.refl _⟩
 | i+1,h,k::L,F,s,e=>by
  obtain⟨F1,G,rfl,a,g⟩:=s.lF
  obtain⟨G',g',p⟩:=Sep.bring i (L:=L) g (by simpa using e)
  obtain⟨F',s',p'⟩:=Sep.swap (.cons a g')
  exact⟨F',s',p'.trans (List.Perm.append_left _ p)⟩
theorem St.bring {W w:World}{L:List Pc}(S:St W w L)(i:Nat){h:Pc}(e:L[i]?=some h):St W w (h::L.eraseIdx i):=by
 obtain⟨F,s,n,hb⟩:=S.sep
 obtain⟨F',s',p⟩:=s.bring i e
 exact⟨S.ext,F',s',p.nodup_iff.2 n,fun b h=>hb b (p.mem_iff.1 h)⟩
theorem St.open_ {W w:World}{h:Pc}{L:List Pc}(S:St W w (h::L)):∃F,h.P w F∧F.Nodup∧(∀b∈F,W.heap.size≤b∧b<w.heap.size)∧
  ∀(w':World) (h':Pc) (F':List Nat),w'.os=w.os→w'.tape=w.tape→w'.output=w.output→w.heap.size≤w'.heap.size→(∀b,b<w.heap.size→b∉F→w'.heap[b]?=w.heap[b]?)→
   h'.P w' F'→F'.Nodup→(∀b∈F',(b∈F∨w.heap.size≤b)∧b<w'.heap.size)→St W w' (h'::L):=by
 obtain⟨F,s,n,hb⟩:=S.sep
 obtain⟨F1,G,rfl,a,g⟩:=s.lF
 obtain⟨n1,n2,n3⟩:=List.nodup_append.1 n
 refine⟨F1,a,n1,fun b h=>hb b (List.mem_append_left _ h),fun w' h' F' e1 e2 e3 hs hk hp hn hF=>?_⟩
 refine⟨?_,F'++G, .cons hp (g.st fun b h=>hk b (hb b (List.mem_append_right _ h)).2 fun h1=>n3 b h1 b h rfl),?_,?_⟩
 ·refine⟨e1.trans S.ext.os,e2.trans S.ext.tape,e3.trans S.ext.output,Nat.le_trans S.ext.size hs,fun k hk2=>?_⟩
  have:=S.ext.size
  exact(hk k (by omega) fun h1=>by have:=(hb k (List.mem_append_left _ h1)).1;omega).trans (Below.block S.ext k hk2)
 ·refine List.nodup_append.2 ⟨hn,n2,fun b h1 c h2 e=>?_⟩
  subst e
  rcases(hF b h1).1 with h3|h3
  ·exact n3 b h3 b h2 rfl
  ·have:=(hb b (List.mem_append_right _ h2)).2;omega
 ·intro b h
  rcases List.mem_append.1 h with h1|h1
  ·refine⟨?_,(hF b h1).2⟩
   rcases(hF b h1).1 with h3|h3
   ·exact(hb b (List.mem_append_left _ h3)).1
   ·have:=S.ext.size;omega
  ·have:=hb b (List.mem_append_right _ h1)
   exact⟨this.1,by omega⟩
theorem St.more {W w w':World}{L:List Pc}(S:St W w L)(x:Ext w w'){h:Pc}{F:List Nat}(hp:h.P w' F)(hn:F.Nodup)(hF:∀b∈F,w.heap.size≤b∧b<w'.heap.size):St W w' (h::L):=by
 obtain⟨G,s,n,hb⟩:=S.sep
 have hs:=x.size
 have hs2:=S.ext.size
 refine⟨S.ext.trans x,F++G, .cons hp (s.st fun b h=>Below.block x b (hb b h).2),List.nodup_append.2 ⟨hn,n,fun b h1 c h2 e=>?_⟩,fun b h=>?_⟩
 ·subst e;have:=(hF b h1).1;have:=(hb b h2).2;omega
 ·rcases List.mem_append.1 h with h1|h1
  ·have:=hF b h1;exact⟨by omega,this.2⟩
  ·have:=hb b h1;exact⟨this.1,by omega⟩
def rowP (b:Nat)(T:TypeId)(cs:Array Value):Pc:=⟨fun w F=>F= [b]∧w.heap[b]?=some (.cells cs T (0,0)),fun h k=>⟨h.1,(k b (by rw [h.1];simp)).trans h.2⟩⟩
theorem St.row {W w:World}{b:Nat}{T:TypeId}{cs:Array Value}{L:List Pc}(S:St W w L)(i:Nat)(e:L[i]?=some (rowP b T cs)):w.heap[b]?=some (.cells cs T (0,0)):=by
 obtain⟨F,s, -, -⟩:=(S.bring i e).sep
 obtain⟨_,_,_,a,_⟩:=s.lF
 exact a.2
theorem St.cells {W w:World}{b:Nat}{T:TypeId}{cs:Array Value}{L:List Pc}(S:St W w L)(i:Nat)(e:L[i]?=some (rowP b T cs)):(∀i,w.cell? ⟨b,i,none⟩=cs[i]?)∧(∀i,w.frozen? ⟨b,i,none⟩=false)∧b<w.heap.size:=ahJ (S.row i e)
theorem St.alloc {W w:World}{L:List Pc}(S:St W w L)(cs:Array Value)(T:TypeId):St W (w.alloc (.cells cs T)) (rowP w.heap.size T cs::L):=
 S.more ((Ext.refl w).alloc _) (F:= [w.heap.size]) ⟨rfl,OY w _⟩ (by simp) (by simp)
theorem St.skip {W w:World}{L:List Pc}(S:St W w L)(o:Obj):St W (w.alloc o) L:=S.call ((Ext.refl w).alloc o)
theorem St.set {W w w':World}{b:Nat}{T:TypeId}{cs cs':Array Value}{L:List Pc}(S:St W w (rowP b T cs::L))(h:w'.heap[b]?=some (.cells cs' T (0,0)))(g:w.grownBy w' (some b)):St W w' (rowP b T cs'::L):=by
 obtain⟨F,⟨rfl,_⟩,_,hb,k⟩:=S.open_
 have hb2:=hb b (by simp)
 refine k w' _ [b] g.os g.tape g.output g.size (fun c hc hne=>g.block c hc (fun e=>hne (by injection e with e;simp [e]))) ⟨rfl,h⟩ (by simp) (fun c hc=>?_)
 have:=g.size
 simp at hc;subst hc;exact⟨.inl (by simp),by omega⟩
theorem flat_get {α:Type}{k:Nat}:∀(rows:List (List α)) (i j:Nat) (r:List α) (d:α),(∀r∈rows,r.length=k)→rows[i]?=some r→r[j]?=some d→rows.flatten[i*k+j]?=some d
 | [],i,j,r,d,_,h,_=>by simp at h
 | r0::rows,0,j,r,d,u,h,e=>by
  simp at h;subst h
  rw [List.flatten_cons,Nat.zero_mul,Nat.zero_add,List.getElem?_append_left (List.getElem?_eq_some_iff.1 e).1];exact e
 | r0::rows,i+1,j,r,d,u,h,e=>by
  have h0:r0.length=k:=u r0 (by simp)
  rw [List.flatten_cons,List.getElem?_append_right (by rw [h0,Nat.succ_mul];omega),h0,show(i+1)*k+j-k=i*k+j by rw [Nat.succ_mul];omega]
  exact flat_get rows i j r d (fun r hr=>u r (List.mem_cons_of_mem _ hr)) (by simpa using h) e
theorem jf {α:Type}{k:Nat}:∀(rows:List (List α)),(∀r∈rows,r.length=k)→rows.flatten.length=rows.length*k
 | [],_=>by simp
 | r0::rows,u=>by
  rw [List.flatten_cons,List.length_append,u r0 (by simp),jf rows fun r hr=>u r (List.mem_cons_of_mem _ hr),List.length_cons,Nat.succ_mul];omega
theorem y8 {α:Type}{k:Nat}:∀(rows:List (List α)) (i j:Nat) (r:List α) (d:α),(∀r∈rows,r.length=k)→rows[i]?=some r→j<k→(rows.set i (r.set j d)).flatten=rows.flatten.set (i*k+j) d
 | [],i,j,r,d,_,h,_=>by simp at h
 | r0::rows,0,j,r,d,u,h,e=>by
  simp at h;subst h
  have h0:r0.length=k:=u r0 (by simp)
  simp [h0,e]
 | r0::rows,i+1,j,r,d,u,h,e=>by
  have h0:r0.length=k:=u r0 (by simp)
  have hn:¬((i+1)*k+j<r0.length):=by rw [h0,Nat.succ_mul];omega
  simp only [List.set_cons_succ,List.flatten_cons,List.set_append,hn,if_false]
  rw [y8 rows i j r d (fun r hr=>u r (List.mem_cons_of_mem _ hr)) (by simpa using h) e,h0,show(i+1)*k+j-k=i*k+j by rw [Nat.succ_mul];omega]
def jT (w:World):Nat→Obj→Prop:=fun b o=>w.heap[b]?=some o
inductive wL (G:Nat→Obj→Prop):D→Value→Prop
 | a (x:Value):wL G (.a x) x
 | gone (u:Value) (h:u.oneCell'=true):wL G .gone u
 | nil (A:Option Addr) (c:Nat) (hm:c≤9223372036854775807) (hA0:A=none→c=0):wL G (.l []) (.slice A 0 c)
 | l (rows:List (List D)) (n c b o k:Nat) (T:TypeId) (fr:Nat×Nat) (cs:Array Value) (us:Nat→Value) (hn:rows.length=n) (h0:0<n) (hc:n≤c) (hm:c≤9223372036854775807) (hk:0<k) (hu:∀r∈rows,r.length=k) (hb:G b (.cells cs T fr))
   (hcell:∀i d,rows.flatten[i]?=some d→cs[o+i]?=some (us i)) (hr:∀i d,rows.flatten[i]?=some d→wL G d (us i)):wL G (.l rows) (.slice (some ⟨b,o,none⟩) n c)
theorem wL.mono {G G':Nat→Obj→Prop}{v:Value}{d:D}(h:wL G d v)(x:∀b o,G b o→G' b o):wL G' d v:=by
 induction h with
 | a v=>exact .a v
 | gone u hu=>exact .gone u hu
 | nil A c h1 h2=>exact .nil A c h1 h2
 | l rows n c b o k T fr cs us h1 h2 h3 h4 h5 h6 h7 h8 _ ih=>exact .l rows n c b o k T fr cs us h1 h2 h3 h4 h5 h6 (x _ _ h7) h8 ih
theorem wL.atom {G:Nat→Obj→Prop}{v u:Value}(h:wL G (.a v) u):u=v:=by cases h;rfl
theorem wL.len {G:Nat→Obj→Prop}{v:Value}{rows:List (List D)}(h:wL G (.l rows) v):∃A c,v= .slice A rows.length c∧rows.length≤c∧c≤9223372036854775807∧(A=none→c=0):=by
 cases h with
 | nil A c h1 h2=>exact⟨A,c,rfl,Nat.zero_le _,h1,h2⟩
 | l _ n c b o k T fr cs us h1 h2 h3 h4=>exact⟨some ⟨b,o,none⟩,c,by rw [h1],by omega,h4,fun h=>by cases h⟩
theorem wL.at_ {G:Nat→Obj→Prop}{v:Value}{rows:List (List D)}(h:wL G (.l rows) v){i:Nat}{r:List D}(hi:rows[i]?=some r):
  ∃c b o T fr cs,v= .slice (some ⟨b,o,none⟩) rows.length c∧G b (.cells cs T fr)∧∀(j:Nat) (d:D),r[j]?=some d→∃u,cs[o+(i*r.length+j)]?=some u∧wL G d u:=by
 cases h with
 | nil A c h1 h2=>simp at hi
 | l _ n c b o k T fr cs us h1 h2 h3 h4 h5 h6 h7 h8 h9=>
  have hk:r.length=k:=h6 r (List.mem_of_getElem? hi)
  refine⟨c,b,o,T,fr,cs,by rw [h1],h7,fun j d e=>?_⟩
  have f:=flat_get rows i j r d h6 hi e
  rw [hk]
  exact⟨_,h8 _ _ f,h9 _ _ f⟩
inductive pG (w:World):D→Value→List Nat→Prop
 | a (x:Value):pG w (.a x) x []
 | gone (u:Value) (h:u.oneCell'=true):pG w .gone u []
 | nil (A:Option Addr) (F:List Nat):pG w (.l []) (.slice A 0 0) F
 | l (rows:List (List D)) (n c g o k:Nat) (T:TypeId) (cs:Array Value) (us:Nat→Value) (fs:Nat→List Nat) (hn:rows.length=n) (hc:n≤c) (hm:c≤maxLen) (hk:0<k) (hu:∀r∈rows,r.length=k) (hs:cs.size=o+c*k) (h0:rows= []→c=0)
   (hb:w.heap[g]?=some (.cells cs T (0,0))) (hcell:∀i d,rows.flatten[i]?=some d→cs[o+i]?=some (us i)) (hr:∀i d,rows.flatten[i]?=some d→pG w d (us i) (fs i)):
   pG w (.l rows) (.slice (some ⟨g,o,none⟩) n c) (g::(List.range rows.flatten.length).flatMap fs)
theorem pG.st {w w':World}{v:Value}{d:D}{F:List Nat}(h:pG w d v F)(hk:∀b∈F,w'.heap[b]?=w.heap[b]?):pG w' d v F:=by
 induction h with
 | a v=>exact .a v
 | gone u hu=>exact .gone u hu
 | nil A F=>exact .nil A F
 | l rows n c g o k T cs us fs h1 h2 h3 h4 h5 h6 h0 h7 h8 _ ih=>
  refine .l rows n c g o k T cs us fs h1 h2 h3 h4 h5 h6 h0 ((hk g List.mem_cons_self).trans h7) h8 (fun i d e=>ih i d e fun b hb=>hk b (List.mem_cons_of_mem _ (List.mem_flatMap.2 ⟨i,?_,hb⟩)))
  exact List.mem_range.2 (List.getElem?_eq_some_iff.1 e).1
theorem pG.rd {w:World}{v:Value}{d:D}{F:List Nat}(h:pG w d v F){G:Nat→Obj→Prop}(x:∀b∈F,∀o,w.heap[b]?=some o→G b o):wL G d v:=by
 induction h with
 | a v=>exact .a v
 | gone u hu=>exact .gone u hu
 | nil A F=>exact .nil A 0 (by omega) (fun _=>rfl)
 | l rows n c g o k T cs us fs h1 h2 h3 h4 h5 h6 h00 h7 h8 _ ih=>
  rcases Nat.eq_zero_or_pos n with h0|h0
  ·subst h0
   obtain rfl:rows= []:=List.eq_nil_of_length_eq_zero h1
   exact .nil _ c (by unfold maxLen at h3;omega) (fun h=>nomatch h)
  ·refine .l rows n c g o k T (0,0) cs us h1 h0 h2 (by unfold maxLen at h3;omega) h4 h5 (x g List.mem_cons_self _ h7) (fun i d e=>h8 i d e) (fun i d e=>ih i d e fun b hb=>x b (List.mem_cons_of_mem _ (List.mem_flatMap.2 ⟨i,?_,hb⟩)))
   exact List.mem_range.2 (List.getElem?_eq_some_iff.1 e).1
def qQ (u:Value)(rows:List (List D)):Pc:=⟨fun w F=>pG w (.l rows) u F,fun h k=>h.st k⟩
structure Hd where
 v:Value
 cv:Nat→Value
structure kL (w:World) (rows:List (List D)) (h:Hd) (F:List Nat):Prop where
 own:pG w (.l rows) h.v F
 hd:∀(g o n c:Nat) (cs:Array Value) (T:TypeId) (fr:Nat×Nat) (m:Nat) (r':List (List D)),h.v= .slice (some ⟨g,o,none⟩) n c→w.heap[g]?=some (.cells cs T fr)→rows.flatten[m]?=some (.l r')→cs[o+m]?=some (h.cv m)
theorem kL.st {w w':World}{rows:List (List D)}{h:Hd}{F:List Nat}(t:kL w rows h F)(hk:∀b∈F,w'.heap[b]?=w.heap[b]?):kL w' rows h F:=by
 refine⟨t.own.st hk,fun g ob n c cs T fr m r' e1 e2 e3=>t.hd g ob n c cs T fr m r' e1 ?_ e3⟩
 rw [←hk g ?_];exact e2
 have o:=t.own
 rw [e1]at o
 cases o with
 | nil A F=>simp at e3
 | l=>exact List.mem_cons_self
theorem pG.tree {w:World}{rows:List (List D)}{u:Value}{F:List Nat}(o:pG w (.l rows) u F):∃h:Hd,h.v=u∧kL w rows h F:=by
 cases o with
 | nil A F=>exact⟨⟨.slice A 0 0,fun _=>undef⟩,rfl, .nil A F,fun g ob n c cs T fr m r' e1 e2 e3=>by simp at e3⟩
 | l _ n c g ob k T cs us fs h1 h2 h3 h4 h5 h6 h0 h7 h8 h9=>
  refine⟨⟨_,us⟩,rfl, .l rows n c g ob k T cs us fs h1 h2 h3 h4 h5 h6 h0 h7 h8 h9,fun g' ob' n' c' cs' T' fr m r' e1 e2 e3=>?_⟩
  injection e1 with e1 _ _;injection e1 with e1;injection e1 with e1 eo _
  subst e1;subst eo
  rw [h7]at e2;injection e2 with e2;injection e2 with e2 _ _
  rw [←e2];exact h8 m _ e3
def gD (h:Hd)(rows:List (List D)):Pc:=⟨fun w F=>kL w rows h F,fun t k=>t.st k⟩
def qR:Hd:=⟨.slice none 0 0,fun _=>undef⟩
theorem kL.nil (w:World):kL w [] qR []:=⟨.nil none [],fun g ob n c cs T fr m r' e1=>by cases e1⟩
theorem St.Bg {W w:World}{h:Hd}{rows:List (List D)}{L:List Pc}(S:St W w (gD h rows::L)):St W w (qQ h.v rows::L):=by
 obtain⟨F,s,n,hb⟩:=S.sep
 obtain⟨F1,G,rfl,a,g⟩:=s.lF
 exact⟨S.ext,_, .cons (h:=qQ h.v rows) (kL.own a) g,n,hb⟩
theorem St.tree {W w:World}{u:Value}{rows:List (List D)}{L:List Pc}(S:St W w (qQ u rows::L)):∃h:Hd,h.v=u∧St W w (gD h rows::L):=by
 obtain⟨F,s,n,hb⟩:=S.sep
 obtain⟨F1,G,rfl,a,g⟩:=s.lF
 obtain⟨h,e,t⟩:=pG.tree a
 exact⟨h,e,S.ext,_, .cons (h:=gD h rows) t g,n,hb⟩
theorem St.abW {W w:World}{h:Hd}{rows:List (List D)}{L:List Pc}(S:St W w L)(hm:gD h rows∈L):∃F,kL w rows h F:=by
 obtain⟨i,e⟩:=List.getElem?_of_mem hm
 obtain⟨F,s,_,_⟩:=(S.bring i e).sep
 obtain⟨F1,_,rfl,a,_⟩:=s.lF
 exact⟨F1,a⟩
theorem St.aeE {W w:World}{u:Value}{rows:List (List D)}{L:List Pc}(S:St W w L)(h:qQ u rows∈L):∃F,pG w (.l rows) u F:=by
 obtain⟨i,e⟩:=List.getElem?_of_mem h
 obtain⟨F,s,_,_⟩:=(S.bring i e).sep
 obtain⟨F1,_,rfl,a,_⟩:=s.lF
 exact⟨F1,a⟩
theorem St.rd {W w:World}{u:Value}{rows:List (List D)}{L:List Pc}(S:St W w L)(h:qQ u rows∈L):wL (jT w) (.l rows) u:=by
 obtain⟨F,a⟩:=S.aeE h
 exact a.rd fun _ _ _ e=>e
theorem St.MI {W w:World}{b:Nat}{T:TypeId}{cs:Array Value}{L:List Pc}(S:St W w L)(h:rowP b T cs∈L):w.heap[b]?=some (.cells cs T (0,0)):=by
 obtain⟨i,e⟩:=List.getElem?_of_mem h
 exact S.row i e
def lI (w0:World)(F:List Nat):Pc:=⟨fun w F'=>F'=F∧∀b∈F,w.heap[b]?=w0.heap[b]?,fun h k=>⟨h.1,fun b hb=>(k b (by rw [h.1];exact hb)).trans (h.2 b hb)⟩⟩
theorem St.UW {W w w0:World}{F:List Nat}{L:List Pc}(S:St W w L)(h:lI w0 F∈L):∀b∈F,w.heap[b]?=w0.heap[b]?:=by
 obtain⟨i,e⟩:=List.getElem?_of_mem h
 obtain⟨G,s,_,_⟩:=(S.bring i e).sep
 obtain⟨F1,_,rfl,a,_⟩:=s.lF
 exact a.2
theorem acP {W w:World}(h:∀b o,jT W b o→w.heap[b]?=some o){b i:Nat}{v:Value}(hc:W.cell? ⟨b,i,none⟩=some v):w.cell? ⟨b,i,none⟩=some v:=by
 have hb:b<W.heap.size:=World.block_lt_of_cell? W _ hc
 have e0:W.heap[b]?=some W.heap[b]:=Array.getElem?_eq_getElem hb
 have e:w.heap[b]?=W.heap[b]?:=(h b _ e0).trans e0.symm
 unfold World.cell? at hc⊢
 rw [e];exact hc
def UY (w:World):Prop:= ∃m:Int,w.cell? ⟨0,0,none⟩=some (.int .i64 m)
theorem UY.keep {W w:World}(h:∀b o,jT W b o→w.heap[b]?=some o)(z:UY W):UY w:=z.imp fun _ e=>acP h e
def ZW (w:World):Prop:=True
 ∧UY w
def Zed (K:Nat→Obj→Prop):Prop:= ∀w:World,(∀b o,K b o→w.heap[b]?=some o)→ZW w
theorem ags {W:World}(z:ZW W):Zed (jT W):=fun w h=>by
 exact⟨trivial,z.2.keep h⟩
end Go.Proofs.YtlpdjhiggpblcaaGreat
namespace Go.Proofs.YtlpdjhiggpblcaaGreat
open Go.RowKit
set_option linter.unusedSimpArgs false
set_option linter.unusedVariables false
def UZ (es:List (Int×Int))(ents:Array MapEntry):Prop:=ents.toList.map (fun e=>(e.key,e.val))=es.map fun p=>(Value.int .i64 p.1,Value.int .i64 p.2)
def Pw (G:Nat→Obj→Prop)(es:List (Int×Int))(u:Value):Prop:= ∃b ents clock,u= .map (some b)∧G b (.map ents clock)∧UZ es ents
theorem Pw.mono {G G':Nat→Obj→Prop}{es:List (Int×Int)}{u:Value}(h:Pw G es u)(x:∀b o,G b o→G' b o):Pw G' es u:=by
 obtain⟨b,ents,clock,h1,h2,h3⟩:=h
 exact⟨b,ents,clock,h1,x _ _ h2,h3⟩
structure Rel where
 K:Nat→Obj→Prop
 Z:Nat→Obj→Prop
 src:Nat→Value
 bl:Nat→Nat
 hd:Nat→Hd
 Lb:Nat→Prop
 Lt:Nat→Prop
mutual
def RV (ρ:Rel):V→Value→Prop
 | .v x,u=>u=x
 | .nil,u=>u= .slice none 0 0
 | .aP o rows,u=>wL ρ.K (.l rows) u∧∀j,o=some j→ρ.src j=u
 | .own p,u=>ρ.Lt p∧u=(ρ.hd p).v
 | .inn p i j k,u=>ρ.Lt p∧u=(ρ.hd p).cv (i*k+j)∧u.oneCell'=true
 | .fz rows,u=>wL ρ.Z (.l rows) u
 | .mp es,u=>Pw ρ.Z es u
 | .ref b off,u=>ρ.Lb b∧u= .pointer (some ⟨ρ.bl b,off,none⟩)
 | .pe base k i off,u=> ∃ub,RV ρ base ub∧∃g o n c,ub= .slice (some ⟨g,o,none⟩) n c∧i<n∧u= .pointer (some ⟨g,o+(i*k+off),none⟩)
 | .agg cs,u=> ∃us,u= .agg us.toArray∧jk ρ cs us
 | .fK cs,u=> ∃us,u= .tuple us.toArray∧jk ρ cs us
 | .fn f cs,u=> ∃us,u= .func (.func f) #[] us.toArray∧jk ρ cs us
 | .dead,_=>True
def jk (ρ:Rel):List V→List Value→Prop
 | [],us=>us= []
 | v::r,us=> ∃u q,us=u::q∧RV ρ v u∧jk ρ r q
end
structure Rel.le (ρ ρ':Rel):Prop where
 K:∀b o,ρ.K b o→ρ'.K b o
 Z:∀b o,ρ.Z b o→ρ'.Z b o
 src:ρ'.src=ρ.src
 b:∀b,ρ.Lb b→ρ'.Lb b∧ρ'.bl b=ρ.bl b
 t:∀p,ρ.Lt p→ρ'.Lt p∧ρ'.hd p=ρ.hd p
theorem Rel.le.refl (ρ:Rel):ρ.le ρ:=⟨fun _ _ h=>h,fun _ _ h=>h,rfl,fun _ h=>⟨h,rfl⟩,fun _ h=>⟨h,rfl⟩⟩
mutual
theorem RV.le {ρ ρ':Rel}(e:ρ.le ρ'):∀{v:V} {u:Value},RV ρ v u→RV ρ' v u
 | .v _,_,h=>h
 | .nil,_,h=>h
 | .aP _ _,_,h=>⟨h.1.mono e.K,fun j i=>by rw [e.src];exact h.2 j i⟩
 | .own p,_,h=>⟨(e.t p h.1).1,by rw [(e.t p h.1).2];exact h.2⟩
 | .inn p _ _ _,_,h=>⟨(e.t p h.1).1,by rw [(e.t p h.1).2];exact h.2⟩
 | .fz _,_,h=>wL.mono h e.Z
 | .mp _,_,h=>Pw.mono h e.Z
 | .ref b _,_,h=>⟨(e.b b h.1).1,by rw [(e.b b h.1).2];exact h.2⟩
 | .pe _ _ _ _,_,h=>by obtain⟨ub,h1,h2⟩:=h;exact⟨ub,RV.le e h1,h2⟩
 | .agg _,_,h=>by obtain⟨us,h1,h2⟩:=h;exact⟨us,h1,jk.le e h2⟩
 | .fK _,_,h=>by obtain⟨us,h1,h2⟩:=h;exact⟨us,h1,jk.le e h2⟩
 | .fn _ _,_,h=>by obtain⟨us,h1,h2⟩:=h;exact⟨us,h1,jk.le e h2⟩
 | .dead,_,_=>trivial
theorem jk.le {ρ ρ':Rel}(e:ρ.le ρ'):∀{vs:List V} {us:List Value},jk ρ vs us→jk ρ' vs us
 | [],_,h=>h
 | _::_,_,h=>by obtain⟨u,q,h1,h2,h3⟩:=h;exact⟨u,q,h1,RV.le e h2,jk.le e h3⟩
end
mutual
theorem RV.less {ρ ρ':Rel}{p:Nat}(hK:ρ'.K=ρ.K)(hZ:∀b o,ρ.Z b o→ρ'.Z b o)(hs:ρ'.src=ρ.src)(hb:∀b,ρ.Lb b→ρ'.Lb b∧ρ'.bl b=ρ.bl b)(ht:∀q,q≠p→ρ.Lt q→ρ'.Lt q∧ρ'.hd q=ρ.hd q):
  ∀{v:V} {u:Value},aM p v=false→RV ρ v u→RV ρ' v u
 | .v _,_,_,h=>h
 | .nil,_,_,h=>h
 | .aP _ _,_,_,h=>⟨by rw [hK];exact h.1,fun j i=>by rw [hs];exact h.2 j i⟩
 | .own q,_,m,h=>by
  have hq:q≠p:=by intro e;subst e;simp [aM]at m
  exact⟨(ht q hq h.1).1,by rw [(ht q hq h.1).2];exact h.2⟩
 | .inn q _ _ _,_,m,h=>by
  have hq:q≠p:=by intro e;subst e;simp [aM]at m
  exact⟨(ht q hq h.1).1,by rw [(ht q hq h.1).2];exact h.2⟩
 | .fz _,_,_,h=>wL.mono h hZ
 | .mp _,_,_,h=>Pw.mono h hZ
 | .ref b _,_,_,h=>⟨(hb b h.1).1,by rw [(hb b h.1).2];exact h.2⟩
 | .pe _ _ _ _,_,m,h=>by obtain⟨ub,h1,h2⟩:=h;exact⟨ub,RV.less hK hZ hs hb ht (by simpa [aM] using m) h1,h2⟩
 | .agg _,_,m,h=>by obtain⟨us,h1,h2⟩:=h;exact⟨us,h1,jk.less hK hZ hs hb ht (by simpa [aM] using m) h2⟩
 | .fK _,_,m,h=>by obtain⟨us,h1,h2⟩:=h;exact⟨us,h1,jk.less hK hZ hs hb ht (by simpa [aM] using m) h2⟩
 | .fn _ _,_,m,h=>by obtain⟨us,h1,h2⟩:=h;exact⟨us,h1,jk.less hK hZ hs hb ht (by simpa [aM] using m) h2⟩
 | .dead,_,_,_=>trivial
theorem jk.less {ρ ρ':Rel}{p:Nat}(hK:ρ'.K=ρ.K)(hZ:∀b o,ρ.Z b o→ρ'.Z b o)(hs:ρ'.src=ρ.src)(hb:∀b,ρ.Lb b→ρ'.Lb b∧ρ'.bl b=ρ.bl b)(ht:∀q,q≠p→ρ.Lt q→ρ'.Lt q∧ρ'.hd q=ρ.hd q):
  ∀{vs:List V} {us:List Value},aM.any p vs=false→jk ρ vs us→jk ρ' vs us
 | [],_,_,h=>h
 | _::_,_,m,h=>by
  simp [aM.any]at m
  obtain⟨u,q,h1,h2,h3⟩:=h;exact⟨u,q,h1,RV.less hK hZ hs hb ht m.1 h2,jk.less hK hZ hs hb ht m.2 h3⟩
end
theorem jk.len {ρ:Rel}:∀{vs:List V} {us:List Value},jk ρ vs us→us.length=vs.length
 | [],_,h=>by rw [show _= []from h];rfl
 | _::_,_,h=>by obtain⟨u,q,rfl,h2,h3⟩:=h;rw [List.length_cons,List.length_cons,h3.len]
theorem jk.get {ρ:Rel}:∀{vs:List V} {us:List Value} {i:Nat} {v:V},jk ρ vs us→vs[i]?=some v→∃u,us[i]?=some u∧RV ρ v u
 | [],_,i,v,_,e=>by simp at e
 | _::_,_,0,v,h,e=>by obtain⟨u,q,rfl,h2,h3⟩:=h;simp at e;subst e;exact⟨u,rfl,h2⟩
 | _::_,_,i+1,v,h,e=>by obtain⟨u,q,rfl,h2,h3⟩:=h;simpa using h3.get (i:=i) (by simpa using e)
theorem jk.of {ρ:Rel}:∀{vs:List V} {us:List Value},us.length=vs.length→(∀(i:Nat) (v:V) (u:Value),vs[i]?=some v→us[i]?=some u→RV ρ v u)→jk ρ vs us
 | [],us,hl,_=>by cases us with|nil=>rfl|cons=>simp at hl
 | v::vs,us,hl,h=>by
  cases us with
  | nil=>simp at hl
  | cons u us=>exact⟨u,us,rfl,h 0 v u rfl rfl,jk.of (by simpa using hl) fun i v' u' e1 e2=>h (i+1) v' u' (by simpa using e1) (by simpa using e2)⟩
theorem jk.app {ρ:Rel}:∀{vs ws:List V} {us xs:List Value},jk ρ vs us→jk ρ ws xs→jk ρ (vs++ws) (us++xs)
 | [],_,_,_,h,k=>by rw [show _= []from h];exact k
 | _::_,_,_,_,h,k=>by obtain⟨u,q,rfl,h2,h3⟩:=h;exact⟨u,q++_,rfl,h2,h3.app k⟩
theorem jk.drop {ρ:Rel}:∀(n:Nat) {vs:List V} {us:List Value},jk ρ vs us→jk ρ (vs.drop n) (us.drop n)
 | 0,_,_,h=>h
 | n+1,[],_,h=>by rw [show _= []from h];rfl
 | n+1,_::_,_,h=>by obtain⟨u,q,rfl,h2,h3⟩:=h;exact h3.drop n
theorem jk.take {ρ:Rel}:∀(n:Nat) {vs:List V} {us:List Value},jk ρ vs us→jk ρ (vs.take n) (us.take n)
 | 0,_,_,_=>rfl
 | n+1,[],_,h=>by rw [show _= []from h];rfl
 | n+1,_::_,_,h=>by obtain⟨u,q,rfl,h2,h3⟩:=h;exact⟨u,_,rfl,h2,h3.take n⟩
theorem jk.set {ρ:Rel}{v:V}{u:Value}(k:RV ρ v u):∀(n:Nat) {vs:List V} {us:List Value},jk ρ vs us→jk ρ (vs.set n v) (us.set n u)
 | _,[],_,h=>by rw [show _= []from h];rfl
 | 0,_::_,_,h=>by obtain⟨u',q,rfl,h2,h3⟩:=h;exact⟨u,q,rfl,k,h3⟩
 | n+1,_::_,_,h=>by obtain⟨u',q,rfl,h2,h3⟩:=h;exact⟨u',_,rfl,h2,h3.set k n⟩
section
variable {α:Type}
theorem K5 {k:Nat}{x:α}:∀{l:List (Nat×α)} (j:Nat),look j (put k x l)=if j=k then some x else look j l
 | [],j=>by simp only [put,look]
 | (i,y)::r,j=>by
  unfold put
  by_cases h:k=i
  ·subst h;rw [if_pos rfl];simp only [look];split<;>rfl
  ·rw [if_neg h]
   by_cases h2:i<k
   ·rw [if_pos h2];simp only [look]
   ·rw [if_neg h2];simp only [look]
    by_cases h3:j=i
    ·subst h3;rw [if_pos rfl,if_pos rfl,if_neg fun e=>h e.symm]
    ·rw [if_neg h3,if_neg h3,K5 j]
theorem ru {k:Nat}:∀{l:List (Nat×α)} (j:Nat),look j (drop1 k l)=if j=k then none else look j l
 | [],j=>by simp only [drop1,look];split<;>rfl
 | (i,y)::r,j=>by
  unfold drop1
  by_cases h:k=i
  ·subst h;rw [if_pos rfl,ru j];simp only [look]
   by_cases h3:j=k
   ·rw [if_pos h3,if_pos h3]
   ·rw [if_neg h3,if_neg h3,if_neg h3]
  ·rw [if_neg h];simp only [look]
   by_cases h3:j=i
   ·subst h3;rw [if_pos rfl,if_pos rfl,if_neg fun e=>h e.symm]
   ·rw [if_neg h3,if_neg h3,ru j]
theorem fD {k:Nat}{x:α}:∀{l:List (Nat×α)},look k l=some x→(k,x)∈l
 | [],h=>by cases h
 | (i,y)::r,h=>by
  simp only [look]at h
  split at h
  ·rename_i e;subst e;injection h with h;subst h;exact List.mem_cons_self
  ·exact List.mem_cons_of_mem _ (fD h)
theorem jY {k:Nat}:∀{l:List (Nat×α)},look k l=none→k∉l.map (·.1)
 | [],_=>by simp
 | (i,y)::r,h=>by
  simp only [look]at h
  split at h
  ·cases h
  ·rename_i e;simp only [List.map_cons,List.mem_cons,not_or];exact⟨e,jY h⟩
theorem jZ {k:Nat}{x:α}:∀{l:List (Nat×α)},(l.map (·.1)).Nodup→(k,x)∈l→look k l=some x
 | [],_,h=>by cases h
 | (i,y)::r,n,h=>by
  simp only [List.map_cons,List.nodup_cons]at n
  simp only [look]
  rcases List.mem_cons.1 h with h|hm
  ·injection h with h1 h2;subst h1;subst h2;rw [if_pos rfl]
  ·have:k≠i:=by intro e;subst e;exact n.1 (List.mem_map.2 ⟨(k,x),hm,rfl⟩)
   rw [if_neg this];exact jZ n.2 hm
theorem oN {k:Nat}{x:α}:∀(l:List (Nat×α)),(upd k x l).map (·.1)=l.map (·.1)
 | []=>rfl
 | (i,y)::r=>by
  unfold upd;split
  ·rename_i e;subst e;rfl
  ·rw [List.map_cons,List.map_cons,oN r]
theorem U0 {k j:Nat}{x y:α}:∀{l:List (Nat×α)},(l.map (·.1)).Nodup→(j,y)∈upd k x l→(j=k∧y=x)∨(j≠k∧(j,y)∈l)
 | [],_,h=>by cases h
 | (i,z)::r,n,h=>by
  simp only [List.map_cons,List.nodup_cons]at n
  unfold upd at h
  split at h
  ·rename_i e;subst e
   rcases List.mem_cons.1 h with h|hm
   ·injection h with h1 h2;exact .inl ⟨h1,h2⟩
   ·exact .inr ⟨fun e=>n.1 (by rw [←e];exact List.mem_map.2 ⟨(j,y),hm,rfl⟩),List.mem_cons_of_mem _ hm⟩
  ·rename_i e
   rcases List.mem_cons.1 h with h|h
   ·injection h with h1 h2;subst h1;subst h2;exact .inr ⟨fun e2=>e e2.symm,List.mem_cons_self⟩
   ·rcases U0 n.2 h with h|h
    ·exact .inl h
    ·exact .inr ⟨h.1,List.mem_cons_of_mem _ h.2⟩
theorem sS {k:Nat}{x:α}:∀{l:List (Nat×α)},look k l=some x→∃a b,l=a++(k,x)::b∧(∀y,upd k y l=a++(k,y)::b)∧((l.map (·.1)).Nodup→drop1 k l=a++b)
 | [],h=>by cases h
 | (i,z)::r,h=>by
  simp only [look]at h
  by_cases e:k=i
  ·subst e;rw [if_pos rfl]at h;injection h with h;subst h
   refine⟨[],r,rfl,fun y=>by unfold upd;rw [if_pos rfl];rfl,fun n=>?_⟩
   simp only [List.map_cons,List.nodup_cons]at n
   unfold drop1;rw [if_pos rfl]
   have:∀{l:List (Nat×α)},k∉l.map (·.1)→drop1 k l=l:=by
    intro l;induction l with
    | nil=>intro _;rfl
    | cons y l ih=>intro hn;simp only [List.map_cons,List.mem_cons,not_or]at hn;obtain⟨j,y⟩:=y;unfold drop1;rw [if_neg hn.1,ih hn.2]
   exact this n.1
  ·rw [if_neg e]at h
   obtain⟨a,b,h1,h2,h3⟩:=sS h
   refine⟨(i,z)::a,b,by rw [h1];rfl,fun y=>by unfold upd;rw [if_neg e,h2];rfl,fun n=>?_⟩
   simp only [List.map_cons,List.nodup_cons]at n
   unfold drop1;rw [if_neg e,h3 n.2];rfl
end
structure Ctx where
 W:World
 L:List Pc
 K:Nat→Obj→Prop
 src:Nat→Value
 n:Nat
 hK:∀w,St W w L→∀b o,K b o→w.heap[b]?=some o
 bF:Nat→Nat
 hF:Nat→Hd
 zed:Zed K
def dJ (bl:Nat→Nat)(T:Nat→TypeId)(us:Nat→Array Value)(l:List (Nat×List V)):List Pc:=l.map fun x=>rowP (bl x.1) (T x.1) (us x.1)
def bW (hd:Nat→Hd)(l:List (Nat×List (List D))):List Pc:=l.map fun x=>gD (hd x.1) x.2
def gI (w0:Nat→World)(F:Nat→List Nat)(l:List (Nat×List (List D))):List Pc:=l.map fun x=>lI (w0 x.1) (F x.1)
structure Lay where
 bl:Nat→Nat
 hd:Nat→Hd
 T:Nat→TypeId
 us:Nat→Array Value
 w0:Nat→World
 F:Nat→List Nat
def aX (c:Ctx)(s:S)(y:Lay):Rel:=
 {K:=c.K,Z:=fun b o=> ∃p,p∈s.dG.map (·.1)∧b∈y.F p∧(y.w0 p).heap[b]?=some o,src:=c.src,bl:=y.bl,hd:=y.hd,Lb:=fun b=>b∈s.box.map (·.1),Lt:=fun p=>p∈(s.tree++s.dG).map (·.1)}
structure At (c:Ctx) (s:S) (y:Lay) (a:Act) (w:World):Prop where
 defers:a.defers= []
 size:a.tmps.size=c.n
 st:St c.W w (dJ y.bl y.T y.us s.box++(bW y.hd s.tree++(gI y.w0 y.F s.dG++c.L)))
 env:∀t v,look t s.env=some v→RV (aX c s y) v (a.tmps.getD t undef)
 box:∀b cs,(b,cs)∈s.box→jk (aX c s y) cs (y.us b).toList
 dG:∀p rows,(p,rows)∈s.dG→kL (y.w0 p) rows (y.hd p) (y.F p)
 nb:(s.box.map (·.1)).Nodup
 nt:((s.tree++s.dG).map (·.1)).Nodup
 fix:c.n≤aU∧∀i,aU≤i→i<2*aU→y.bl i=c.bF i∧y.hd i=c.hF i
def Good (c:Ctx)(s:S)(a:Act)(w:World):Prop:= ∃y,At c s y a w
theorem Sep.perm {w:World}{L L':List Pc}(p:L.Perm L'):∀{F:List Nat},Sep w L F→∃F',Sep w L' F'∧F'.Perm F:=by
 induction p with
 | nil=>intro F s;exact⟨F,s,List.Perm.refl _⟩
 | cons x _ ih=>
  intro F s
  obtain⟨F1,G,rfl,a,g⟩:=s.lF
  obtain⟨G',g',pg⟩:=ih g
  exact⟨F1++G', .cons a g',List.Perm.append_left _ pg⟩
 | swap x y l=>intro F s;exact s.swap
 | trans _ _ ih1 ih2=>
  intro F s
  obtain⟨F1,s1,p1⟩:=ih1 s
  obtain⟨F2,s2,p2⟩:=ih2 s1
  exact⟨F2,s2,p2.trans p1⟩
theorem St.perm {W w:World}{L L':List Pc}(S:St W w L)(p:L.Perm L'):St W w L':=by
 obtain⟨F,s,n,hb⟩:=S.sep
 obtain⟨F',s',pf⟩:=s.perm p
 exact⟨S.ext,F',s',pf.nodup_iff.2 n,fun b h=>hb b (pf.mem_iff.1 h)⟩
theorem St.rU {W w:World}:∀{L1 L2:List Pc},St W w (L1++L2)→St W w L2
 | [],_,S=>S
 | _::_,_,S=>St.rU S.drop
end Go.Proofs.YtlpdjhiggpblcaaGreat
namespace Go.Proofs.YtlpdjhiggpblcaaGreat
set_option linter.unusedSectionVars false
set_option linter.unusedSimpArgs false
set_option linter.unusedVariables false
open Go.RowKit
theorem acQ (c:Ctx)(s:S)(y:Lay)(d:Option Nat)(v:V):aX c (s.put d v) y=aX c s y:=by cases d<;>rfl
theorem ZH (c:Ctx)(s:S)(y:Lay)(d:Option Nat):aX c (s.skip d) y=aX c s y:=by cases d<;>rfl
theorem Xf (a:Act)(d:Option Nat)(u:Value):(a.put d u).tmps.size=a.tmps.size:=by cases d<;>simp [Act.put]
theorem abX (a:Act)(d t:Nat)(u:Value)(h:d<a.tmps.size):(a.put (some d) u).tmps.getD t undef=if t=d then u else a.tmps.getD t undef:=by
 by_cases e:t=d
 ·subst e;simp [Act.put,h]
 ·rw [if_neg e];simp [Act.put,Array.getElem?_setIfInBounds_ne (fun x=>e x.symm)]
def fM (n:Nat)(d:Option Nat):Bool:=match d with
 | some d=>decide (d<n)
 | none=>true
theorem fM.lt {n d:Nat}(h:fM n (some d)=true):d<n:=by simpa [fM] using h
section
variable {P:Program} {c:Ctx} {s:S} {y:Lay} {a:Act} {w:World}
theorem At.value (A:At c s y a w){v:V}{u:Value}(h:RV (aX c s y) v u){d:Option Nat}(hd':fM c.n d=true):At c (s.put d v) y (a.put d u) w:=by
 cases d with
 | none=>exact A
 | some d=>
  refine⟨A.defers,by rw [Xf];exact A.size,A.st,fun t v' e=>?_,A.box,A.dG,A.nb,A.nt,A.fix⟩
  rw [acQ]
  have e:look t (put d v s.env)=some v':=e
  rw [K5]at e
  rw [abX _ _ _ _ (by rw [A.size];exact fM.lt hd')]
  by_cases h2:t=d
  ·rw [if_pos h2]at e⊢;injection e with e;subst e;exact h
  ·rw [if_neg h2]at e⊢;exact A.env t v' e
theorem At.skip (A:At c s y a w)(u:Value){d:Option Nat}:At c (s.skip d) y (a.put d u) w:=by
 cases d with
 | none=>exact A
 | some d=>
  refine⟨A.defers,by rw [Xf];exact A.size,A.st,fun t v' e=>?_,A.box,A.dG,A.nb,A.nt,A.fix⟩
  rw [ZH]
  have e:look t (drop1 d s.env)=some v':=e
  rw [ru]at e
  by_cases h2:t=d
  ·rw [if_pos h2]at e;cases e
  ·rw [if_neg h2]at e
   have:(a.put (some d) u).tmps.getD t undef=a.tmps.getD t undef:=by simp [Act.put,Array.getElem?_setIfInBounds_ne (fun x=>h2 x.symm)]
   rw [this];exact A.env t v' e
theorem U3 {ρ:Rel}(x:Value):RV ρ (xS x) x:=by
 unfold xS
 split
 ·rfl
 ·rfl
theorem K6 {ρ:Rel}{x:Value}{v:V}(h:uN x=some v):RV ρ v x:=by
 unfold uN at h
 split at h<;>(try cases h)<;>(try rfl)
 rename_i cs
 refine⟨cs.toList,by simp,?_⟩
 refine jk.of (by simp) fun i v u e1 e2=>?_
 rw [List.getElem?_map,e2]at e1
 simp at e1;subst e1
 exact U3 u
theorem At.ev (A:At c s y a w){x:Operand}{v:V}(h:s.ev x=some v):RV (aX c s y) v (a.eval x):=by
 cases x with
 | tmp t=>exact A.env t v h
 | const x=>exact K6 h
 | func f=>simp only [S.ev]at h;injection h with h;subst h;exact⟨[],rfl,rfl⟩
 | global g=>cases h
def Step (P:Program)(c:Ctx)(o:Oper)(s s':S):Prop:=
 ∀(a:Act) (w:World),Good c s a w→∀(next:Act→World→Prop) (Q:Exit→Act→World→Prop),(∀a' w',Good c s' a' w'→next a' w')→o.wp P a w next Q
theorem qD {o:Oper}{u:Value}{w':World}{next:Act→World→Prop}{Q:Exit→Act→World→Prop}(h:(execOp a.eval o).run P w= .ok (.value u) w')(k:next (a.put o.dst u) w'):o.wp P a w next Q:=by
 unfold Oper.wp;rw [h];exact k
theorem I9 {o:Oper}{w':World}{next:Act→World→Prop}{Q:Exit→Act→World→Prop}(h:(execOp a.eval o).run P w= .ok .skip w')(k:next (a.put o.dst undef) w'):o.wp P a w next Q:=by
 unfold Oper.wp;rw [h];exact k
theorem jr {o:Oper}{v:V}(hd':fM c.n o.dst=true)
  (h:∀y a w,At c s y a w→∃u,(execOp a.eval o).run P w= .ok (.value u) w∧RV (aX c s y) v u):Step P c o s (s.put o.dst v):=by
 intro a w G next Q k
 obtain⟨y,A⟩:=G
 obtain⟨u,hr,hv⟩:=h y a w A
 exact qD hr (k _ _ ⟨y,A.value hv hd'⟩)
theorem acR {o:Oper}{x:Operand}(ho:o.op= .move x)(hd':fM c.n o.dst=true){v:V}(h:s.ev x=some v):Step P c o s (s.put o.dst v):=
 jr hd' fun yy a w A=>⟨a.eval x,by unfold execOp;rw [ho];rfl,A.ev h⟩
theorem Xg {o:Oper}{x:Operand}(ho:o.op= .assign x)(hd':fM c.n o.dst=true){v:V}(h:s.ev x=some v):Step P c o s (s.put o.dst v):=
 jr hd' fun yy a w A=>⟨a.eval x,by unfold execOp;rw [ho];rfl,A.ev h⟩
theorem Ny {v:V}{b:Bool}(h:Ep v=some b):v= .v (.bool b):=by
 unfold Ep at h;split at h
 ·injection h with h;subst h;rfl
 ·cases h
theorem yc {v:V}{n:Int}(h:idxOf v=some n):∃k,v= .v (.int k n):=by
 unfold idxOf at h;split at h
 ·injection h with h;subst h;exact⟨_,rfl⟩
 ·cases h
theorem acS {o:Oper}{x y z:Operand}(ho:o.op= .pick x y z)(hd':fM c.n o.dst=true){b:Bool}{v:V}(hx:s.ev x=some (.v (.bool b)))(h:s.ev (if b then y else z)=some v):Step P c o s (s.put o.dst v):=
 jr hd' fun yy a w A=>by
  have e:a.eval x= .bool b:=A.ev hx
  refine⟨a.eval (if b then y else z),?_,A.ev h⟩
  unfold execOp;rw [ho]
  simp only [e]
  cases b<;>rfl
theorem acT {op:BinOp}{k:IntKind}{x y:Int}{z:Value}(h:arith op k x y=some z)(h1:op≠ .shl)(h2:op≠ .shr)(t:TypeId)(X Y:Operand)(w:World):
  (do eqGuard op t X Y (.int k x) (.int k y);binOp op t (.int k x) (.int k y):Sem Value).run P w= .ok z w:=by
 cases op<;>simp only [arith]at h<;>first
  | (exact absurd rfl h1)
  | (exact absurd rfl h2)
  | (cases h;done)
  | (injection h with h;subst h;simp [eqGuard,binOp,Op.intArith,Op.intBits,Op.intCmp];done)
  | (obtain⟨hy,h⟩:=aB h;injection h with h;subst h;simp [eqGuard,binOp,Op.intDiv,hy];done)
theorem aeF {op:BinOp}{k k':IntKind}{x y:Int}{z:Value}(h:ahB op k k' x y=some z)(t:TypeId)(X Y:Operand)(w:World):
  (do eqGuard op t X Y (.int k x) (.int k' y);binOp op t (.int k x) (.int k' y):Sem Value).run P w= .ok z w:=by
 unfold ahB at h
 split at h
 ·obtain⟨hy,h⟩:=aB h;injection h with h;subst h
  simp [eqGuard,binOp,Op.shift,show ¬y<0 by omega]
 ·obtain⟨hy,h⟩:=aB h;injection h with h;subst h
  simp [eqGuard,binOp,Op.shift,show ¬y<0 by omega]
 ·rename_i h1 h2
  obtain⟨hk,h3⟩:=aB h
  subst hk
  exact acT h3 (fun e=>h1 e) (fun e=>h2 e) t X Y w
theorem aeG {op:BinOp}{x y:ByteArray}{z:Value}(h:ahA op x y=some z)(t:TypeId)(X Y:Operand)(w:World):
  (do eqGuard op t X Y (.string x) (.string y);binOp op t (.string x) (.string y):Sem Value).run P w= .ok z w:=by
 cases op<;>simp only [ahA]at h<;>first
  | (cases h;done)
  | (injection h with h;subst h;simp [eqGuard,binOp,Op.stringOp];done)
  | (obtain⟨hy,h⟩:=aB h;injection h with h;subst h;simp [eqGuard,binOp,Op.stringOp,IntKind.max,IntKind.bits,IntKind.signed];omega)
theorem aeH {op:BinOp}{x y:Bool}{z:Value}{d:TypeDesc}(h:Zz op x y d=some z)(t:TypeId)(ht:P.underlying t=some d)(X Y:Operand)(w:World):
  (do eqGuard op t X Y (.bool x) (.bool y);binOp op t (.bool x) (.bool y):Sem Value).run P w= .ok z w:=by
 have hg:eqGuard op t X Y (.bool x) (.bool y)=pure ():=by cases op<;>rfl
 rw [hg]
 unfold Zz at h
 split at h
 ·split at h
  ·injection h with h;subst h;exact run_eql_bool w t x y ht
  ·injection h with h;subst h;exact run_neq_bool w t x y ht
  ·cases h
 ·cases h
theorem aeI {op:BinOp}{a:Addr}{z:Value}{d:TypeDesc}(h:ZA op d=some z)(t:TypeId)(ht:P.underlying t=some d)(X Y:Operand)(w:World):
  (do eqGuard op t X Y (.pointer (some a)) (.pointer none);binOp op t (.pointer (some a)) (.pointer none):Sem Value).run P w= .ok z w:=by
 have hg:eqGuard op t X Y (.pointer (some a)) (.pointer none)=pure ():=by cases op<;>rfl
 rw [hg]
 unfold ZA at h
 split at h
 ·rename_i e
  have hp:P.underlying t=some (.pointer (P.pointee t)):=by unfold Program.pointee;rw [ht]
  split at h
  ·injection h with h;subst h;exact run_eql_pointer_nil w t (some a) hp
  ·injection h with h;subst h;exact run_neq_pointer_nil w t (some a) hp
  ·cases h
 ·cases h
theorem Ti {t:TypeId}(h:agd P t=true):P.underlying t=some (.int .i64):=by
 unfold agd at h
 cases e:P.underlying t with
 | none=>rw [e]at h;cases h
 | some d=>
  rw [e]at h
  simp only [Option.map_some,Option.getD_some]at h
  unfold aiI at h;split at h
  ·rfl
  ·cases h
theorem Tj {t:TypeId}(h:agd P t=true){cs:Array Value}{n:Nat}{v:Value}(hv:cs[n]?=some v)(w:World):(part t cs n).run P w= .ok v w:=by
 have hagg:(isAgg t).run P w= .ok false w:=by
  unfold isAgg
  rw [Sem.run_bind,run_underlying (Ti h)]
  rfl
 unfold part
 rw [Sem.run_bind,hagg]
 simp [Result.andThen,hv]
theorem K7 (w:World):∀(fs:List Field) (n:Nat) (ns ms:List Int) (xs ys:Array Value),Pb P n fs=true→xs.toList.drop n=ns.map (Value.int .i64)→ys.toList.drop n=ms.map (Value.int .i64)→ns.length=fs.length→ms.length=fs.length→(Op.eqFields 9999 xs ys fs).run P w= .ok (ns==ms) w
 | [],n,ns,ms,xs,ys,_,_,_,h3,h4=>by
  have:ns= []:=List.eq_nil_of_length_eq_zero h3
  have:ms= []:=List.eq_nil_of_length_eq_zero h4
  subst ns;subst ms
  simp [Op.eqFields]
 | f::fs,n,[],ms,xs,ys,_,_,_,h3,_=>by simp at h3
 | f::fs,n,a::ns,[],xs,ys,_,_,_,_,h4=>by simp at h4
 | f::fs,n,a::ns,b::ms,xs,ys,h0,h1,h2,h3,h4=>by
  unfold Pb at h0
  simp only [Bool.and_eq_true,bne_iff_ne,ne_eq,beq_iff_eq]at h0
  obtain⟨⟨⟨k1,k2⟩,k3⟩,k4⟩:=h0
  have g:∀{zs:Array Value} {c:Int} {q:List Int},zs.toList.drop n=(c::q).map (Value.int .i64)→zs[n]?=some (.int .i64 c)∧zs.toList.drop (n+1)=q.map (Value.int .i64):=by
   intro zs c q h
   have e1:(zs.toList.drop n)[0]?=some (.int .i64 c):=by rw [h];rfl
   have e2:zs.toList.drop (n+1)=(zs.toList.drop n).drop 1:=by rw [List.drop_drop]
   refine⟨by simpa using e1,by rw [e2,h];rfl⟩
  obtain⟨g1,g2⟩:=g h1
  obtain⟨g3,g4⟩:=g h2
  have ih:=K7 w fs (n+1) ns ms xs ys k4 g2 g4 (by simpa using h3) (by simpa using h4)
  unfold Op.eqFields
  rw [if_pos k1,k2]
  simp only [Sem.run_bind,Tj k3 g1,Tj k3 g3,Result.andThen_ok,run_equalIn_int w 9998 f.type .i64 .i64 a b (Ti k3),Sem.run_ite]
  by_cases hab:a=b
  ·subst hab;simp [ih]
  ·simp [hab]
theorem Nz {cs ds:List V}{e:Bool}(h:CZ cs ds=some e):(cs= []∧ds= []∧e=true)∨∃a r b q e',cs= .v (.int .i64 a)::r∧ds= .v (.int .i64 b)::q∧CZ r q=some e'∧e=(a==b&&e'):=by
 unfold CZ at h
 split at h
 ·injection h with h;exact .inl ⟨rfl,rfl,h.symm⟩
 ·obtain⟨e',h3,h⟩:=aj h
  injection h with h
  exact .inr ⟨_,_,_,_,e',rfl,rfl,h3,h.symm⟩
 ·cases h
theorem NA {ρ:Rel}:∀{cs ds:List V} {e:Bool} {us vs:List Value},CZ cs ds=some e→jk ρ cs us→jk ρ ds vs→∃ns ms:List Int,us=ns.map (Value.int .i64)∧vs=ms.map (Value.int .i64)∧ns.length=cs.length∧ms.length=cs.length∧e=(ns==ms)
 | [],ds,e,us,vs,h,h1,h2=>by
  rcases Nz h with⟨_,rfl,rfl⟩|⟨a,r,b,q,e',h3,_⟩
  ·rw [show us= []from h1,show vs= []from h2]
   exact⟨[],[],rfl,rfl,rfl,rfl,rfl⟩
  ·cases h3
 | c::cs,ds,e,us,vs,h,h1,h2=>by
  rcases Nz h with⟨h3,_⟩|⟨a,r,b,q,e',h3,rfl,h4,rfl⟩
  ·cases h3
  ·injection h3 with e1 e3;subst e1;subst e3
   obtain⟨u,us',rfl,hu,h1⟩:=h1
   obtain⟨v,vs',rfl,hv,h2⟩:=h2
   obtain⟨ns,ms,rfl,rfl,l1,l2,rfl⟩:=NA h4 h1 h2
   refine⟨a::ns,b::ms,?_,?_,?_,?_,?_⟩
   ·rw [show u=_ from hu];rfl
   ·rw [show v=_ from hv];rfl
   ·simp [l1]
   ·simp [l2]
   ·rfl
theorem aeJ {t:TypeId}{n:Nat}(h:eqT P t=some n):P.underlying t=some (.struct (P.fieldsOf t))∧Pb P 0 (P.fieldsOf t).toList=true∧P.stoodInHeld t=false∧P.eqGuardType P.depth t=false∧(P.fieldsOf t).toList.length=n:=by
 unfold eqT at h
 obtain⟨d,h1,h⟩:=aj h
 obtain⟨fs,h2,h⟩:=aj h
 obtain⟨⟨h3,h4,h5⟩,h⟩:=aB h
 injection h with h
 unfold WV at h2
 split at h2
 ·rename_i fs'
  injection h2 with h2;subst h2
  have:P.fieldsOf t=fs':=by unfold Program.fieldsOf;rw [h1]
  rw [this]
  exact⟨h1,h3,h4,h5,h⟩
 ·cases h2
theorem Xh {o:Oper}{op:BinOp}{t t':TypeId}{x y:Operand}(ho:o.op= .binOp op t x y t'){vx vy v:V}(hx:s.ev x=some vx)(hy:s.ev y=some vy)(h:bin P t op vx vy=some v){yy:Lay}{a:Act}{w:World}(A:At c s yy a w):∃u,(execOp a.eval o).run P w= .ok (.value u) w∧RV (aX c s yy) v u:=by
 have ex:=A.ev hx
 have ey:=A.ev hy
 suffices hh:∃z,(do eqGuard op t x y (a.eval x) (a.eval y);binOp op t (a.eval x) (a.eval y):Sem Value).run P w= .ok z w∧v= .v z by
  obtain⟨z,h1,rfl⟩:=hh
  refine⟨z,?_,rfl⟩
  unfold execOp;rw [ho]
  simp only [Sem.run_bind]
  rw [Sem.run_bind]at h1
  rw [h1];rfl
 unfold bin at h
 split at h
 ·obtain⟨z,h1,h2⟩:=aj h
  injection h2 with h2
  rw [show a.eval x=_ from ex,show a.eval y=_ from ey]
  exact⟨z,aeF h1 t x y w,h2.symm⟩
 ·obtain⟨z,h1,h2⟩:=aj h
  injection h2 with h2
  rw [show a.eval x=_ from ex,show a.eval y=_ from ey]
  exact⟨z,aeG h1 t x y w,h2.symm⟩
 ·obtain⟨d,hd,h⟩:=aj h
  obtain⟨z,h1,h2⟩:=aj h
  injection h2 with h2
  rw [show a.eval x=_ from ex,show a.eval y=_ from ey]
  exact⟨z,aeH h1 t hd x y w,h2.symm⟩
 ·obtain⟨d,hd,h⟩:=aj h
  obtain⟨z,h1,h2⟩:=aj h
  injection h2 with h2
  rw [show a.eval x=_ from ex.2,show a.eval y=_ from ey]
  exact⟨z,aeI h1 t hd x y w,h2.symm⟩
 ·obtain⟨n,hn,h⟩:=aj h
  obtain⟨hl,h⟩:=aB h
  obtain⟨e,he,h⟩:=aj h
  obtain⟨h1,h2,h3,h4,h5⟩:=aeJ hn
  obtain⟨us,e1,r1⟩:=ex
  obtain⟨vs,e2,r2⟩:=ey
  obtain⟨ns,ms,rfl,rfl,l1,l2,rfl⟩:=NA he r1 r2
  rw [e1,e2]
  have hr:=K7 (P:=P) w (P.fieldsOf t).toList 0 ns ms (ns.map (Value.int .i64)).toArray (ms.map (Value.int .i64)).toArray h2 (by simp) (by simp) (by omega) (by omega)
  have hg:=run_eqGuard_agg (P:=P) w op t x y (ns.map (Value.int .i64)).toArray (ms.map (Value.int .i64)).toArray h4
  cases op<;>simp only [aej]at h<;>first|(cases h;done)|(injection h with h;subst h)
  ·exact⟨_,by rw [Sem.run_bind,hg,Result.andThen_ok,run_eql_struct,run_equalIn_agg w 9999 t _ _ h1 h3,hr];rfl,rfl⟩
  ·exact⟨_,by rw [Sem.run_bind,hg,Result.andThen_ok,run_neq_struct,run_equalIn_agg w 9999 t _ _ h1 h3,hr];rfl,rfl⟩
 ·cases h
theorem aeK {o:Oper}{op:BinOp}{t t':TypeId}{x y:Operand}(ho:o.op= .binOp op t x y t')(hd':fM c.n o.dst=true){vx vy v:V}(hx:s.ev x=some vx)(hy:s.ev y=some vy)(h:bin P t op vx vy=some v):
  Step P c o s (s.put o.dst v):=jr hd' fun _ _ _ A=>Xh ho hx hy h A
theorem agt {o:Oper}{op:UnOp}{t:TypeId}{x:Operand}(ho:o.op= .unOp op t x)(hd':fM c.n o.dst=true){vx v:V}(hx:s.ev x=some vx)(h:un op vx=some v):
  Step P c o s (s.put o.dst v):=jr hd' fun yy a w A=>by
 have ex:=A.ev hx
 unfold un at h
 split at h
 ·split at h
  ·injection h with h;subst h
   exact⟨_,by unfold execOp;simp only [ho,show a.eval x=_ from ex];simp [Op.unary,Op.intArith],rfl⟩
  ·cases h
 ·split at h
  ·injection h with h;subst h
   exact⟨_,by unfold execOp;simp only [ho,show a.eval x=_ from ex];simp [Op.unary],rfl⟩
  ·cases h
 ·cases h
theorem U4 {o:Oper}{x:Operand}{i:Nat}(ho:o.op= .extract x i)(hd':fM c.n o.dst=true){vx v:V}(hx:s.ev x=some vx)(h:Ph i vx=some v):Step P c o s (s.put o.dst v):=jr hd' fun yy a w A=>by
 have ex:=A.ev hx
 unfold Ph at h
 split at h
 ·obtain⟨us',e1,e2⟩:=ex
  obtain⟨u,h1,h2⟩:=e2.get h
  exact⟨u,by unfold execOp;simp only [ho,e1];simp [Instr.extract,h1],h2⟩
 ·cases h
theorem R3 {o:Oper}{x:Operand}(ho:o.op= .nilCheck x)(hd':fM c.n o.dst=true){vx v:V}(hx:s.ev x=some vx)(h:Nt vx=some v):Step P c o s (s.put o.dst v):=jr hd' fun yy a w A=>by
 have ex:=A.ev hx
 unfold Nt at h
 split at h
 ·injection h with h;subst h
  exact⟨_,by unfold execOp;simp only [ho,show a.eval x=_ from ex.2];rfl,ex.1,rfl⟩
 ·injection h with h;subst h
  obtain⟨ub,h1,g,q,n,cc,h2,h3,h4⟩:=ex
  exact⟨_,by unfold execOp;simp only [ho,h4];rfl,ub,h1,g,q,n,cc,h2,h3,rfl⟩
 ·cases h
end
section
variable {P:Program}
theorem MJ {t:TypeId}{g:Bool}(h:pz P t=some g):∃d,P.underlying t=some d∧sP d=g:=by
 obtain⟨d,h1,h2⟩:=aj h
 injection h2 with h2
 exact⟨d,h1,h2⟩
theorem Xi {d:TypeDesc}(h:sP d=true):d.isRow=true:=by cases d<;>simp_all [sP]
theorem abY {t:TypeId}{d:TypeDesc}(h:P.underlying t=some d):∃i,P.info? t=some i:=by
 unfold Program.underlying at h
 cases e:P.info? t with
 | none=>rw [e]at h;cases h
 | some i=>exact⟨i,rfl⟩
theorem abZ {t:TypeId}{d:TypeDesc}(h:P.underlying t=some d):(P.info? t).map (·.size)=some (P.cellsOf t):=by
 obtain⟨i,e⟩:=abY h
 unfold Program.cellsOf;rw [e];rfl
theorem JE (w:World)(b o:Nat)(t:TypeId)(d:TypeDesc)(u:Value)(hu:P.underlying t=some d)(hd:sP d=false)(hc:w.cell? ⟨b,o,none⟩=some u):
  (Instr.loadAt t (.pointer (some ⟨b,o,none⟩))).run P w= .ok u w:=by
 have hagg:(isAgg t).run P w= .ok false w:=by
  unfold isAgg
  rw [Sem.run_bind,run_underlying hu w]
  cases d<;>simp_all [sP]
 simp [Instr.loadAt,Instr.sureAddr,loadVar,Sem.run_bind,hagg,load,Sem.run,hc]
end
section
variable {P:Program} {c:Ctx} {s:S} {y:Lay} {a:Act} {w:World}
theorem At.kw (A:At c s y a w):∀b o,c.K b o→w.heap[b]?=some o:=c.hK w (St.rU (St.rU (St.rU A.st)))
theorem At.zw (A:At c s y a w):∀b o,(aX c s y).Z b o→w.heap[b]?=some o:=by
 intro b o ⟨p,hp,hb,ho⟩
 obtain⟨x,hx,rfl⟩:=List.mem_map.1 hp
 have:lI (y.w0 x.1) (y.F x.1)∈gI y.w0 y.F s.dG++c.L:=List.mem_append_left _ (List.mem_map.2 ⟨x,hx,rfl⟩)
 rw [(St.rU (St.rU A.st)).UW this b hb];exact ho
theorem At.ab0 (A:At c s y a w){b:Nat}{cs:List V}(h:look b s.box=some cs):w.heap[y.bl b]?=some (.cells (y.us b) (y.T b) (0,0))∧jk (aX c s y) cs (y.us b).toList:=by
 have m:=fD h
 exact⟨A.st.MI (List.mem_append_left _ (List.mem_map.2 ⟨(b,cs),m,rfl⟩)),A.box b cs m⟩
theorem At.Db (A:At c s y a w){p:Nat}{rows:List (List D)}(h:look p s.tree=some rows):∃F,kL w rows (y.hd p) F:=
 A.st.abW (List.mem_append_right _ (List.mem_append_left _ (List.mem_map.2 ⟨(p,rows),fD h,rfl⟩)))
theorem At.aeL (A:At c s y a w){p:Nat}{rows:List (List D)}(h:look p s.dG=some rows):wL (aX c s y).Z (.l rows) (y.hd p).v:=by
 have m:=fD h
 exact(A.dG p rows m).own.rd fun b hb o e=>⟨p,List.mem_map.2 ⟨(p,rows),m,rfl⟩,hb,e⟩
theorem At.apart (A:At c s y a w){p:Nat}{r1 r2:List (List D)}(h1:look p s.tree=some r1)(h2:look p s.dG=some r2):False:=by
 have n:=A.nt
 rw [List.map_append,List.nodup_append]at n
 exact n.2.2 p (List.mem_map.2 ⟨(p,r1),fD h1,rfl⟩) p (List.mem_map.2 ⟨(p,r2),fD h2,rfl⟩) rfl
theorem kL.inner {w:World}{rows:List (List D)}{h:Hd}{F:List Nat}(t:kL w rows h F){i j:Nat}{r:List D}{rs:List (List D)}(hi:rows[i]?=some r)(hj:r[j]?=some (.l rs)):∃F',pG w (.l rs) (h.cv (i*r.length+j)) F'∧∀b∈F',b∈F:=by
 have o:=t.own
 have hd:=t.hd
 generalize h.v=u at o hd
 cases o with
 | nil=>simp at hi
 | l _ n c g ob k T cs us fs h1 h2 h3 h4 h5 h6 h0 h7 h8 h9=>
  have hk:r.length=k:=h5 r (List.mem_of_getElem? hi)
  have f:=flat_get rows i j r _ h5 hi hj
  have e:=hd g ob n c cs T (0,0) _ rs rfl h7 f
  rw [h8 _ _ f]at e
  injection e with e
  rw [hk,←e]
  exact⟨fs (i*k+j),h9 _ _ f,fun b hb=>List.mem_cons_of_mem _ (List.mem_flatMap.2 ⟨_,List.mem_range.2 (List.getElem?_eq_some_iff.1 f).1,hb⟩)⟩
theorem Ka {d:D}{rs:List (List D)}(h:KP d=some rs):d= .l rs:=by
 cases d<;>simp only [KP]at h
 ·cases h
 ·injection h with h;rw [h]
 ·cases h
theorem K8 {s:S}{p i j k:Nat}{rs:List (List D)}(h:s.rows (.inn p i j k)=some rs):∃rows r,look p s.tree=some rows∧rows[i]?=some r∧r.length=k∧r[j]?=some (.l rs):=by
 simp only [S.rows]at h
 obtain⟨rows,h1,h⟩:=aj h
 obtain⟨r,h2,h⟩:=aj h
 obtain⟨h3,h⟩:=aB h
 obtain⟨d,h4,h⟩:=aj h
 rw [Ka h]at h4
 exact⟨rows,r,h1,h2,h3,h4⟩
theorem At.aho (A:At c s y a w){p i j k:Nat}{u:Value}{rs:List (List D)}(hv:RV (aX c s y) (.inn p i j k) u)(h:s.rows (.inn p i j k)=some rs):∃F,pG w (.l rs) u F:=by
 obtain⟨rows,r,h1,h2,h3,h4⟩:=K8 h
 obtain⟨F,t⟩:=A.Db h1
 obtain⟨F',o,_⟩:=t.inner h2 h4
 rw [h3]at o
 rw [show u=_ from hv.2.1]
 exact⟨F',o⟩
theorem At.rows (A:At c s y a w){v:V}{u:Value}{rows:List (List D)}(hv:RV (aX c s y) v u)(h:s.rows v=some rows):wL (jT w) (.l rows) u:=by
 have h9:=h
 cases v<;>simp only [S.rows]at h<;>try (cases h;done)
 case inn p i j k=>
  obtain⟨F,o⟩:=A.aho hv h9
  exact o.rd fun _ _ _ e=>e
 case nil=>injection h with h;subst h;rw [show u=_ from hv];exact .nil none 0 (by omega) (fun _=>rfl)
 case aP o r=>injection h with h;subst h;exact hv.1.mono A.kw
 case fz r=>injection h with h;subst h;exact wL.mono hv A.zw
 case own p=>
  rw [show u=_ from hv.2]
  cases e:look p s.tree with
  | some r=>
   rw [e]at h;simp only [mD]at h;injection h with h;subst h
   obtain⟨F,o⟩:=A.Db e
   exact o.own.rd fun _ _ _ e=>e
  | none=>
   rw [e]at h;simp only [mD]at h
   exact(A.aeL h).mono A.zw
theorem At.ab1 (A:At c s y a w){base:V}{ub:Value}{rows:List (List D)}{i:Nat}{r:List D}(hv:RV (aX c s y) base ub)(h:s.rows base=some rows)(hi:rows[i]?=some r):
  ∃cc b o T fr cs,ub= .slice (some ⟨b,o,none⟩) rows.length cc∧w.heap[b]?=some (.cells cs T fr)∧∀(j:Nat) (d:D) (v:V),r[j]?=some d→s.under base r.length i j d=some v→∃u,cs[o+(i*r.length+j)]?=some u∧RV (aX c s y) v u:=by
 have h9:=h
 cases base<;>simp only [S.rows]at h<;>try (cases h;done)
 case inn p i2 j2 k2=>
  obtain⟨F,o'⟩:=A.aho hv h9
  obtain⟨cc,b,o,T,fr,cs,h1,h2,h3⟩:=(o'.rd (G:=jT w) fun _ _ _ e=>e).at_ hi
  refine⟨cc,b,o,T,fr,cs,h1,h2,fun j d v e1 e2=>?_⟩
  obtain⟨u,hu,hd⟩:=h3 j d e1
  refine⟨u,hu,?_⟩
  cases d<;>simp only [S.under]at e2<;>try (cases e2;done)
  injection e2 with e2;subst e2;exact hd.atom
 case nil=>injection h with h;subst h;simp at hi
 case aP o' r'=>
  injection h with h;subst h
  obtain⟨cc,b,o,T,fr,cs,h1,h2,h3⟩:=hv.1.at_ hi
  refine⟨cc,b,o,T,fr,cs,h1,A.kw _ _ h2,fun j d v e1 e2=>?_⟩
  obtain⟨u,hu,hd⟩:=h3 j d e1
  refine⟨u,hu,?_⟩
  cases d<;>simp only [S.under]at e2<;>(try (cases e2;done))<;>(injection e2 with e2;subst e2)
  ·exact hd.atom
  ·exact⟨hd,fun j h=>by cases h⟩
 case fz r'=>
  injection h with h;subst h
  obtain⟨cc,b,o,T,fr,cs,h1,h2,h3⟩:=wL.at_ hv hi
  refine⟨cc,b,o,T,fr,cs,h1,A.zw _ _ h2,fun j d v e1 e2=>?_⟩
  obtain⟨u,hu,hd⟩:=h3 j d e1
  refine⟨u,hu,?_⟩
  cases d<;>simp only [S.under]at e2<;>(try (cases e2;done))<;>(injection e2 with e2;subst e2)
  ·exact hd.atom
  ·exact hd
 case own p=>
  rw [show ub=_ from hv.2]
  cases e:look p s.tree with
  | some r'=>
   rw [e]at h;simp only [mD]at h;injection h with h;subst h
   obtain⟨F,tr⟩:=A.Db e
   obtain⟨cc,b,o,T,fr,cs,h1,h2,h3⟩:=(tr.own.rd (G:=jT w) fun _ _ _ e=>e).at_ hi
   refine⟨cc,b,o,T,fr,cs,h1,h2,fun j d v e1 e2=>?_⟩
   obtain⟨u,hu,hd⟩:=h3 j d e1
   refine⟨u,hu,?_⟩
   cases d<;>simp only [S.under]at e2
   ·injection e2 with e2;subst e2;exact hd.atom
   ·cases e5:look p s.dG with
    | some r2=>exact(A.apart e e5).elim
    | none=>
     rw [e5]at e2;simp only [Dt]at e2
     injection e2 with e2;subst e2
     refine⟨by show p∈(s.tree++s.dG).map (·.1);rw [List.map_append,List.mem_append];exact .inl (List.mem_map.2 ⟨_,fD e,rfl⟩),?_⟩
     suffices hh:u=(y.hd p).cv (i*r.length+j)from⟨hh,by obtain⟨A0,c0,e0,_⟩:=hd.len;rw [e0];rfl⟩
     have hk:∀r2∈r',r2.length=r.length:=by
      have:=tr.own
      rw [show (y.hd p).v=_ from h1]at this
      cases this with
      | nil=>simp at hi
      | l _ _ _ _ _ k2 T2 cs2 us2 fs2 a1 a2 a3 a4 a5=>exact fun r2 hr2=>(a5 r2 hr2).trans (a5 r (List.mem_of_getElem? hi)).symm
     have f:=flat_get r' i j r _ hk hi e1
     have:=tr.hd b _ _ cc cs T fr _ _ h1 h2 f
     rw [hu]at this;injection this
   ·cases e2
  | none=>
   rw [e]at h;simp only [mD]at h
   obtain⟨cc,b,o,T,fr,cs,h1,h2,h3⟩:=(A.aeL h).at_ hi
   refine⟨cc,b,o,T,fr,cs,h1,A.zw _ _ h2,fun j d v e1 e2=>?_⟩
   obtain⟨u,hu,hd⟩:=h3 j d e1
   refine⟨u,hu,?_⟩
   cases d<;>simp only [S.under]at e2
   ·injection e2 with e2;subst e2;exact hd.atom
   ·rw [h]at e2;simp only [Dt]at e2;injection e2 with e2;subst e2;exact hd
   ·cases e2
theorem NC {α β:Type}{f:α→Option β}:∀{l:List α} {r:List β},bG f l=some r→r.length=l.length∧∀(i:Nat) (x:α),l[i]?=some x→∃z,r[i]?=some z∧f x=some z
 | [],r,h=>by simp only [bG]at h;injection h with h;subst h;exact⟨rfl,fun i x e=>by simp at e⟩
 | x::l,r,h=>by
  simp only [bG]at h
  obtain⟨z,h1,h⟩:=aj h
  obtain⟨q,h2,h⟩:=aj h
  injection h with h;subst h
  obtain⟨k1,k2⟩:=NC h2
  refine⟨by rw [List.length_cons,List.length_cons,k1],fun i x' e=>?_⟩
  cases i with
  | zero=>simp at e;subst e;exact⟨z,rfl,h1⟩
  | succ i=>exact k2 i x' (by simpa using e)
theorem Px {s:S}{base:V}{k i:Nat}:∀{l:List D} {j:Nat} {r:List V},uZ s base k i j l=some r→r.length=l.length∧∀(m:Nat) (d:D),l[m]?=some d→∃v,r[m]?=some v∧s.under base k i (j+m) d=some v
 | [],j,r,h=>by simp only [uZ]at h;injection h with h;subst h;exact⟨rfl,fun m d e=>by simp at e⟩
 | x::l,j,r,h=>by
  simp only [uZ]at h
  obtain⟨z,h1,h⟩:=aj h
  obtain⟨q,h2,h⟩:=aj h
  injection h with h;subst h
  obtain⟨k1,k2⟩:=Px h2
  refine⟨by rw [List.length_cons,List.length_cons,k1],fun m d e=>?_⟩
  cases m with
  | zero=>simp at e;subst e;exact⟨z,rfl,h1⟩
  | succ m=>
   obtain⟨v,e1,e2⟩:=k2 m d (by simpa using e)
   exact⟨v,by simpa using e1,by rw [show j+(m+1)=j+1+m by omega];exact e2⟩
theorem At.loadAt (A:At c s y a w){t:TypeId}{vx v:V}{u0:Value}(ex:RV (aX c s y) vx u0)(h:s.load P t vx=some v):∃u,(Instr.loadAt t u0).run P w= .ok u w∧RV (aX c s y) v u:=by
 have fin:∀u,(Instr.loadAt t u0).run P w= .ok u w→RV (aX c s y) v u→∃u,(Instr.loadAt t u0).run P w= .ok u w∧RV (aX c s y) v u:=fun u hr hv=>⟨u,hr,hv⟩
 cases vx<;>simp only [S.load]at h<;>try (cases h;done)
 case ref b off=>
  obtain⟨g,hg,h⟩:=aj h
  obtain⟨cs,hcs,h⟩:=aj h
  obtain⟨d,hu,hd⟩:=MJ hg
  obtain⟨hb,hv⟩:=A.ab0 hcs
  rw [show u0=_ from ex.2]at fin⊢
  have cell:∀i,w.cell? ⟨y.bl b,i,none⟩=(y.us b).toList[i]?:=fun i=>by rw [cell_of_row w _ i _ _ _ hb,Array.getElem?_toList]
  unfold span at h
  cases g with
  | true=>
   rw [if_pos rfl]at h
   obtain⟨hle,h⟩:=aB h
   injection h with h;subst h
   refine fin (.agg (((y.us b).toList.drop off).take (P.cellsOf t)).toArray) ?_ ⟨_,rfl,(hv.drop off).take _⟩
   refine run_loadAt_mid w _ _ t _ d (fun j u e=>?_) hu (Xi hd) ?_
   ·refine(cell (off+j)).trans ?_
    rw [List.getElem?_take]at e
    split at e
    ·rw [List.getElem?_drop]at e;exact e
    ·cases e
   ·rw [abZ hu,List.length_take,List.length_drop,hv.len];congr 1;omega
  | false=>
   rw [if_neg (by simp)]at h
   obtain⟨u,h1,h2⟩:=hv.get h
   exact fin u (JE w _ _ t d u hu hd ((cell off).trans h1)) h2
 case pe base k i off=>
  obtain⟨g,hg,h⟩:=aj h
  obtain⟨rows,hrows,h⟩:=aj h
  obtain⟨r,hr,h⟩:=aj h
  obtain⟨hk,h0⟩:=aB h
  clear h
  obtain⟨d,hu,hd⟩:=MJ hg
  obtain⟨ub,e1,g',o',n',c',e2,e3,e4⟩:=ex
  obtain⟨cc,b,q,T,fr,cs,h1,h2,h3⟩:=A.ab1 e1 hrows hr
  rw [e2]at h1
  injection h1 with h1 _ _
  injection h1 with h1
  injection h1 with h1 h1' _
  subst h1;subst h1';subst hk
  rw [e4]at fin⊢
  have cell:∀j,w.cell? ⟨g',j,none⟩=cs[j]?:=fun j=>cell_of_row w _ j _ _ _ h2
  have h:=h0
  unfold S.IY at h
  cases g with
  | true=>
   rw [if_pos rfl]at h
   obtain⟨hle,h⟩:=aB h
   obtain⟨vs,hvs,h⟩:=aj h
   injection h with h;subst h
   obtain⟨m1,m2⟩:=Px hvs
   have hlen:((r.drop off).take (P.cellsOf t)).length=P.cellsOf t:=by rw [List.length_take,List.length_drop];omega
   have key:∀j,j<P.cellsOf t→∃u v,cs[o'+(i*r.length+off)+j]?=some u∧vs[j]?=some v∧RV (aX c s y) v u:=by
    intro j hj
    have hd2:((r.drop off).take (P.cellsOf t))[j]?=some (r[off+j]'(by omega)):=by
     rw [List.getElem?_take,if_pos hj,List.getElem?_drop,List.getElem?_eq_getElem]
    obtain⟨v,q1,q2⟩:=m2 j _ hd2
    obtain⟨u,q3,q4⟩:=h3 (off+j) _ v (List.getElem?_eq_getElem (by omega)) q2
    exact⟨u,v,by rw [show o'+(i*r.length+off)+j=o'+(i*r.length+(off+j)) by omega];exact q3,q1,q4⟩
   refine fin (.agg ((List.range (P.cellsOf t)).map fun j=>cs[o'+(i*r.length+off)+j]?.getD undef).toArray) ?_ ⟨_,rfl,jk.of (by simp [m1,hlen]) fun j v u w1 w2=>?_⟩
   ·refine run_loadAt_mid w _ _ t _ d (fun j u e=>?_) hu (Xi hd) (by rw [abZ hu];simp)
    rw [cell]
    have hj:j<P.cellsOf t:=by have:=(List.getElem?_eq_some_iff.1 e).1;simpa using this
    obtain⟨u',v',k1,k2,k3⟩:=key j hj
    rw [List.getElem?_map,List.getElem?_range hj,Option.map_some,k1]at e
    rw [k1];exact e
   ·have hj:j<P.cellsOf t:=by have:=(List.getElem?_eq_some_iff.1 w1).1;rw [m1,hlen]at this;exact this
    obtain⟨u',v',k1,k2,k3⟩:=key j hj
    rw [List.getElem?_map,List.getElem?_range hj,Option.map_some,k1]at w2
    rw [k2]at w1
    injection w1 with w1;injection w2 with w2
    subst w1
    have:u'=u:=by simpa using w2
    subst this;exact k3
  | false=>
   rw [if_neg (by simp)]at h
   obtain⟨dd,hdd,h⟩:=aj h
   obtain⟨u,q1,q2⟩:=h3 off dd v hdd h
   exact fin u (JE w _ _ t d u hu hd (by rw [cell];exact q1)) q2
theorem Tk {o:Oper}{t:TypeId}{x:Operand}(ho:o.op= .load t x){vx v:V}(hx:s.ev x=some vx)(h:s.load P t vx=some v){yy:Lay}{a:Act}{w:World}(A:At c s yy a w):∃u,(execOp a.eval o).run P w= .ok (.value u) w∧RV (aX c s yy) v u:=by
 obtain⟨u,hr,hv⟩:=A.loadAt (A.ev hx) h
 refine⟨u,?_,hv⟩
 unfold execOp;simp only [ho];rw [Sem.run_bind,hr];rfl
theorem acU {o:Oper}{t:TypeId}{x:Operand}(ho:o.op= .load t x)(hd':fM c.n o.dst=true){vx v:V}(hx:s.ev x=some vx)(h:s.load P t vx=some v):Step P c o s (s.put o.dst v):=jr hd' fun _ _ _ A=>Tk ho hx h A
end
section
variable {P:Program} {c:Ctx} {s:S}
theorem K9 {ρ:Rel}{v v':V}{n:Nat}(h:xU v n=some v'){u:Value}(hu:RV ρ v u):∃b o,u= .pointer (some ⟨b,o,none⟩)∧RV ρ v' (.pointer (some ⟨b,o+n,none⟩)):=by
 unfold xU at h
 split at h
 ·injection h with h;subst h
  exact⟨_,_,hu.2,hu.1,rfl⟩
 ·injection h with h;subst h
  rename_i base k i off
  obtain⟨ub,h1,g,o,n',c',h2,h3,h4⟩:=hu
  exact⟨g,_,h4,ub,h1,g,o,n',c',h2,h3,by rw [show o+(i*k+(off+n))=o+(i*k+off)+n by omega]⟩
 ·cases h
theorem La {t:TypeId}{f off:Nat}{ft:TypeId}(h:bZ P t f=some (off,ft)):∃fs fd,P.underlying t=some (.struct fs)∧fs[f]?=some fd∧fd.offset=off∧fd.type=ft∧P.cellsOf ft≠0:=by
 unfold bZ at h
 obtain⟨d,h1,h⟩:=aj h
 unfold ZB at h
 split at h
 ·obtain⟨fd,h2,h⟩:=aj h
  obtain⟨h3,h⟩:=aB h
  injection h with h;injection h with e1 e2
  exact⟨_,fd,h1,h2,e1,e2,by rw [←e2];exact h3⟩
 ·cases h
theorem Gw {o:Oper}{t:TypeId}{x:Operand}{f:Nat}(ho:o.op= .fieldAddr t x f){vx v:V}{q:Nat×TypeId}(hx:s.ev x=some vx)(hf:bZ P t f=some q)(h:xU vx q.1=some v){yy:Lay}{a:Act}{w:World}(A:At c s yy a w):∃u,(execOp a.eval o).run P w= .ok (.value u) w∧RV (aX c s yy) v u:=by
 obtain⟨off,ft⟩:=q
 obtain⟨fs,fd,h1,h2,h3,h4,h5⟩:=La hf
 obtain⟨b,oo,e1,e2⟩:=K9 h (A.ev hx)
 refine⟨_,?_,e2⟩
 have hsz:P.cellsOf fd.type≠0:=by rw [h4];exact h5
 unfold Program.cellsOf at hsz
 cases hi:P.info? fd.type with
 | none=>rw [hi]at hsz;simp at hsz
 | some i=>
  rw [hi]at hsz;simp at hsz
  unfold execOp;simp only [ho,e1]
  simp [Instr.fieldAt,run_underlying h1,h2,Instr.sureAddr,fieldPlace,sizeOf,typeInfo,hi,hsz,h3,Addr.add_mid]
theorem Py {o:Oper}{t:TypeId}{x:Operand}{f:Nat}(ho:o.op= .fieldAddr t x f)(hd':fM c.n o.dst=true){vx v:V}{q:Nat×TypeId}(hx:s.ev x=some vx)(hf:bZ P t f=some q)(h:xU vx q.1=some v):
  Step P c o s (s.put o.dst v):=jr hd' fun _ _ _ A=>Gw ho hx hf h A
theorem Ez {t:TypeId}{e:TypeId×Option Nat}(h:mE P t=some e):(∃q,e=(q,none)∧P.underlying t=some (.slice q))∨∃q n,e=(q,some n)∧P.underlying t=some (.array n q):=by
 unfold mE at h
 obtain⟨d,h1,h⟩:=aj h
 unfold abU at h
 split at h
 ·injection h with h;subst h;exact .inl ⟨_,rfl,h1⟩
 ·injection h with h;subst h;exact .inr ⟨_,_,rfl,h1⟩
 ·cases h
theorem kW {t:TypeId}(h:eF P t=true)(w:World):(sizeOf t).run P w= .ok (P.cellsOf t) w:=by
 unfold eF at h
 cases hi:P.info? t with
 | none=>rw [hi]at h;cases h
 | some i=>simp [sizeOf,typeInfo,hi,Program.cellsOf]
theorem Gx {o:Oper}{t:TypeId}{x i:Operand}(ho:o.op= .indexAddr t x i){vx vi v:V}{n:Int}{e:TypeId×Option Nat}(hx:s.ev x=some vx)(hi:s.ev i=some vi)(hn:idxOf vi=some n)(he:mE P t=some e)
  (h:lK P s vx n e.1 e.2=some v) {yy:Lay} {a:Act} {w:World} (A:At c s yy a w):∃u,(execOp a.eval o).run P w= .ok (.value u) w∧RV (aX c s yy) v u:=by
 obtain⟨k,rfl⟩:=yc hn
 have hn:k=k:=rfl
 have ei:a.eval i= .int k n:=by have:=A.ev hi;rw [show idxOf (.v (.int k n))=some n from rfl]at *;exact this
 have ex:=A.ev hx
 rcases Ez he with⟨q,rfl,hu⟩|⟨q,m,rfl,hu⟩
 ·simp only [lK]at h
  obtain⟨rows,hr,h⟩:=aj h
  obtain⟨⟨hz,h0,h1⟩,h⟩:=aB h
  injection h with h;subst h
  obtain⟨A',cc,e1,e2,e3,e4⟩:=(A.rows ex hr).len
  have hlt:n.toNat<rows.length:=by omega
  obtain⟨r,hrr⟩:∃r,rows[n.toNat]?=some r:=⟨_,List.getElem?_eq_getElem hlt⟩
  obtain⟨c2,b,oo,T,fr,cs,k1,k2,k3⟩:=A.ab1 ex hr hrr
  have ha:A'=some ⟨b,oo,none⟩:=by rw [e1]at k1;injection k1
  refine⟨.pointer (some ⟨b,oo+(n.toNat*P.cellsOf q+0),none⟩),?_,_,ex,b,oo,rows.length,cc,by rw [e1,ha],hlt,rfl⟩
  unfold execOp;simp only [ho,ei,e1,ha]
  simp [Instr.indexAt,asIntOf,run_underlying hu,h0,h1,kW hz,Addr.add_mid]
 ·simp only [lK]at h
  obtain⟨⟨hz,h0,h1⟩,h⟩:=aB h
  obtain⟨b,oo,e1,e2⟩:=K9 h ex
  refine⟨_,?_,e2⟩
  unfold execOp;simp only [ho,ei,e1]
  simp [Instr.indexAt,asIntOf,run_underlying hu,h0,h1,kW hz,Addr.add_mid,Instr.sureAddr]
theorem Pz {o:Oper}{t:TypeId}{x i:Operand}(ho:o.op= .indexAddr t x i)(hd':fM c.n o.dst=true){vx vi v:V}{n:Int}{e:TypeId×Option Nat}(hx:s.ev x=some vx)(hi:s.ev i=some vi)(hn:idxOf vi=some n)(he:mE P t=some e)
  (h:lK P s vx n e.1 e.2=some v):Step P c o s (s.put o.dst v):=jr hd' fun _ _ _ A=>Gx ho hx hi hn he h A
theorem PD {ρ:Rel}{cs:List V}{us:List Value}{off:Nat}{t:TypeId}{g:Bool}{v:V}(hv:jk ρ cs us)(hg:pz P t=some g)(h:span cs off (P.cellsOf t) g=some v)(w:World):∃u,(part t us.toArray off).run P w= .ok u w∧RV ρ v u:=by
 obtain⟨d,hu,hd⟩:=MJ hg
 obtain⟨i,hi⟩:=abY hu
 unfold span at h
 have hagg:(isAgg t).run P w= .ok g w:=by
  unfold isAgg
  rw [Sem.run_bind,run_underlying hu w]
  cases d<;>simp_all [sP]
 cases g with
 | true=>
  rw [if_pos rfl]at h
  obtain⟨hle,h⟩:=aB h
  injection h with h;subst h
  refine⟨.agg (us.toArray.extract off (off+P.cellsOf t)),?_,((us.drop off).take (P.cellsOf t)),?_,(hv.drop off).take _⟩
  ·simp [part,hagg,sizeOf,typeInfo,hi,Program.cellsOf]
  ·first|rfl|simp
 | false=>
  rw [if_neg (by simp)]at h
  obtain⟨u,h1,h2⟩:=hv.get h
  exact⟨u,by simp [part,hagg,h1],h2⟩
theorem ZI {o:Oper}{t:TypeId}{x:Operand}{f:Nat}(ho:o.op= .field t x f)(hd':fM c.n o.dst=true){cs:List V}{v:V}{q:Nat×TypeId}{g:Bool}(hx:s.ev x=some (.agg cs))(hf:bZ P t f=some q)(hg:pz P q.2=some g)(h:span cs q.1 (P.cellsOf q.2) g=some v):
  Step P c o s (s.put o.dst v):=jr hd' fun yy a w A=>by
 obtain⟨off,ft⟩:=q
 obtain⟨fs,fd,h1,h2,h3,h4,h5⟩:=La hf
 obtain⟨us,e1,e2⟩:=A.ev hx
 obtain⟨u,k1,k2⟩:=PD (P:=P) e2 hg h w
 refine⟨u,?_,k2⟩
 unfold execOp;simp only [ho,e1]
 simp only at k1
 simp [Instr.field,run_underlying h1,h2,asAgg,h3,h4,k1]
theorem ZJ {o:Oper}{t:TypeId}{x i:Operand}(ho:o.op= .index t x i)(hd':fM c.n o.dst=true){vx vi v:V}{n:Int}(hx:s.ev x=some vx)(hi:s.ev i=some vi)(hn:idxOf vi=some n)(h:Gh P t vx n=some v):Step P c o s (s.put o.dst v):=jr hd' fun yy a w A=>by
 obtain⟨k,rfl⟩:=yc hn
 have ei:a.eval i= .int k n:=A.ev hi
 have ex:=A.ev hx
 unfold Gh at h
 split at h
 ·rename_i b
  obtain⟨d,hu,h⟩:=aj h
  obtain⟨⟨hs,h0,h1⟩,h⟩:=aB h
  injection h with h;subst h
  have hd:d= .string:=by unfold Ms at hs;split at hs<;>first|rfl|cases hs
  subst hd
  have hlt:n.toNat<b.size:=by omega
  refine⟨_,?_,rfl⟩
  unfold execOp;simp only [ho,ei,show a.eval x=_ from ex]
  have e1:b[n.toNat]?=some (b[n.toNat]'hlt):=by simp [hlt]
  have e2:b.toList[n.toNat]?=some (b[n.toNat]'hlt):=by
   rw [ByteArray.toList_eq]
   simp [hlt]
   rfl
  simp [Instr.index,asIntOf,run_underlying hu,h0,e1,e2]
 ·rename_i cs
  obtain⟨e,he,ha⟩:=aj h
  obtain⟨m,hm,hb⟩:=aj ha
  obtain⟨⟨hz,h0,h1⟩,hc⟩:=aB hb
  obtain⟨g,hg,hl⟩:=aj hc
  clear h ha hb hc
  rcases Ez he with⟨q,rfl,hu⟩|⟨q,m',rfl,hu⟩
  ·cases hm
  injection hm with hm;subst hm
  obtain⟨us,e1,e2⟩:=ex
  obtain⟨u,k1,k2⟩:=PD (P:=P) e2 hg hl w
  refine⟨u,?_,k2⟩
  unfold execOp;simp only [ho,ei,e1]
  simp only at k1
  simp [Instr.index,asIntOf,run_underlying hu,h0,h1,kW hz,k1]
 ·cases h
theorem Tm {ρ:Rel}{d n:Int}{x:Option V}(h:UL d x=some n):(x=none∧n=d)∨∃k,x=some (.v (.int k n)):=by
 cases x with
 | none=>simp only [UL]at h;injection h with h;exact .inl ⟨rfl,h.symm⟩
 | some v=>obtain⟨k,rfl⟩:=yc h;exact .inr ⟨k,rfl⟩
theorem Lc {x:Option Operand}{v:Option V}(h:kC s x=some v):(x=none∧v=none)∨∃y u,x=some y∧v=some u∧s.ev y=some u:=by
 cases x with
 | none=>simp only [kC]at h;injection h with h;exact .inl ⟨rfl,h.symm⟩
 | some y=>simp only [kC]at h;obtain⟨u,h1,h2⟩:=aj h;injection h2 with h2;exact .inr ⟨y,u,rfl,h2.symm,h1⟩
theorem wR {y:Lay}{a:Act}{w:World}(A:At c s y a w){lo hi:Option Operand}{vl vh:Option V}{n cap:Nat}{p:Nat×Nat}(hlo:kC s lo=some vl)(hhi:kC s hi=some vh)(h:bounds n vl vh=some p)(hc:n≤cap)(isS:Bool):
  p.1≤p.2∧p.2≤n∧(Instr.sliceBounds isS n cap (lo.map a.eval) (hi.map a.eval) none).run P w= .ok (p.1,p.2,cap) w:=by
 unfold bounds at h
 obtain⟨l,h1,h⟩:=aj h
 obtain⟨q,h2,h⟩:=aj h
 obtain⟨⟨h3,h4,h5⟩,h⟩:=aB h
 injection h with h;subst h
 refine⟨by simp only;omega,by simp only;omega,?_⟩
 rcases Lc hlo with⟨rfl,rfl⟩|⟨xl,ul,rfl,rfl,el⟩<;>rcases Lc hhi with⟨rfl,rfl⟩|⟨xh,uh,rfl,rfl,eh⟩<;>
  (rcases Tm (ρ:=aX c s y) h1 with⟨k1,rfl⟩|⟨kl,k1⟩<;>first|(cases k1;done)|skip)<;>
  (rcases Tm (ρ:=aX c s y) h2 with⟨k2,rfl⟩|⟨kh,k2⟩<;>first|(cases k2;done)|skip)
 ·simp [Instr.sliceBounds]
 ·injection k2 with k2;subst k2
  have e:a.eval xh= .int kh q:=A.ev eh
  simp [Instr.sliceBounds,Instr.sliceBound,e,asIntOf,show 0≤q by omega,show q≤(cap:Int) by omega]
 ·injection k1 with k1;subst k1
  have e:a.eval xl= .int kl l:=A.ev el
  simp [Instr.sliceBounds,Instr.sliceBound,e,asIntOf,h3,show l≤(n:Int) by omega]
 ·injection k1 with k1;subst k1
  injection k2 with k2;subst k2
  have e:a.eval xl= .int kl l:=A.ev el
  have e2:a.eval xh= .int kh q:=A.ev eh
  have e3:(q.toNat:Int)=q:=by omega
  simp [Instr.sliceBounds,Instr.sliceBound,e,e2,asIntOf,h3,show 0≤q by omega,show q≤(cap:Int) by omega]
  intro hh;exfalso;rw [Int.max_def]at hh;split at hh<;>omega
theorem rV {k:Nat}:∀{rows:List (List D)},wid k rows=true→∀r∈rows,r.length=k
 | [],_,r,h=>by cases h
 | x::rows,e,r,h=>by
  simp only [wid,Bool.and_eq_true,decide_eq_true_eq]at e
  rcases List.mem_cons.1 h with h|h
  ·rw [h];exact e.1.1
  ·exact rV e.2 r h
theorem U5 {k:Nat}:∀{rows:List (List D)},wid k rows=true→∀r∈rows,∀d∈r,A9 d=true
 | [],_,r,h=>by cases h
 | x::rows,e,r,h=>by
  simp only [wid,Bool.and_eq_true,decide_eq_true_eq]at e
  rcases List.mem_cons.1 h with h|h
  ·rw [h];exact List.all_eq_true.1 e.1.2
  ·exact U5 e.2 r h
theorem Xj {α:Type}{k l m i:Nat}{rows:List (List α)}{d:α}(u:∀r∈rows,r.length=k)(hl:l≤rows.length)(e:((rows.drop l).take m).flatten[i]?=some d):rows.flatten[l*k+i]?=some d:=by
 have h1:rows=rows.take l++((rows.drop l).take m++(rows.drop l).drop m):=by rw [List.take_append_drop,List.take_append_drop]
 have h2:(rows.take l).flatten.length=l*k:=by rw [jf _ (fun r h=>u r (List.mem_of_mem_take h)),List.length_take];congr 1;omega
 rw [h1,List.flatten_append,List.flatten_append,List.getElem?_append_right (by rw [h2];omega),h2,show l*k+i-l*k=i by omega,List.getElem?_append_left (List.getElem?_eq_some_iff.1 e).1]
 exact e
theorem wL.sub {G:Nat→Obj→Prop}{rows:List (List D)}{A:Option Addr}{n c k l h:Nat}(hr:wL G (.l rows) (.slice A n c))(hw:∀r∈rows,r.length=k)(h1:l≤h)(h2:h≤n):
  wL G (.l ((rows.drop l).take (h-l))) (.slice (if c=l then A else A.map (·.add (l*k))) (h-l) (c-l)):=by
 obtain⟨A',c',e1,e2,e3,e4⟩:=hr.len
 injection e1 with e1 e5 e6
 subst e1;subst e5;subst e6
 by_cases hz:h-l=0
 ·rw [hz,List.take_zero]
  refine .nil _ _ (by omega) fun hn=>?_
  by_cases hc:c=l
  ·omega
  ·rw [if_neg hc]at hn
   cases A with
   | none=>have:=e4 rfl;omega
   | some a=>cases hn
 ·cases hr with
  | nil=>simp at h2;omega
  | l _ n' c b o k' T fr cs us q1 q2 q3 q4 q5 q6 q7 q8 q9=>
   have hk:k'=k:=by
    cases rows with
    | nil=>simp at h2;omega
    | cons r rs=>rw [←q6 r (by simp),hw r (by simp)]
   subst hk
   have hcl:¬c=l:=by omega
   rw [if_neg hcl,Option.map_some,Addr.add_mid]
   have hlen:((rows.drop l).take (h-l)).length=h-l:=by rw [List.length_take,List.length_drop];omega
   refine .l _ (h-l) (c-l) b (o+l*k') k' T fr cs (fun i=>us (l*k'+i)) hlen (by omega) (by omega) (by omega) q5 (fun r hr=>q6 r (List.mem_of_mem_drop (List.mem_of_mem_take hr))) q7 (fun i d e=>?_) (fun i d e=>?_)
   ·have:=Xj q6 (by omega) e
    rw [show o+l*k'+i=o+(l*k'+i) by omega]
    exact q8 _ _ this
   ·exact q9 _ _ (Xj q6 (by omega) e)
theorem ZK {o:Oper}{t:TypeId}{x:Operand}{lo hi:Option Operand}(ho:o.op= .slice t x lo hi none)(hd':fM c.n o.dst=true){vx v:V}{vl vh:Option V}{d:TypeDesc}(hx:s.ev x=some vx)(hlo:kC s lo=some vl)(hhi:kC s hi=some vh)(hu:P.underlying t=some d)
  (h:qX P s vx vl vh d=some v):Step P c o s (s.put o.dst v):=jr hd' fun yy a w A=>by
 have ex:=A.ev hx
 unfold qX at h
 split at h
 ·unfold KQ at h
  split at h
  ·rename_i b
   obtain⟨p,hp,h⟩:=aj h
   injection h with h;subst h
   obtain⟨_,_,hb⟩:=wR (P:=P) A hlo hhi hp (Nat.le_refl _) false
   refine⟨_,?_,rfl⟩
   unfold execOp;simp only [ho,show a.eval x=_ from ex]
   simp [Instr.sliceAt,Instr.slice,run_underlying hu,hb]
  ·cases h
 ·rename_i e
  obtain⟨hz,h2⟩:=aB h
  clear h
  have h:=h2
  clear h2
  have key:∀(rows:List (List D)) (p:Nat×Nat) (u:Value),a.eval x=u→wL (jT w) (.l rows) u→bounds rows.length vl vh=some p→∃A' n' c',u= .slice A' n' c'∧p.1≤p.2∧p.2≤n'∧
    (execOp a.eval o).run P w= .ok (.value (.slice (if c'=p.1 then A' else A'.map (·.add (p.1*P.cellsOf e))) (p.2-p.1) (c'-p.1))) w:=by
   intro rows p u hu' hr hp
   obtain⟨A',c',e1,e2,e3,e4⟩:=hr.len
   obtain⟨b1,b2,hb⟩:=wR (P:=P) A hlo hhi hp e2 true
   refine⟨A',_,c',e1,b1,b2,?_⟩
   unfold execOp;simp only [ho,hu',e1]
   simp [Instr.sliceAt,Instr.slice,run_underlying hu,hb,kW hz]
  unfold Er at h
  split at h
  ·obtain⟨p,hp,h⟩:=aj h
   injection h with h;subst h
   obtain⟨A',n',c',e1,b1,b2,hr⟩:=key [] p _ rfl (A.rows ex rfl) hp
   rw [show a.eval x=_ from ex]at e1
   injection e1 with e1 e2 e3
   subst e1;subst e2;subst e3
   refine⟨_,hr,?_⟩
   have:p.1=0:=by omega
   have h2:p.2=0:=by omega
   rw [this,h2];simp;rfl
  ·rename_i o' rows
   unfold cutV at h
   obtain⟨p,hp,h⟩:=aj h
   obtain⟨hw,h⟩:=aB h
   injection h with h;subst h
   obtain⟨A',n',c',e1,b1,b2,hr⟩:=key rows p _ rfl (A.rows ex rfl) hp
   refine⟨_,hr,?_,fun j h=>by cases h⟩
   have e3:=ex.1
   rw [e1]at e3
   exact e3.sub (rV hw) b1 b2
  ·rename_i rows
   unfold cutV at h
   obtain⟨p,hp,h⟩:=aj h
   obtain⟨hw,h⟩:=aB h
   injection h with h;subst h
   obtain⟨A',n',c',e1,b1,b2,hr⟩:=key rows p _ rfl (A.rows ex rfl) hp
   refine⟨_,hr,?_⟩
   have e3:wL _ _ _:=ex
   rw [e1]at e3
   exact e3.sub (rV hw) b1 b2
  ·rename_i q
   obtain⟨rows,hq,h⟩:=aj h
   unfold cutV at h
   obtain⟨p,hp,h⟩:=aj h
   obtain⟨hw,h⟩:=aB h
   injection h with h;subst h
   have e3:=A.aeL hq
   obtain⟨A',n',c',e1,b1,b2,hr⟩:=key rows p _ ex.2 (e3.mono A.zw) hp
   refine⟨_,hr,?_⟩
   have e1:(yy.hd q).v=_:=e1
   rw [e1]at e3
   exact e3.sub (rV hw) b1 b2
  ·cases h
 ·cases h
end
section
variable {P:Program} {c:Ctx} {s:S}
theorem OC {r:List D}{b:UInt8}(h:qY r=some b):∃n:Int,r= [.a (.int .u8 n)]∧b=UInt8.ofNat n.toNat:=by
 unfold qY at h
 split at h
 ·injection h with h;exact⟨_,rfl,h.symm⟩
 ·cases h
theorem acV (l:List Int):∀(r:ByteArray),l.foldl (fun r n=>r.push (UInt8.ofNat n.toNat)) r=⟨r.data++(l.map fun n=>UInt8.ofNat n.toNat).toArray⟩:=by
 induction l with
 | nil=>intro r;simp
 | cons x l ih=>intro r;rw [List.foldl_cons,ih];simp [ByteArray.push]
theorem ZL {rows:List (List D)}{l:List UInt8}(h:bG qY rows=some l):∃ns:List Int,rows=ns.map (fun n=> [.a (.int .u8 n)])∧l=ns.map fun n=>UInt8.ofNat n.toNat:=by
 induction rows generalizing l with
 | nil=>simp only [bG]at h;injection h with h;exact⟨[],rfl,h.symm⟩
 | cons r rows ih=>
  simp only [bG]at h
  obtain⟨b,h1,h⟩:=aj h
  obtain⟨q,h2,h⟩:=aj h
  injection h with h
  obtain⟨n,rfl,rfl⟩:=OC h1
  obtain⟨ns,rfl,rfl⟩:=ih h2
  exact⟨n::ns,rfl,h.symm⟩
theorem Xk {w:World}{rows:List (List D)}{l:List UInt8}{u:Value}(hr:wL (jT w) (.l rows) u)(h:bG qY rows=some l):(Conv.bytesToString u).run P w= .ok (.string ⟨l.toArray⟩) w:=by
 obtain⟨ns,hrows,rfl⟩:=ZL h
 clear h
 cases hr with
 | nil A c h1 h2=>
  obtain rfl:ns= []:=by cases ns with|nil=>rfl|cons=>simp at hrows
  cases A with
  | none=>simp [Conv.bytesToString];rfl
  | some a=>
   have:=run_bytesToString (P:=P) w a 0 c [] (by simp [loadCells,loadCellsFrom])
   rw [this];simp;rfl
 | l _ n c b o k T fr cs us q1 q2 q3 q4 q5 q6 q7 q8 q9=>
  subst hrows
  have hk:k=1:=by
   cases ns with
   | nil=>simp at q1;omega
   | cons x ns=>exact(q6 [.a (.int .u8 x)] (by simp)).symm
  subst hk
  have hn:n=ns.length:=by rw [←q1,List.length_map]
  have hl:(loadCells ⟨b,o,none⟩ n).run P w= .ok (ns.map (Value.int .u8)).toArray w:=by
   have:=run_loadCells_list (P:=P) w ⟨b,o,none⟩ (ns.map (Value.int .u8)) (fun j v hv=>?_)
   ·rw [List.length_map,←hn]at this;exact this
   ·rw [Addr.add_mid,cell_of_row w b _ cs T fr q7]
    rw [List.getElem?_map]at hv
    obtain⟨x,hx,rfl⟩:=Option.map_eq_some_iff.1 hv
    have e:(ns.map (fun n=> [D.a (.int .u8 n)])).flatten[j]?=some (.a (.int .u8 x)):=by
     have:=flat_get (k:=1) (ns.map (fun n=> [D.a (.int .u8 n)])) j 0 [.a (.int .u8 x)] (.a (.int .u8 x)) q6 (by rw [List.getElem?_map,hx];rfl) rfl
     rw [show j*1+0=j by omega]at this;exact this
    rw [q8 _ _ e,(q9 _ _ e).atom]
  rw [run_bytesToString (P:=P) w _ n c ns hl,acV]
  simp
theorem U6 {o:Oper}{t0 t:TypeId}{x:Operand}(ho:o.op= .convert t0 t x)(hd':fM c.n o.dst=true){vx v:V}{d0 d:TypeDesc}(hx:s.ev x=some vx)(h0:P.underlying t0=some d0)(h1:P.underlying t=some d)(h:wN P s vx d0 d=some v):
  Step P c o s (s.put o.dst v):=jr hd' fun yy a w A=>by
 have ex:=A.ev hx
 have fin:∀u,(convert t0 t (a.eval x)).run P w= .ok u w→RV (aX c s yy) v u→∃u,(execOp a.eval o).run P w= .ok (.value u) w∧RV (aX c s yy) v u:=by
  intro u hr hv
  refine⟨u,?_,hv⟩
  unfold execOp;simp only [ho];rw [Sem.run_bind,hr];rfl
 have bytes:xV P s vx d0=some v→d= .string→(∀u,a.eval x=u→(∃A n c,u= .slice A n c))→∃u,(execOp a.eval o).run P w= .ok (.value u) w∧RV (aX c s yy) v u:=by
  intro hb hd hsl
  subst hd
  unfold xV at hb
  obtain⟨e,he,hb⟩:=aj hb
  obtain⟨de,hde,hb⟩:=aj hb
  obtain⟨hby,hb⟩:=aB hb
  obtain⟨rows,hrows,hb⟩:=aj hb
  obtain⟨l,hl,hb⟩:=aj hb
  injection hb with hb;subst hb
  have ahK:de= .int .u8:=by unfold Eu at hby;split at hby<;>first|rfl|cases hby
  subst ahK
  have hd0:d0= .slice e:=by unfold iN at he;split at he<;>first|(injection he with he;subst he;rfl)|cases he
  subst hd0
  have hr:=Xk (P:=P) (A.rows ex hrows) hl
  obtain⟨A',n',c',hu⟩:=hsl _ rfl
  refine fin _ ?_ rfl
  rw [hu]at hr⊢
  simp [convert,run_underlying h0,run_underlying h1,run_underlying hde,hr]
 unfold wN at h
 split at h
 ·obtain⟨n,hn,h⟩:=aj h
  injection h with h;subst h
  obtain⟨k,rfl⟩:=yc hn
  refine fin _ ?_ rfl
  rw [show a.eval x=_ from ex]
  simp [convert,run_underlying h0,run_underlying h1,Conv.intToInt]
 ·split at h
  ·injection h with h;subst h
   refine fin _ ?_ rfl
   rw [show a.eval x=_ from ex]
   simp [convert,run_underlying h0,run_underlying h1]
  ·cases h
  ·refine bytes h rfl fun u hu=>?_
   have h2:=h
   unfold xV at h2
   obtain⟨e,he,h2⟩:=aj h2
   obtain⟨de,hde,h2⟩:=aj h2
   obtain⟨hby,h2⟩:=aB h2
   obtain⟨rows,hrows,h2⟩:=aj h2
   obtain⟨A',c',e1, -⟩:=(A.rows ex hrows).len
   exact⟨A',_,c',by rw [←hu];exact e1⟩
 ·cases h
end
def dR {α:Type}(f:Nat→α)(k:Nat)(x:α):Nat→α:=fun j=>if j=k then x else f j
theorem dS {α:Type}(f:Nat→α)(k:Nat)(x:α):dR f k x k=x:=if_pos rfl
theorem fO {α:Type}(f:Nat→α){k j:Nat}(x:α)(h:j≠k):dR f k x j=f j:=if_neg h
theorem oH {α:Type}{x:Option α}(h:x.isNone=true):x=none:=by cases x with|none=>rfl|some=>cases h
theorem PE {x:Value}(h:x.oneCell'=true):x.cells= #[x]:=by cases x<;>first|rfl|cases h
section
variable {P:Program} {c:Ctx} {s:S} {y:Lay} {a:Act} {w:World}
theorem At.agu (A:At c s y a w){p:Nat}(h:p∈(s.tree++s.dG).map (·.1)):∃B n k,(y.hd p).v= .slice B n k:=by
 obtain⟨⟨q,rows⟩,hx,rfl⟩:=List.mem_map.1 h
 rcases List.mem_append.1 hx with hx|hx
 ·obtain⟨F,o⟩:=A.st.abW (List.mem_append_right _ (List.mem_append_left _ (List.mem_map.2 ⟨_,hx,rfl⟩)))
  obtain⟨B,k,e,_⟩:=(o.own.rd (G:=jT w) fun _ _ _ e=>e).len
  exact⟨_,_,_,e⟩
 ·obtain⟨B,k,e,_⟩:=((A.dG _ _ hx).own.rd (G:=jT (y.w0 q)) fun _ _ _ e=>e).len
  exact⟨_,_,_,e⟩
theorem At.one (A:At c s y a w){v:V}{u:Value}(h:RV (aX c s y) v u)(o:v.one=true):u.oneCell'=true:=by
 cases v with
 | v x=>rw [show u=x from h];exact o
 | nil=>rw [show u=_ from h];rfl
 | aP o' rows=>obtain⟨B,k,e,_⟩:=h.1.len;rw [e];rfl
 | own p=>obtain⟨B,n,k,e⟩:=A.agu h.1;rw [h.2,show((aX c s y).hd p).v=_ from e];rfl
 | inn p i j k=>exact h.2.2
 | fz rows=>obtain⟨B,k,e,_⟩:=wL.len (show wL _ (.l rows) u from h);rw [e];rfl
 | ref b off=>rw [h.2];rfl
 | pe base k i off=>obtain⟨ub,_,g,q,n,cc,_,_,e⟩:=h;rw [e];rfl
 | agg cs=>cases o
 | fK cs=>cases o
 | fn f cs=>obtain⟨us,e,_⟩:=h;rw [e];rfl
 | mp es=>obtain⟨b,_,_,e,_⟩:=h;rw [e];rfl
 | dead=>cases o
theorem At.cells (A:At c s y a w){v:V}{u:Value}(h:RV (aX c s y) v u)(o:v.cells.all V.one=true):jk (aX c s y) v.cells u.cells.toList∧∀x∈u.cells.toList,x.oneCell'=true:=by
 by_cases hv:∃cs,v= .agg cs
 ·obtain⟨cs,rfl⟩:=hv
  obtain⟨us,rfl,hs⟩:=h
  refine⟨by simpa [V.cells,Value.cells] using hs,fun x hx=>?_⟩
  have hx:x∈us:=by simpa [Value.cells] using hx
  obtain⟨i,e⟩:=List.getElem?_of_mem hx
  have hl:=hs.len
  have hi:i<cs.length:=by rw [←hl];exact(List.getElem?_eq_some_iff.1 e).1
  obtain⟨u',e1,e2⟩:=hs.get (List.getElem?_eq_getElem hi)
  rw [e]at e1;injection e1 with e1;subst e1
  exact A.one e2 (List.all_eq_true.1 o _ (List.getElem_mem hi))
 ·have hc:v.cells= [v]:=by cases v<;>first|rfl|exact absurd ⟨_,rfl⟩ hv
  rw [hc]at o⊢
  have ho:v.one=true:=by simpa using o
  have h1:=A.one h ho
  rw [PE h1]
  exact⟨⟨u,[],rfl,h,rfl⟩,fun x hx=>by simp at hx;subst hx;exact h1⟩
theorem Gy {bl:Nat→Nat}{T:Nat→TypeId}{us:Nat→Array Value}{k b:Nat}{T':TypeId}{u':Array Value}:∀{l:List (Nat×List V)},k∉l.map (·.1)→dJ (dR bl k b) (dR T k T') (dR us k u') l=dJ bl T us l
 | [],_=>rfl
 | (j,x)::r,h=>by
  simp only [List.map_cons,List.mem_cons,not_or]at h
  unfold dJ
  rw [List.map_cons,List.map_cons]
  have:=Gy (bl:=bl) (T:=T) (us:=us) (b:=b) (T':=T') (u':=u') h.2
  unfold dJ at this
  rw [this]
  simp only [fO _ _ (fun e=>h.1 e.symm:j≠k)]
theorem uE {hd:Nat→Hd}{k:Nat}{u:Hd}:∀{l:List (Nat×List (List D))},k∉l.map (·.1)→bW (dR hd k u) l=bW hd l
 | [],_=>rfl
 | (j,x)::r,h=>by
  simp only [List.map_cons,List.mem_cons,not_or]at h
  unfold bW
  rw [List.map_cons,List.map_cons]
  have:=uE (hd:=hd) (u:=u) h.2
  unfold bW at this
  rw [this]
  simp only [fO _ _ (fun e=>h.1 e.symm:j≠k)]
theorem At.uO (A:At c s y a w){t:Nat}{cs:List V}{us:Array Value}{T:TypeId}(hf:look t s.box=none)(hv:jk (aX c s y) cs us.toList)(hd':fM c.n (some t)=true):
  At c {s with env:=put t (.ref t 0) s.env,box:=(t,cs)::s.box} {y with bl:=dR y.bl t w.heap.size,T:=dR y.T t T,us:=dR y.us t us} (a.put (some t) (.pointer (some ⟨w.heap.size,0,none⟩))) (w.alloc (.cells us T)):=by
 have hn:=jY hf
 have le:(aX c s y).le (aX c {s with box:=(t,cs)::s.box} {y with bl:=dR y.bl t w.heap.size,T:=dR y.T t T,us:=dR y.us t us}):=
  ⟨fun _ _ h=>h,fun _ _ h=>h,rfl,fun b h=>⟨List.mem_cons_of_mem _ h,fO _ _ fun e=>hn (by rw [←e];exact h)⟩,fun p h=>⟨h,rfl⟩⟩
 have A1:At c {s with box:=(t,cs)::s.box} {y with bl:=dR y.bl t w.heap.size,T:=dR y.T t T,us:=dR y.us t us} a (w.alloc (.cells us T)):=by
  refine⟨A.defers,A.size,?_,fun t' v e=>(A.env t' v e).le le,fun b cs' h=>?_,A.dG,List.nodup_cons.2 ⟨hn,A.nb⟩,A.nt,A.fix.1,fun i h1 h2=>⟨(fO _ _ (by have:=fM.lt hd';have:=A.fix.1;omega)).trans (A.fix.2 i h1 h2).1,(A.fix.2 i h1 h2).2⟩⟩
  ·have S:=A.st.alloc us T
   show St c.W _ ((rowP (dR y.bl t w.heap.size t) (dR y.T t T t) (dR y.us t us t)::dJ (dR y.bl t w.heap.size) (dR y.T t T) (dR y.us t us) s.box)++_)
   rw [dS,dS,dS,Gy hn]
   exact S
  ·rcases List.mem_cons.1 h with h|h
   ·injection h with h1 h2;subst h1;subst h2
    show jk _ cs' (dR y.us b us b).toList
    rw [dS];exact hv.le le
   ·show jk _ cs' (dR y.us t us b).toList
    rw [fO _ _ (fun e=>hn (by rw [←e];exact List.mem_map.2 ⟨_,h,rfl⟩))]
    exact(A.box b cs' h).le le
 exact A1.value (v:= .ref t 0) ⟨List.mem_cons_self,by show _=Value.pointer (some ⟨dR y.bl t w.heap.size t,0,none⟩);rw [dS]⟩ hd'
theorem At.aeM (A:At c s y a w){t b0:Nat}{cs:List V}{us:Array Value}{T:TypeId}{w':World}(hf:look t s.box=none)(S:St c.W w' (rowP b0 T us::(dJ y.bl y.T y.us s.box++(bW y.hd s.tree++(gI y.w0 y.F s.dG++c.L)))))(hv:jk (aX c s y) cs us.toList)(hd':fM c.n (some t)=true):
  At c {s with env:=put t (.ref t 0) s.env,box:=(t,cs)::s.box} {y with bl:=dR y.bl t b0,T:=dR y.T t T,us:=dR y.us t us} (a.put (some t) (.pointer (some ⟨b0,0,none⟩))) w':=by
 have hn:=jY hf
 have le:(aX c s y).le (aX c {s with box:=(t,cs)::s.box} {y with bl:=dR y.bl t b0,T:=dR y.T t T,us:=dR y.us t us}):=
  ⟨fun _ _ h=>h,fun _ _ h=>h,rfl,fun b h=>⟨List.mem_cons_of_mem _ h,fO _ _ fun e=>hn (by rw [←e];exact h)⟩,fun p h=>⟨h,rfl⟩⟩
 have A1:At c {s with box:=(t,cs)::s.box} {y with bl:=dR y.bl t b0,T:=dR y.T t T,us:=dR y.us t us} a w':=by
  refine⟨A.defers,A.size,?_,fun t' v e=>(A.env t' v e).le le,fun b cs' h=>?_,A.dG,List.nodup_cons.2 ⟨hn,A.nb⟩,A.nt,A.fix.1,fun i h1 h2=>⟨(fO _ _ (by have:=fM.lt hd';have:=A.fix.1;omega)).trans (A.fix.2 i h1 h2).1,(A.fix.2 i h1 h2).2⟩⟩
  ·show St c.W _ ((rowP (dR y.bl t b0 t) (dR y.T t T t) (dR y.us t us t)::dJ (dR y.bl t b0) (dR y.T t T) (dR y.us t us) s.box)++_)
   rw [dS,dS,dS,Gy hn]
   exact S
  ·rcases List.mem_cons.1 h with h|h
   ·injection h with h1 h2;subst h1;subst h2
    show jk _ cs' (dR y.us b us b).toList
    rw [dS];exact hv.le le
   ·show jk _ cs' (dR y.us t us b).toList
    rw [fO _ _ (fun e=>hn (by rw [←e];exact List.mem_map.2 ⟨_,h,rfl⟩))]
    exact(A.box b cs' h).le le
 exact A1.value (v:= .ref t 0) ⟨List.mem_cons_self,by show _=Value.pointer (some ⟨dR y.bl t b0 t,0,none⟩);rw [dS]⟩ hd'
theorem At.newTree (A:At c s y a w){t:Nat}{rows:List (List D)}{u:Hd}{w':World}(hf:fresh s t=true)(hd':fM c.n (some t)=true)
  (S:St c.W w' (gD u rows::(dJ y.bl y.T y.us s.box++(bW y.hd s.tree++(gI y.w0 y.F s.dG++c.L))))):
  At c {s with env:=put t (.own t) s.env,tree:=(t,rows)::s.tree} {y with hd:=dR y.hd t u} (a.put (some t) u.v) w':=by
 unfold fresh at hf
 rw [Bool.and_eq_true]at hf
 have hn1:=jY (oH hf.1)
 have hn2:=jY (oH hf.2)
 have hn:t∉(s.tree++s.dG).map (·.1):=by rw [List.map_append,List.mem_append];exact fun h=>h.elim hn1 hn2
 have le:(aX c s y).le (aX c {s with tree:=(t,rows)::s.tree} {y with hd:=dR y.hd t u}):=
  ⟨fun _ _ h=>h,fun _ _ h=>h,rfl,fun b h=>⟨h,rfl⟩,fun p h=>⟨List.mem_cons_of_mem _ h,fO _ _ fun e=>hn (by rw [←e];exact h)⟩⟩
 have A1:At c {s with tree:=(t,rows)::s.tree} {y with hd:=dR y.hd t u} a w':=by
  refine⟨A.defers,A.size,?_,fun t' v e=>(A.env t' v e).le le,fun b cs' h=>(A.box b cs' h).le le,fun p rows' h=>?_,A.nb,List.nodup_cons.2 ⟨hn,A.nt⟩,A.fix.1,fun i h1 h2=>⟨(A.fix.2 i h1 h2).1,(fO _ _ (by have:=fM.lt hd';have:=A.fix.1;omega)).trans (A.fix.2 i h1 h2).2⟩⟩
  ·have S':St c.W w' (dJ y.bl y.T y.us s.box++(gD u rows::bW y.hd s.tree++(gI y.w0 y.F s.dG++c.L))):=S.perm (by
    rw [List.cons_append]
    exact(List.perm_middle).symm)
   show St c.W w' (dJ y.bl y.T y.us s.box++(gD (dR y.hd t u t) rows::bW (dR y.hd t u) s.tree++(gI y.w0 y.F s.dG++c.L)))
   rw [dS,uE hn1];exact S'
  ·show kL _ _ (dR y.hd t u p) _
   rw [fO _ _ (fun e=>hn2 (by rw [←e];exact List.mem_map.2 ⟨_,h,rfl⟩))]
   exact A.dG p rows' h
 exact A1.value (v:= .own t) ⟨List.mem_cons_self,by show u.v=(dR y.hd t u t).v;rw [dS]⟩ hd'
theorem EA (p:Nat):∀(l:List (Nat×List V)),(oK p l).map (·.1)=l.map (·.1)
 | []=>rfl
 | (i,z)::r=>by unfold oK;rw [List.map_cons,List.map_cons,EA p r]
theorem Gz {bl:Nat→Nat}{T:Nat→TypeId}{us:Nat→Array Value}(p:Nat):∀(l:List (Nat×List V)),dJ bl T us (oK p l)=dJ bl T us l
 | []=>rfl
 | (i,z)::r=>by
  have:=Gz (bl:=bl) (T:=T) (us:=us) p r
  unfold dJ at this⊢
  unfold oK;rw [List.map_cons,List.map_cons,this]
theorem EB (p t:Nat):∀(l:List (Nat×V)),look t (zU p l)=(look t l).map fun v=>if aM p v=true then .dead else v
 | []=>rfl
 | (i,z)::r=>by
  unfold zU
  simp only [look]
  split
  ·rfl
  ·exact EB p t r
theorem ND {ρ ρ':Rel}{p:Nat}(hK:ρ'.K=ρ.K)(hZ:∀b o,ρ.Z b o→ρ'.Z b o)(hs:ρ'.src=ρ.src)(hb:∀b,ρ.Lb b→ρ'.Lb b∧ρ'.bl b=ρ.bl b)(ht:∀q,q≠p→ρ.Lt q→ρ'.Lt q∧ρ'.hd q=ρ.hd q):
  ∀{vs:List V} {us:List Value},jk ρ vs us→jk ρ' (zV p vs) us
 | [],_,h=>h
 | v::_,_,h=>by
  obtain⟨u,q,h1,h2,h3⟩:=h
  refine⟨u,q,h1,?_,ND hK hZ hs hb ht h3⟩
  cases e:aM p v with
  | true=>simp;trivial
  | false=>simp;exact RV.less hK hZ hs hb ht e h2
theorem MK {p b:Nat}{cs:List V}:∀{l:List (Nat×List V)},(b,cs)∈oK p l→∃cs',(b,cs')∈l∧cs=zV p cs'
 | [],h=>by cases h
 | (i,z)::r,h=>by
  unfold oK at h
  rcases List.mem_cons.1 h with h|h
  ·injection h with h1 h2;subst h1;subst h2;exact⟨z,List.mem_cons_self,rfl⟩
  ·obtain⟨cs',h1,h2⟩:=MK h
   exact⟨cs',List.mem_cons_of_mem _ h1,h2⟩
theorem At.out (A:At c s y a w){p:Nat}{rows:List (List D)}(hl:look p s.tree=some rows):
  St c.W w (gD (y.hd p) rows::(dJ y.bl y.T y.us s.box++(bW y.hd (drop1 p s.tree)++(gI y.w0 y.F s.dG++c.L)))):=by
 obtain⟨l1,l2,h1,_,h3⟩:=sS hl
 have n:=A.nt
 rw [List.map_append,List.nodup_append]at n
 have h3:=h3 n.1
 refine A.st.perm ?_
 rw [h3]
 refine((List.perm_middle (l₁:=dJ y.bl y.T y.us s.box) (l₂:=bW y.hd (l1++l2)++(gI y.w0 y.F s.dG++c.L)) (a:=gD (y.hd p) rows)).symm.trans ?_).symm
 refine List.Perm.append_left _ ?_
 rw [←List.cons_append]
 refine List.Perm.append_right _ ?_
 rw [h1]
 unfold bW
 rw [List.map_append,List.map_append,List.map_cons]
 exact List.perm_middle.symm
theorem At.killed (A:At c s y a w){p:Nat}{w':World}{L':List Pc}(hK':∀w,St c.W w L'→∀b o,c.K b o→w.heap[b]?=some o)(S:St c.W w' (dJ y.bl y.T y.us s.box++(bW y.hd (drop1 p s.tree)++(gI y.w0 y.F s.dG++L'))))(hp:p∈s.tree.map (·.1)):At {c with L:=L',hK:=hK'} (s.kill p) y a w':=by
 have n:=A.nt
 rw [List.map_append,List.nodup_append]at n
 have hmem:∀q,q∈(drop1 p s.tree).map (·.1)→q∈s.tree.map (·.1)∧q≠p:=by
  intro q hq
  obtain⟨⟨q',r⟩,hx,rfl⟩:=List.mem_map.1 hq
  have:∀{l:List (Nat×List (List D))},(q',r)∈drop1 p l→(q',r)∈l∧q'≠p:=by
   intro l;induction l with
   | nil=>intro h;cases h
   | cons x l ih=>
    intro h
    obtain⟨i,z⟩:=x
    unfold drop1 at h
    split at h
    ·exact⟨List.mem_cons_of_mem _ (ih h).1,(ih h).2⟩
    ·rename_i hne
     rcases List.mem_cons.1 h with h|h
     ·injection h with h1 h2;subst h1;subst h2;exact⟨List.mem_cons_self,fun e=>hne e.symm⟩
     ·exact⟨List.mem_cons_of_mem _ (ih h).1,(ih h).2⟩
  have:=this hx
  exact⟨List.mem_map.2 ⟨_,this.1,rfl⟩,this.2⟩
 have hkeep:∀q,q≠p→q∈s.tree.map (·.1)→q∈(drop1 p s.tree).map (·.1):=by
  intro q hq h
  obtain⟨⟨q',r⟩,hx,rfl⟩:=List.mem_map.1 h
  have h2:=jZ n.1 hx
  have:look q' (drop1 p s.tree)=some r:=by rw [ru,if_neg hq];exact h2
  exact List.mem_map.2 ⟨_,fD this,rfl⟩
 have ht:∀q,q≠p→(aX c s y).Lt q→(aX c (s.kill p) y).Lt q∧(aX c (s.kill p) y).hd q=(aX c s y).hd q:=by
  intro q hq h
  refine⟨?_,rfl⟩
  have h:q∈(s.tree++s.dG).map (·.1):=h
  show q∈(drop1 p s.tree++s.dG).map (·.1)
  rw [List.map_append,List.mem_append]at h⊢
  exact h.imp (hkeep q hq) _root_.id
 have hb:∀b,(aX c s y).Lb b→(aX c (s.kill p) y).Lb b∧(aX c (s.kill p) y).bl b=(aX c s y).bl b:=by
  intro b h
  refine⟨?_,rfl⟩
  show b∈(oK p s.box).map (·.1)
  rw [EA];exact h
 refine⟨A.defers,A.size,?_,fun t v e=>?_,fun b cs h=>?_,A.dG,?_,?_,A.fix⟩
 ·show St c.W w' (dJ y.bl y.T y.us (oK p s.box)++(bW y.hd (drop1 p s.tree)++(gI y.w0 y.F s.dG++L')))
  rw [Gz];exact S
 ·have e:look t (zU p s.env)=some v:=e
  rw [EB]at e
  cases e2:look t s.env with
  | none=>rw [e2]at e;cases e
  | some v'=>
   rw [e2]at e;simp only [Option.map_some,Option.some.injEq]at e
   subst e
   cases e3:aM p v' with
   | true=>simp;trivial
   | false=>simp only [Bool.false_eq_true,if_false];exact RV.less (ρ:=aX c s y) (ρ':=aX c (s.kill p) y) rfl (fun _ _ h=>h) rfl hb ht e3 (A.env t v' e2)
 ·obtain⟨cs',h1,rfl⟩:=MK h
  exact ND (ρ:=aX c s y) (ρ':=aX c (s.kill p) y) rfl (fun _ _ h=>h) rfl hb ht (A.box b cs' h1)
 ·show((oK p s.box).map (·.1)).Nodup
  rw [EA];exact A.nb
 ·show((drop1 p s.tree++s.dG).map (·.1)).Nodup
  rw [List.map_append,List.nodup_append]
  refine⟨?_,n.2.1,fun x hx z hz=>n.2.2 x (hmem x hx).1 z hz⟩
  obtain⟨⟨q,r⟩,hx,rfl⟩:=List.mem_map.1 hp
  obtain⟨l1,l2,e1,_,e3⟩:=sS (jZ n.1 hx)
  rw [e3 n.1,List.map_append]
  have n1:=n.1
  rw [e1,List.map_append,List.map_cons]at n1
  have n2:=List.perm_middle.nodup_iff.1 n1
  exact(List.nodup_cons.1 n2).2
theorem aeN {o:Oper}{t:TypeId}{x:Operand}(ho:o.op= .box t x)(hd':fM c.n o.dst=true){v:V}{s':S}(hx:s.ev x=some v)(h1:v.cells.all V.one=true)(h:s.uO o.dst v.cells=some s'):Step P c o s s':=by
 intro a w G next Q k
 obtain⟨y,A⟩:=G
 unfold S.uO at h
 obtain⟨d,hd,h⟩:=aj h
 obtain⟨hf,h⟩:=aB h
 injection h with h;subst h
 rw [hd]at hd'
 have ex:=A.cells (A.ev hx) h1
 have A':=A.uO (T:=t) (oH hf) ex.1 hd'
 refine qD (u:= .pointer (some ⟨w.heap.size,0,none⟩)) (w':=w.alloc (.cells (a.eval x).cells t)) ?_ (k _ _ ⟨_,by rw [hd];exact A'⟩)
 unfold execOp;simp only [ho];simp [Instr.box,newVar,newRow]
theorem U7 {ρ:Rel}{z:Value}{v:V}(h:uN z=some v):jk ρ v.cells z.cells.toList:=by
 have e:=K6 (ρ:=ρ) h
 unfold uN at h
 split at h<;>(try (cases h;done))<;>(injection h with h;subst h)
 case _=>exact⟨_,_,rfl,rfl,rfl⟩
 case _=>exact⟨_,_,rfl,rfl,rfl⟩
 case _=>exact⟨_,_,rfl,rfl,rfl⟩
 case _=>exact⟨_,_,rfl,rfl,rfl⟩
 case _=>exact⟨_,_,rfl,rfl,rfl⟩
 case _=>
  obtain⟨us,e1,e2⟩:=e
  injection e1 with e1
  show jk ρ (List.map xS _) (_:Array Value).toList
  have e3:us=(us.toArray).toList:=rfl
  rw [e3,←e1]at e2
  exact e2
theorem GA {t:TypeId}{cs:List V}(h:jM P t=some cs):∃i z,P.info? t=some i∧i.zero=some z∧∀ρ:Rel,jk ρ cs z.cells.toList:=by
 unfold jM at h
 obtain⟨i,h1,h⟩:=aj h
 obtain⟨z,h2,h⟩:=aj h
 obtain⟨v,h3,h⟩:=aj h
 injection h with h;subst h
 exact⟨i,z,h1,h2,fun ρ=>U7 h3⟩
theorem ZM {o:Oper}{t:TypeId}(ho:o.op= .alloc t)(hd':fM c.n o.dst=true){cs:List V}{s':S}(hz:jM P t=some cs)(h:s.uO o.dst cs=some s'):Step P c o s s':=by
 intro a w G next Q k
 obtain⟨y,A⟩:=G
 unfold S.uO at h
 obtain⟨d,hd,h⟩:=aj h
 obtain⟨hf,h⟩:=aB h
 injection h with h;subst h
 rw [hd]at hd'
 obtain⟨i,z,h1,h2,h3⟩:=GA hz
 have A':=A.uO (T:=t) (oH hf) (h3 _) hd'
 refine qD (u:= .pointer (some ⟨w.heap.size,0,none⟩)) (w':=w.alloc (.cells z.cells t)) ?_ (k _ _ ⟨_,by rw [hd];exact A'⟩)
 unfold execOp;simp only [ho];simp [Instr.alloc,zeroValue,typeInfo,h1,h2,newVar,newRow]
end
theorem EC {w0:Nat→World}{F:Nat→List Nat}{k:Nat}{u:World}{f:List Nat}:∀{l:List (Nat×List (List D))},k∉l.map (·.1)→gI (dR w0 k u) (dR F k f) l=gI w0 F l
 | [],_=>rfl
 | (j,x)::r,h=>by
  simp only [List.map_cons,List.mem_cons,not_or]at h
  have:=EC (w0:=w0) (F:=F) (u:=u) (f:=f) h.2
  unfold gI at this⊢
  rw [List.map_cons,List.map_cons,this]
  simp only [fO _ _ (fun e=>h.1 e.symm:j≠k)]
theorem PG (w:World)(e:TypeId)(b:ByteArray):Ext w (Lib.bytesWorld w e b):=
 ⟨rfl,rfl,rfl,by rw [Lib.bytesWorld_size];omega,fun k hk=>Lib.bytesWorld_at_old w e b k hk⟩
theorem GD (b:ByteArray):(nV b).flatten=b.data.toList.map fun c=>D.a (.int .u8 (c.toNat:Int)):=by
 unfold nV
 induction b.data.toList with
 | nil=>rfl
 | cons x l ih=>rw [List.map_cons,List.flatten_cons,ih];rfl
theorem aeO {w:World}{e:TypeId}{b:ByteArray}(hb:b.size≤4611686018427387904){G:Nat→Obj→Prop}(hG:∀o,(Lib.bytesWorld w e b).heap[w.heap.size]?=some o→G w.heap.size o):
  wL G (.l (nV b)) (.slice (some ⟨w.heap.size,0,none⟩) b.size (grownCap w b.size 0 e)):=by
 have h1:=grownCap_ge w b.size 0 e
 have h2:=grownCap_le_maxLen w b.size 0 e (by unfold maxLen;omega)
 unfold maxLen at h2
 have hs:b.size=b.data.toList.length:=by simp
 by_cases h0:b.size=0
 ·have:nV b= []:=by
   unfold nV
   rw [List.map_eq_nil_iff]
   exact List.eq_nil_of_length_eq_zero (by omega)
  rw [this,h0]
  exact .nil _ _ (by rw [h0]at h2;omega) (fun h=>nomatch h)
 ·refine .l (nV b) b.size _ w.heap.size 0 1 e _ (Lib.bytesCells w e b) (fun i=> .int .u8 ((b.data.toList.getD i 0).toNat:Int)) (by rw [nV,List.length_map];omega) (by omega) h1 (by omega) (by omega) (fun r hr=>?_) (hG _ (Lib.bytesWorld_at_new w e b)) (fun i d hd=>?_) (fun i d hd=>?_)
  ·unfold nV at hr
   obtain⟨c,_,rfl⟩:=List.mem_map.1 hr
   rfl
  ·rw [GD,List.getElem?_map]at hd
   obtain⟨c,hc,rfl⟩:=Option.map_eq_some_iff.1 hd
   have hi:i<b.data.size:=by simpa using (List.getElem?_eq_some_iff.1 hc).1
   rw [Nat.zero_add]
   unfold Lib.bytesCells
   rw [Array.getElem?_append_left (by simpa using hi)]
   simp only [Array.getElem?_map]
   have:b.data[i]?=some c:=by simpa using hc
   rw [this,List.getD_eq_getElem?_getD,hc]
   rfl
  ·rw [GD,List.getElem?_map]at hd
   obtain⟨c,hc,rfl⟩:=Option.map_eq_some_iff.1 hd
   rw [List.getD_eq_getElem?_getD,hc]
   exact .a _
section
variable {P:Program} {c:Ctx} {s:S} {y:Lay} {a:Act} {w:World}
theorem At.froze (A:At c s y a w){t:Nat}{e:TypeId}{b:ByteArray}(hb:b.size≤4611686018427387904)(hf:fresh s t=true)(hd':fM c.n (some t)=true):
  Good c {s with env:=put t (.fz (nV b)) s.env,dG:=(t,[])::s.dG} (a.put (some t) (.slice (some ⟨w.heap.size,0,none⟩) b.size (grownCap w b.size 0 e))) (Lib.bytesWorld w e b):=by
 unfold fresh at hf
 rw [Bool.and_eq_true]at hf
 have hn1:=jY (oH hf.1)
 have hn2:=jY (oH hf.2)
 have hn:t∉(s.tree++s.dG).map (·.1):=by rw [List.map_append,List.mem_append];exact fun h=>h.elim hn1 hn2
 have hx:=PG w e b
 have kk:∀n,n∈(s.tree++s.dG).map (·.1)→n∈(s.tree++(t,([]:List (List D)))::s.dG).map (·.1):=by
  intro n h
  rw [List.map_append,List.mem_append]at h⊢
  exact h.elim .inl fun h=> .inr (List.mem_cons_of_mem _ h)
 have le:(aX c s y).le (aX c {s with dG:=(t,[])::s.dG} {y with hd:=dR y.hd t qR,w0:=dR y.w0 t (Lib.bytesWorld w e b),F:=dR y.F t [w.heap.size]}):=by
  refine⟨fun _ _ h=>h,fun b' o ⟨q,h1,h2,h3⟩=>?_,rfl,fun b h=>⟨h,rfl⟩,fun q h=>⟨kk q h,fO _ _ fun e=>hn (by rw [←e];exact h)⟩⟩
  have hq:q≠t:=fun e=>hn2 (by rw [←e];exact h1)
  exact⟨q,List.mem_cons_of_mem _ h1,by show b'∈dR y.F t _ q;rw [fO _ _ hq];exact h2,by show(dR y.w0 t _ q).heap[b']?=some o;rw [fO _ _ hq];exact h3⟩
 have A1:At c {s with dG:=(t,[])::s.dG} {y with hd:=dR y.hd t qR,w0:=dR y.w0 t (Lib.bytesWorld w e b),F:=dR y.F t [w.heap.size]} a (Lib.bytesWorld w e b):=by
  refine⟨A.defers,A.size,?_,fun t' v e=>(A.env t' v e).le le,fun b cs h=>(A.box b cs h).le le,fun q r h=>?_,A.nb,?_,A.fix.1,fun i h1 h2=>⟨(A.fix.2 i h1 h2).1,(fO _ _ (by have:=fM.lt hd';have:=A.fix.1;omega)).trans (A.fix.2 i h1 h2).2⟩⟩
  ·have S1:St c.W (Lib.bytesWorld w e b) (lI (Lib.bytesWorld w e b) [w.heap.size]::(dJ y.bl y.T y.us s.box++(bW y.hd s.tree++(gI y.w0 y.F s.dG++c.L)))):=
    A.st.more hx (h:=lI (Lib.bytesWorld w e b) [w.heap.size]) (F:= [w.heap.size]) ⟨rfl,fun _ _=>rfl⟩ (by simp) (fun k hk=>by simp only [List.mem_singleton]at hk;subst hk;rw [Lib.bytesWorld_size];omega)
   show St c.W _ (dJ y.bl y.T y.us s.box++(bW (dR y.hd t qR) s.tree++((lI (dR y.w0 t (Lib.bytesWorld w e b) t) (dR y.F t [w.heap.size] t)::gI (dR y.w0 t (Lib.bytesWorld w e b)) (dR y.F t [w.heap.size]) s.dG)++c.L)))
   rw [dS,dS,EC hn2,uE hn1]
   have q:=(List.perm_middle (a:=lI (Lib.bytesWorld w e b) [w.heap.size]) (l₁:=dJ y.bl y.T y.us s.box++bW y.hd s.tree) (l₂:=gI y.w0 y.F s.dG++c.L)).symm
   simp only [List.append_assoc,List.cons_append]at q⊢S1
   exact S1.perm q
  ·show kL (dR y.w0 t _ q) _ (dR y.hd t qR q) (dR y.F t _ q)
   rcases List.mem_cons.1 h with h|h
   ·injection h with h1 h2;subst h1;subst h2
    rw [dS,dS,dS]
    exact⟨.nil none _,fun g ob n c cs T fr m r' e1=>by cases e1⟩
   ·have hq:q≠t:=fun e=>hn2 (by rw [←e];exact List.mem_map.2 ⟨_,h,rfl⟩)
    rw [fO _ _ hq,fO _ _ hq,fO _ _ hq];exact A.dG q r h
  ·show((s.tree++(t,[])::s.dG).map (·.1)).Nodup
   have An:=A.nt
   rw [List.map_append,List.nodup_append]at An⊢
   refine⟨An.1,List.nodup_cons.2 ⟨hn2,An.2.1⟩,fun x hx z hz e=>?_⟩
   subst e
   rcases List.mem_cons.1 hz with h|h
   ·have h:x=t:=h
    subst h
    exact hn1 hx
   ·exact An.2.2 x hx x h rfl
 refine⟨_,A1.value (v:= .fz (nV b)) ?_ hd'⟩
 refine aeO hb fun o ho=>⟨t,List.mem_cons_self,?_,?_⟩
 ·show w.heap.size∈dR y.F t _ t
  rw [dS];exact List.mem_singleton_self _
 ·show(dR y.w0 t _ t).heap[w.heap.size]?=some o
  rw [dS];exact ho
theorem ZN {o:Oper}{t0 t:TypeId}{x:Operand}{s':S}(ho:o.op= .convert t0 t x)(hd':fM c.n o.dst=true){vx:V}{d0 d:TypeDesc}(hx:s.ev x=some vx)(h0:P.underlying t0=some d0)(h1:P.underlying t=some d)(h:KR P s o.dst vx d0 d=some s'):Step P c o s s':=by
 by_cases hs:∃e,d= .slice e
 ·obtain⟨e,rfl⟩:=hs
  simp only [KR]at h
  obtain⟨de,he,h⟩:=aj h
  obtain⟨hby,h⟩:=aB h
  have ahK:de= .int .u8:=by unfold Eu at hby;split at hby<;>first|rfl|cases hby
  subst ahK
  have hv:∃b,vx= .v (.string b):=by
   unfold Gl at h
   split at h
   ·exact⟨_,rfl⟩
   ·cases h
  ·obtain⟨b,rfl⟩:=hv
   simp only [Gl]at h
   obtain⟨t',ht,h⟩:=aj h
   obtain⟨⟨hf,hb⟩,h⟩:=aB h
   injection h with h;subst h
   rw [ht]at hd'
   intro a w G next Q k
   obtain⟨y,A⟩:=G
   have ex:a.eval x= .string b:=A.ev hx
   refine qD (u:= .slice (some ⟨w.heap.size,0,none⟩) b.size (grownCap w b.size 0 e)) (w':=Lib.bytesWorld w e b) ?_ (k _ _ ?_)
   ·unfold execOp
    simp only [ho]
    rw [ex,Sem.run_bind,Lib.run_convert_string_bytes (P:=P) w t0 t e b h0 h1 he]
    rfl
   ·rw [ht]
    exact A.froze hb hf hd'
 ·have hc:KR P s o.dst vx d0 d=bnd (wN P s vx d0 d) fun v=>some (s.put o.dst v):=by
   cases d<;>first|rfl|exact absurd ⟨_,rfl⟩ hs
  rw [hc]at h
  obtain⟨v,h2,h⟩:=aj h
  injection h with h;subst h
  exact U6 ho hd' hx h0 h1 h2
end
end Go.Proofs.YtlpdjhiggpblcaaGreat
