/-
  The evaluator's laws for simp, a case each. Printed by gen_engs.py.
-/
import Derived.Test.YtacnbajcignacaaGreatEng
namespace Go.Proofs.YtacnbajcignacaaGreat
open Go.RowKit
set_option linter.unusedSimpArgs false
set_option linter.unusedVariables false

section
variable {α β : Type} (k j : Nat) (x y : α) (r : List (Nat × α))
@[simp, go_sem] theorem s1 : look k ([] : List (Nat × α)) = none := id rfl
@[simp, go_sem] theorem s2 : look k ((j, x) :: r) = if k = j then some x else look k r := id rfl
@[simp, go_sem] theorem s3 : put k x [] = [(k, x)] := id rfl
@[simp, go_sem] theorem s4 : put k x ((j, y) :: r) = if k = j then (k, x) :: r else if j < k then (k, x) :: (j, y) :: r else (j, y) :: put k x r := id rfl
@[simp, go_sem] theorem s5 : drop1 k ([] : List (Nat × α)) = [] := id rfl
@[simp, go_sem] theorem s6 : drop1 k ((j, y) :: r) = if k = j then drop1 k r else (j, y) :: drop1 k r := id rfl
@[simp, go_sem] theorem s7 : upd k x ([] : List (Nat × α)) = [] := id rfl
@[simp, go_sem] theorem s8 : upd k x ((j, y) :: r) = if k = j then (k, x) :: r else (j, y) :: upd k x r := id rfl
@[simp, go_sem] theorem s9 : withIdx k ([] : List α) = [] := id rfl
@[simp, go_sem] theorem s10 (l : List α) : withIdx k (x :: l) = (k, x) :: withIdx (k + 1) l := id rfl
@[simp, go_sem] theorem s11 : numbered k ([] : List (Nat × α)) = [] := id rfl
@[simp, go_sem] theorem s12 : numbered k ((j, x) :: r) = (k, x) :: numbered (k + 1) r := id rfl
@[simp, go_sem] theorem s13 (f : α → Option β) : mapSome f [] = some [] := id rfl
@[simp, go_sem] theorem s14 (f : α → Option β) (l : List α) : mapSome f (x :: l) = bnd (f x) fun y => bnd (mapSome f l) fun l => some (y :: l) := id rfl
@[simp, go_sem] theorem s15 : desc [] = true := id rfl
@[simp, go_sem] theorem s16 : desc [k] = true := id rfl
@[simp, go_sem] theorem s17 (l : List Nat) : desc (k :: j :: l) = (decide (j < k) && desc (j :: l)) := id rfl
@[simp, go_sem] theorem s18 (n : Nat) : pos k [] n = none := id rfl
@[simp, go_sem] theorem s19 (l : List Nat) (n : Nat) : pos k (j :: l) n = if k = j then some n else pos k l (n + 1) := id rfl
end
section
variable (P : Program) (G : List (FuncId × Bool × Mean)) (e : List (Nat × V)) (b : List (Nat × List V)) (t f : List (Nat × List (List D))) (s : S) (n m p q kk : Nat) (x y : V) (vs : List V) (rows : List (List D))
@[simp, go_sem] theorem s20 : S.put ⟨e, b, t, f⟩ (some n) x = ⟨put n x e, b, t, f⟩ := id rfl
@[simp, go_sem] theorem s21 : S.put s none x = s := id rfl
@[simp, go_sem] theorem s22 : S.skip ⟨e, b, t, f⟩ (some n) = ⟨drop1 n e, b, t, f⟩ := id rfl
@[simp, go_sem] theorem s23 : S.skip s none = s := id rfl
@[simp, go_sem] theorem s24 (z : Bool) : constV (.bool z) = some (.v (.bool z)) := id rfl
@[simp, go_sem] theorem s25 (k : IntKind) (z : Int) : constV (.int k z) = some (.v (.int k z)) := id rfl
@[simp, go_sem] theorem s26 (z : ByteArray) : constV (.string z) = some (.v (.string z)) := id rfl
@[simp, go_sem] theorem s27 : constV (.slice none 0 0) = some .nil := id rfl
@[simp, go_sem] theorem s28 : constV (.pointer none) = some (.v (.pointer none)) := id rfl
@[simp, go_sem] theorem s29 : constV (.agg #[]) = some (.agg []) := id rfl
@[simp, go_sem] theorem s30 : constC (.slice none 0 0) = .nil := id rfl
@[simp, go_sem] theorem s31 (z : Bool) : constC (.bool z) = .v (.bool z) := id rfl
@[simp, go_sem] theorem s32 (k : IntKind) (z : Int) : constC (.int k z) = .v (.int k z) := id rfl
@[simp, go_sem] theorem s33 (z : ByteArray) : constC (.string z) = .v (.string z) := id rfl
@[simp, go_sem] theorem s34 : constC (.pointer none) = .v (.pointer none) := id rfl
@[simp, go_sem] theorem s35 (cs : Array Value) : constV (.agg cs) = some (.agg (cs.toList.map constC)) := id rfl
@[simp, go_sem] theorem s36 : s.ev (.tmp n) = look n s.env := id rfl
@[simp, go_sem] theorem s37 (c : Value) : s.ev (.const c) = constV c := id rfl
@[simp, go_sem] theorem s38 : s.ev (.func n) = some (.fn n []) := id rfl
@[simp, go_sem] theorem s39 : V.cells (.agg vs) = vs := id rfl
@[simp, go_sem] theorem s40 (z : Value) : V.cells (.v z) = [.v z] := id rfl
@[simp, go_sem] theorem s41 : V.cells (.nil) = [.nil] := id rfl
@[simp, go_sem] theorem s42 (o : Option Nat) : V.cells (.lst o rows) = [.lst o rows] := id rfl
@[simp, go_sem] theorem s43 : V.cells (.own n) = [.own n] := id rfl
@[simp, go_sem] theorem s44 : V.cells (.fz rows) = [.fz rows] := id rfl
@[simp, go_sem] theorem s45 : V.cells (.ref n m) = [.ref n m] := id rfl
@[simp, go_sem] theorem s46 : V.cells (.pe x kk n m) = [.pe x kk n m] := id rfl
@[simp, go_sem] theorem s47 : V.cells (.fn n vs) = [.fn n vs] := id rfl
@[simp, go_sem] theorem s48 : s.rows .nil = some [] := id rfl
@[simp, go_sem] theorem s49 (o : Option Nat) : s.rows (.lst o rows) = some rows := id rfl
@[simp, go_sem] theorem s50 : s.rows (.fz rows) = some rows := id rfl
@[simp, go_sem] theorem s51 : s.rows (.own p) = orElse1 (look p s.tree) (look p s.fro) := id rfl
@[simp, go_sem] theorem s52 (z : Value) : s.under x (.a z) = some (.v z) := id rfl
@[simp, go_sem] theorem s53 (o : Option Nat) (rs : List (List D)) : s.under (.lst o rs) (.l rows) = some (.lst none rows) := id rfl
@[simp, go_sem] theorem s54 (rs : List (List D)) : s.under (.fz rs) (.l rows) = some (.fz rows) := id rfl
@[simp, go_sem] theorem s55 : s.under (.own p) (.l rows) = bnd (look p s.fro) fun _ => some (.fz rows) := id rfl
@[simp, go_sem] theorem s56 (z : Array Field) : isAggD (.struct z) = true := id rfl
@[simp, go_sem] theorem s57 : isAggD (.array n m) = true := id rfl
@[simp, go_sem] theorem s58 : isAggD (.bool) = false := id rfl
@[simp, go_sem] theorem s59 (k : IntKind) : isAggD (.int k) = false := id rfl
@[simp, go_sem] theorem s60 : isAggD (.string) = false := id rfl
@[simp, go_sem] theorem s61 : isAggD (.slice n) = false := id rfl
@[simp, go_sem] theorem s62 : isAggD (.pointer n) = false := id rfl
@[simp, go_sem] theorem s63 (a c : Array TypeId) (d : Bool) : isAggD (.func a c d) = false := id rfl
@[simp, go_sem] theorem s64 (z : Array (String × TypeId)) : isAggD (.interface z) = false := id rfl
@[simp, go_sem] theorem s65 : isAggD (.map n m) = false := id rfl
@[simp, go_sem] theorem s66 : span vs n m true = grd (n + m ≤ vs.length) (some (.agg ((vs.drop n).take m))) := id rfl
@[simp, go_sem] theorem s67 : span vs n m false = vs[n]? := id rfl
@[simp, go_sem] theorem s68 : s.load P n (.ref p m) = bnd (aggT P n) fun g => bnd (look p s.box) fun cs => span cs m (P.cellsOf n) g := id rfl
@[simp, go_sem] theorem s69 : s.load P n (.pe x kk p m) = bnd (aggT P n) fun g => bnd (s.rows x) fun rows => bnd rows[p]? fun r => grd (r.length = kk) (s.loadRow x r m (P.cellsOf n) g) := id rfl
@[simp, go_sem] theorem s70 (r : List D) : s.loadRow x r n m true = grd (n + m ≤ r.length) (bnd (mapSome (s.under x) ((r.drop n).take m)) fun cs => some (.agg cs)) := id rfl
@[simp, go_sem] theorem s71 (r : List D) : s.loadRow x r n m false = bnd r[n]? (s.under x) := id rfl
@[simp, go_sem] theorem s72 : setAt vs n [] = vs := id rfl
@[simp, go_sem] theorem s73 (ws : List V) : setAt vs n (x :: ws) = setAt (vs.set n x) (n + 1) ws := id rfl
@[simp, go_sem] theorem s74 : oneD (.l rows) = true := id rfl
@[simp, go_sem] theorem s75 (z : Value) : oneD (.a z) = z.oneCell' := id rfl
@[simp, go_sem] theorem s76 (z : Value) : V.one (.v z) = z.oneCell' := id rfl
@[simp, go_sem] theorem s77 : V.one .nil = true := id rfl
@[simp, go_sem] theorem s78 (o : Option Nat) : V.one (.lst o rows) = true := id rfl
@[simp, go_sem] theorem s79 : V.one (.fz rows) = true := id rfl
@[simp, go_sem] theorem s80 : V.one (.own p) = true := id rfl
@[simp, go_sem] theorem s81 : V.one (.ref n m) = true := id rfl
@[simp, go_sem] theorem s82 : V.one (.pe x kk n m) = true := id rfl
@[simp, go_sem] theorem s83 : V.one (.fn n vs) = true := id rfl
@[simp, go_sem] theorem s84 (k : IntKind) (a : Int) : Value.oneCell' (.int k a) = true := id rfl
@[simp, go_sem] theorem s85 (g : Bool) : Value.oneCell' (.bool g) = true := id rfl
@[simp, go_sem] theorem s86 (u : ByteArray) : Value.oneCell' (.string u) = true := id rfl
@[simp, go_sem] theorem s87 (o : Option Addr) : Value.oneCell' (.pointer o) = true := id rfl
@[simp, go_sem] theorem s88 (z : Value) : Value.oneCell' (.iface n z) = true := id rfl
@[simp, go_sem] theorem s89 : Value.oneCell' (.nilIface) = true := id rfl
@[simp, go_sem] theorem s90 : Value.oneCell' (.nilFunc) = true := id rfl
@[simp, go_sem] theorem s91 (z : Value) : V.atom (.v z) = some (.a z) := id rfl
@[simp, go_sem] theorem s92 (z : Value) : flatD (.a z) = true := id rfl
@[simp, go_sem] theorem s93 : flatD (.l rows) = false := id rfl
@[simp, go_sem] theorem s94 : S.store P ⟨e, b, t, f⟩ n (.ref p m) x = grd (sizedT P n = true ∧ x.cells.length = P.cellsOf n) (bnd (look p b) fun cs => grd (m + x.cells.length ≤ cs.length ∧ x.cells.all V.one = true) (some ⟨e, upd p (setAt cs m x.cells) b, t, f⟩)) := id rfl
@[simp, go_sem] theorem s95 : S.store P ⟨e, b, t, f⟩ n (.pe (.own q) kk p m) x = grd (sizedT P n = true ∧ x.cells.length = P.cellsOf n) (bnd (look q t) fun rows => bnd x.atom fun d => bnd rows[p]? fun r => bnd r[m]? fun d0 => grd (r.length = kk ∧ flatD d0 = true ∧ oneD d = true) (some ⟨e, b, upd q (rows.set p (r.set m d)) t, f⟩)) := id rfl
end
section
variable (P : Program) (t : TypeId) (k k2 : IntKind) (a c : Int) (u v : ByteArray) (g h : Bool)
@[simp, go_sem] theorem s96 : bin P t .add (.v (.int k a)) (.v (.int k2 c)) = bnd (grd (k = k2) (some (.int k (k.wrap (a + c))))) fun v => some (.v v) := id rfl
@[simp, go_sem] theorem s97 : bin P t .sub (.v (.int k a)) (.v (.int k2 c)) = bnd (grd (k = k2) (some (.int k (k.wrap (a - c))))) fun v => some (.v v) := id rfl
@[simp, go_sem] theorem s98 : bin P t .mul (.v (.int k a)) (.v (.int k2 c)) = bnd (grd (k = k2) (some (.int k (k.wrap (a * c))))) fun v => some (.v v) := id rfl
@[simp, go_sem] theorem s99 : bin P t .quo (.v (.int k a)) (.v (.int k2 c)) = bnd (grd (k = k2) (grd (c ≠ 0) (some (.int k (k.wrap (a.tdiv c)))))) fun v => some (.v v) := id rfl
@[simp, go_sem] theorem s100 : bin P t .rem (.v (.int k a)) (.v (.int k2 c)) = bnd (grd (k = k2) (grd (c ≠ 0) (some (.int k (a.tmod c))))) fun v => some (.v v) := id rfl
@[simp, go_sem] theorem s101 : bin P t .and (.v (.int k a)) (.v (.int k2 c)) = bnd (grd (k = k2) (some (.int k (k.wrap (BitVec.ofInt k.bits a &&& BitVec.ofInt k.bits c).toNat)))) fun v => some (.v v) := id rfl
@[simp, go_sem] theorem s102 : bin P t .or (.v (.int k a)) (.v (.int k2 c)) = bnd (grd (k = k2) (some (.int k (k.wrap (BitVec.ofInt k.bits a ||| BitVec.ofInt k.bits c).toNat)))) fun v => some (.v v) := id rfl
@[simp, go_sem] theorem s103 : bin P t .xor (.v (.int k a)) (.v (.int k2 c)) = bnd (grd (k = k2) (some (.int k (k.wrap (BitVec.ofInt k.bits a ^^^ BitVec.ofInt k.bits c).toNat)))) fun v => some (.v v) := id rfl
@[simp, go_sem] theorem s104 : bin P t .eql (.v (.int k a)) (.v (.int k2 c)) = bnd (grd (k = k2) (some (.bool (a == c)))) fun v => some (.v v) := id rfl
@[simp, go_sem] theorem s105 : bin P t .neq (.v (.int k a)) (.v (.int k2 c)) = bnd (grd (k = k2) (some (.bool (a != c)))) fun v => some (.v v) := id rfl
@[simp, go_sem] theorem s106 : bin P t .lss (.v (.int k a)) (.v (.int k2 c)) = bnd (grd (k = k2) (some (.bool (decide (a < c))))) fun v => some (.v v) := id rfl
@[simp, go_sem] theorem s107 : bin P t .leq (.v (.int k a)) (.v (.int k2 c)) = bnd (grd (k = k2) (some (.bool (decide (a ≤ c))))) fun v => some (.v v) := id rfl
@[simp, go_sem] theorem s108 : bin P t .gtr (.v (.int k a)) (.v (.int k2 c)) = bnd (grd (k = k2) (some (.bool (decide (c < a))))) fun v => some (.v v) := id rfl
@[simp, go_sem] theorem s109 : bin P t .geq (.v (.int k a)) (.v (.int k2 c)) = bnd (grd (k = k2) (some (.bool (decide (c ≤ a))))) fun v => some (.v v) := id rfl
@[simp, go_sem] theorem s110 : bin P t .shl (.v (.int k a)) (.v (.int k2 c)) = bnd (grd (0 ≤ c) (some (.int k (k.wrap (a * 2 ^ (min c.toNat k.bits)))))) fun v => some (.v v) := id rfl
@[simp, go_sem] theorem s111 : bin P t .shr (.v (.int k a)) (.v (.int k2 c)) = bnd (grd (0 ≤ c) (some (.int k (a.fdiv (2 ^ (min c.toNat k.bits)))))) fun v => some (.v v) := id rfl
@[simp, go_sem] theorem s112 : bin P t .add (.v (.string u)) (.v (.string v)) = bnd (grd (u.size + v.size ≤ 9223372036854775807) (some (.string (u ++ v)))) fun v => some (.v v) := id rfl
@[simp, go_sem] theorem s113 : bin P t .eql (.v (.string u)) (.v (.string v)) = bnd (some (.bool (u.toList == v.toList))) fun v => some (.v v) := id rfl
@[simp, go_sem] theorem s114 : bin P t .neq (.v (.string u)) (.v (.string v)) = bnd (some (.bool (!(u.toList == v.toList)))) fun v => some (.v v) := id rfl
@[simp, go_sem] theorem s115 : bin P t .lss (.v (.string u)) (.v (.string v)) = bnd (some (.bool (Op.bytesLess u.toList v.toList))) fun v => some (.v v) := id rfl
@[simp, go_sem] theorem s116 : bin P t .leq (.v (.string u)) (.v (.string v)) = bnd (some (.bool (Op.bytesLess u.toList v.toList || u.toList == v.toList))) fun v => some (.v v) := id rfl
@[simp, go_sem] theorem s117 : bin P t .gtr (.v (.string u)) (.v (.string v)) = bnd (some (.bool (!(Op.bytesLess u.toList v.toList || u.toList == v.toList)))) fun v => some (.v v) := id rfl
@[simp, go_sem] theorem s118 : bin P t .geq (.v (.string u)) (.v (.string v)) = bnd (some (.bool (!(Op.bytesLess u.toList v.toList)))) fun v => some (.v v) := id rfl
@[simp, go_sem] theorem s119 : bin P t .eql (.v (.bool g)) (.v (.bool h)) = bnd (P.underlying t) fun d => bnd (binB .eql g h d) fun v => some (.v v) := id rfl
@[simp, go_sem] theorem s120 : binB .eql g h .bool = some (.bool (g == h)) := id rfl
@[simp, go_sem] theorem s121 (n m : Nat) : bin P t .eql (.ref n m) (.v (.pointer none)) = bnd (P.underlying t) fun d => bnd (binP .eql d) fun v => some (.v v) := id rfl
@[simp, go_sem] theorem s122 (n : Nat) : binP .eql (.pointer n) = some (.bool false) := id rfl
@[simp, go_sem] theorem s123 : bin P t .neq (.v (.bool g)) (.v (.bool h)) = bnd (P.underlying t) fun d => bnd (binB .neq g h d) fun v => some (.v v) := id rfl
@[simp, go_sem] theorem s124 : binB .neq g h .bool = some (.bool (g != h)) := id rfl
@[simp, go_sem] theorem s125 (n m : Nat) : bin P t .neq (.ref n m) (.v (.pointer none)) = bnd (P.underlying t) fun d => bnd (binP .neq d) fun v => some (.v v) := id rfl
@[simp, go_sem] theorem s126 (n : Nat) : binP .neq (.pointer n) = some (.bool true) := id rfl
@[simp, go_sem] theorem s127 : un .neg (.v (.int k a)) = some (.v (.int k (k.wrap (0 - a)))) := id rfl
@[simp, go_sem] theorem s128 : un .not (.v (.bool g)) = some (.v (.bool !g)) := id rfl
@[simp, go_sem] theorem s129 : idxOf (.v (.int k a)) = some a := id rfl
@[simp, go_sem] theorem s130 : boolOf (.v (.bool g)) = some g := id rfl
@[simp, go_sem] theorem s131 : optV a none = some a := id rfl
@[simp, go_sem] theorem s132 (x : V) : optV a (some x) = idxOf x := id rfl
@[simp, go_sem] theorem s133 (n : Nat) (lo hi : Option V) : bounds n lo hi = bnd (optV 0 lo) fun l => bnd (optV n hi) fun h => grd (0 ≤ l ∧ l ≤ h ∧ h ≤ n) (some (l.toNat, h.toNat)) := id rfl
end
section
variable (P : Program) (G : List (FuncId × Bool × Mean)) (e : List (Nat × V)) (b : List (Nat × List V)) (t f : List (Nat × List (List D))) (s : S) (n m p q kk : Nat) (x y : V) (vs ws : List V) (rows : List (List D)) (dst : Option Nat)
@[simp, go_sem] theorem s134 (lo hi : Option V) : sliceV P s x lo hi .string = sliceStr x lo hi := id rfl
@[simp, go_sem] theorem s135 (u : ByteArray) (lo hi : Option V) : sliceStr (.v (.string u)) lo hi = bnd (bounds u.size lo hi) fun p => some (.v (.string (u.extract p.1 p.2))) := id rfl
@[simp, go_sem] theorem s136 (lo hi : Option V) : sliceV P s x lo hi (.slice n) = grd (sizedT P n = true) (sliceL (P.cellsOf n) s x lo hi) := id rfl
@[simp, go_sem] theorem s137 (lo hi : Option V) : sliceL n s .nil lo hi = bnd (bounds 0 lo hi) fun _ => some .nil := id rfl
@[simp, go_sem] theorem s138 (o : Option Nat) (lo hi : Option V) : sliceL n s (.lst o rows) lo hi = cutV n rows lo hi (.lst none) := id rfl
@[simp, go_sem] theorem s139 (lo hi : Option V) : sliceL n s (.fz rows) lo hi = cutV n rows lo hi .fz := id rfl
@[simp, go_sem] theorem s140 (lo hi : Option V) : sliceL n s (.own p) lo hi = bnd (look p s.fro) fun rows => cutV n rows lo hi .fz := id rfl
@[simp, go_sem] theorem s141 (lo hi : Option V) (g : List (List D) → V) : cutV n rows lo hi g = bnd (bounds rows.length lo hi) fun p => grd (wid n rows = true) (some (g ((rows.drop p.1).take (p.2 - p.1)))) := id rfl
@[simp, go_sem] theorem s142 : wid n [] = true := id rfl
@[simp, go_sem] theorem s143 (r : List D) : wid n (r :: rows) = (decide (r.length = n) && r.all oneD && wid n rows) := id rfl
@[simp, go_sem] theorem s144 (fs : Array Field) : fieldD P n (.struct fs) = bnd fs[n]? fun d => grd (P.cellsOf d.type ≠ 0) (some (d.offset, d.type)) := id rfl
@[simp, go_sem] theorem s145 : addOff (.ref n m) p = some (.ref n (m + p)) := id rfl
@[simp, go_sem] theorem s146 : addOff (.pe x kk n m) p = some (.pe x kk n (m + p)) := id rfl
@[simp, go_sem] theorem s147 : elemD (.slice n) = some (n, none) := id rfl
@[simp, go_sem] theorem s148 : elemD (.array n m) = some (m, some n) := id rfl
@[simp, go_sem] theorem s149 (i : Int) : indexAddrV P s x i n (some m) = grd (sizedT P n = true ∧ 0 ≤ i ∧ i < m) (addOff x (i.toNat * P.cellsOf n)) := id rfl
@[simp, go_sem] theorem s150 (i : Int) : indexAddrV P s x i n none = bnd (s.rows x) fun rows => grd (sizedT P n = true ∧ 0 ≤ i ∧ i < rows.length) (some (.pe x (P.cellsOf n) i.toNat 0)) := id rfl
@[simp, go_sem] theorem s151 (u : ByteArray) (i : Int) : indexV P n (.v (.string u)) i = bnd (P.underlying n) fun d => grd (isStrD d = true ∧ 0 ≤ i ∧ i < u.size) (some (.v (.int .u8 ((u.toList[i.toNat]?.getD 0).toNat : Int)))) := id rfl
@[simp, go_sem] theorem s152 : isStrD .string = true := id rfl
@[simp, go_sem] theorem s153 (i : Int) : indexV P n (.agg vs) i = bnd (elemOfT P n) fun e => bnd e.2 fun n => grd (sizedT P e.1 = true ∧ 0 ≤ i ∧ i < n) (bnd (aggT P e.1) fun g => span vs (i.toNat * P.cellsOf e.1) (P.cellsOf e.1) g) := id rfl
@[simp, go_sem] theorem s154 (z : Value) : packV (.v z) = some (.a z) := id rfl
@[simp, go_sem] theorem s155 : packV .nil = some (.l []) := id rfl
@[simp, go_sem] theorem s156 (z : Value) : mentions p (.v z) = false := id rfl
@[simp, go_sem] theorem s157 : mentions p .nil = false := id rfl
@[simp, go_sem] theorem s158 (o : Option Nat) : mentions p (.lst o rows) = false := id rfl
@[simp, go_sem] theorem s159 : mentions p (.fz rows) = false := id rfl
@[simp, go_sem] theorem s160 : mentions p (.own q) = decide (p = q) := id rfl
@[simp, go_sem] theorem s161 : mentions p (.ref n m) = false := id rfl
@[simp, go_sem] theorem s162 : mentions p (.pe x kk n m) = mentions p x := id rfl
@[simp, go_sem] theorem s163 : mentions p (.agg vs) = mentions.any p vs := id rfl
@[simp, go_sem] theorem s164 : mentions p (.tup vs) = mentions.any p vs := id rfl
@[simp, go_sem] theorem s165 : mentions p (.fn n vs) = mentions.any p vs := id rfl
@[simp, go_sem] theorem s166 : mentions p .dead = false := id rfl
@[simp, go_sem] theorem s167 : mentions.any p [] = false := id rfl
@[simp, go_sem] theorem s168 : mentions.any p (x :: vs) = (mentions p x || mentions.any p vs) := id rfl
@[simp, go_sem] theorem s169 : killE p [] = [] := id rfl
@[simp, go_sem] theorem s170 : killE p ((n, x) :: e) = (n, if mentions p x = true then .dead else x) :: killE p e := id rfl
@[simp, go_sem] theorem s171 : killC p [] = [] := id rfl
@[simp, go_sem] theorem s172 : killC p (x :: vs) = (if mentions p x = true then .dead else x) :: killC p vs := id rfl
@[simp, go_sem] theorem s173 : killB p [] = [] := id rfl
@[simp, go_sem] theorem s174 : killB p ((n, vs) :: b) = (n, killC p vs) :: killB p b := id rfl
@[simp, go_sem] theorem s175 : S.kill ⟨e, b, t, f⟩ p = ⟨killE p e, killB p b, drop1 p t, f⟩ := id rfl
@[simp, go_sem] theorem s176 : packRow s [] = some ([], s) := id rfl
@[simp, go_sem] theorem s177 : packRow s (.own p :: vs) = bnd (look p s.tree) fun rows => bnd (packRow (s.kill p) vs) fun x => some (.l rows :: x.1, x.2) := id rfl
@[simp, go_sem] theorem s178 (z : Value) : packRow s (.v z :: vs) = bnd (packRow s vs) fun x => some (.a z :: x.1, x.2) := id rfl
@[simp, go_sem] theorem s179 : packRow s (.nil :: vs) = bnd (packRow s vs) fun x => some (.l [] :: x.1, x.2) := id rfl
@[simp, go_sem] theorem s180 : packRows s [] = some ([], s) := id rfl
@[simp, go_sem] theorem s181 : packRows s (x :: vs) = bnd (packRow s x.cells) fun x => bnd (packRows x.2 vs) fun y => some (x.1 :: y.1, y.2) := id rfl
@[simp, go_sem] theorem s182 : fresh ⟨e, b, t, f⟩ n = ((look n t).isNone && (look n f).isNone) := id rfl
@[simp, go_sem] theorem s183 : S.newTree ⟨e, b, t, f⟩ (some n) rows = grd (fresh ⟨e, b, t, f⟩ n = true) (some ⟨put n (.own n) e, b, (n, rows) :: t, f⟩) := id rfl
@[simp, go_sem] theorem s184 : upto n m [] = decide (n = m) := id rfl
@[simp, go_sem] theorem s185 (r : List Nat) : upto n m (p :: r) = (decide (p = n) && upto (n + 1) m r) := id rfl
@[simp, go_sem] theorem s186 : rowsFlat [] = true := id rfl
@[simp, go_sem] theorem s187 (r : List D) : rowsFlat (r :: rows) = (r.all flatD && rowsFlat rows) := id rfl
@[simp, go_sem] theorem s188 (u : ByteArray) : srcV s (.v (.string u)) = some (u.toList.map fun c => [.a (.int .u8 (c.toNat : Int))], s) := id rfl
@[simp, go_sem] theorem s189 : srcV s .nil = some ([], s) := id rfl
@[simp, go_sem] theorem s190 (o : Option Nat) : srcV s (.lst o rows) = grd (rowsFlat rows = true) (some (rows, s)) := id rfl
@[simp, go_sem] theorem s191 : srcV s (.fz rows) = grd (rowsFlat rows = true) (some (rows, s)) := id rfl
@[simp, go_sem] theorem s192 : srcV s (.own q) = srcOwn s q (look q s.tree) := id rfl
@[simp, go_sem] theorem s193 : srcOwn s q (some rows) = some (rows, if rowsFlat rows = true then s else s.kill q) := id rfl
@[simp, go_sem] theorem s194 : srcOwn s q none = bnd (look q s.fro) fun rows => grd (rowsFlat rows = true) (some (rows, s)) := id rfl
@[simp, go_sem] theorem s195 : sizeOk P n m = (zeroOk P n && decide (m * P.bytesOf n ≤ 140737488355328) && decide (m ≤ 4611686018427387904)) := id rfl
@[simp, go_sem] theorem s196 : appendTo P s dst n rows .nil = grd (sizeOk P n rows.length = true ∧ wid (P.cellsOf n) rows = true) (s.newTree dst rows) := id rfl
@[simp, go_sem] theorem s197 : appendTo P s dst n rows (.own p) = bnd (look p s.tree) fun rows1 => grd (sizeOk P n (rows1.length + rows.length) = true ∧ wid (P.cellsOf n) rows1 = true ∧ wid (P.cellsOf n) rows = true) ((s.kill p).newTree dst (rows1 ++ rows)) := id rfl
@[simp, go_sem] theorem s198 : sliceElem (.slice n) = some n := id rfl
@[simp, go_sem] theorem s199 : appendV P s dst n x y = bnd (P.underlying n) fun d => bnd (sliceElem d) fun e => bnd (srcV s y) fun z => appendTo P z.2 dst e z.1 x := id rfl
end
section
variable (s : S) (c : Lend) (src : List V) (bs ts : List Nat) (n m p q kk : Nat) (x y : V) (vs ws : List V) (rows : List (List D)) (dst : Option Nat)
@[simp, go_sem] theorem s200 (z : Value) : lendV s c (.v z) = some (.v z, c) := id rfl
@[simp, go_sem] theorem s201 : lendV s ⟨src, bs, ts⟩ (.ref n m) = lendRef src bs ts n m (pos n bs 0) := id rfl
@[simp, go_sem] theorem s202 : lendRef src bs ts n m (some p) = some (.ref p m, ⟨src, bs, ts⟩) := id rfl
@[simp, go_sem] theorem s203 : lendRef src bs ts n m none = some (.ref bs.length m, ⟨src, bs ++ [n], ts⟩) := id rfl
@[simp, go_sem] theorem s204 : lendV s c (.agg vs) = bnd (lendL s c vs) fun x => some (.agg x.1, x.2) := id rfl
@[simp, go_sem] theorem s205 : lendV s c (.fn n vs) = bnd (lendL s c vs) fun x => some (.fn n x.1, x.2) := id rfl
@[simp, go_sem] theorem s206 : lendV s ⟨src, bs, ts⟩ .nil = some (.lst (some src.length) [], ⟨src ++ [.nil], bs, ts⟩) := id rfl
@[simp, go_sem] theorem s207 (o : Option Nat) : lendV s ⟨src, bs, ts⟩ (.lst o rows) = some (.lst (some src.length) rows, ⟨src ++ [.lst o rows], bs, ts⟩) := id rfl
@[simp, go_sem] theorem s208 : lendV s ⟨src, bs, ts⟩ (.fz rows) = some (.lst (some src.length) rows, ⟨src ++ [.fz rows], bs, ts⟩) := id rfl
@[simp, go_sem] theorem s209 : lendV s ⟨src, bs, ts⟩ (.own p) = bnd (s.rows (.own p)) fun rows => some (.lst (some src.length) rows, ⟨src ++ [.own p], bs, ts⟩) := id rfl
@[simp, go_sem] theorem s210 : lendL s c [] = some ([], c) := id rfl
@[simp, go_sem] theorem s211 : lendL s c (x :: vs) = bnd (lendV s c x) fun x => bnd (lendL s x.2 vs) fun y => some (x.1 :: y.1, y.2) := id rfl
@[simp, go_sem] theorem s212 : lendCells s c [] = some ([], c) := id rfl
@[simp, go_sem] theorem s213 : lendCells s ⟨src, bs, ts⟩ (.own p :: vs) = lendOwn src bs ts p (fun c => lendCells s c vs) (pos p ts 0) (look p s.fro) := id rfl
@[simp, go_sem] theorem s214 (k : Lend → Option (List V × Lend)) : lendOwn src bs ts p k none (some rows) = bnd (k ⟨src ++ [.own p], bs, ts⟩) fun x => some (.lst (some src.length) rows :: x.1, x.2) := id rfl
@[simp, go_sem] theorem s215 (k : Lend → Option (List V × Lend)) : lendOwn src bs ts p k none none = bnd (k ⟨src, bs, ts ++ [p]⟩) fun x => some (.own ts.length :: x.1, x.2) := id rfl
@[simp, go_sem] theorem s216 : lendCells s c (.dead :: vs) = bnd (lendCells s c vs) fun x => some (.dead :: x.1, x.2) := id rfl
@[simp, go_sem] theorem s217 (z : Value) : lendCells s c (.v z :: vs) = bnd (lendV s c (.v z)) fun x => bnd (lendCells s x.2 vs) fun y => some (x.1 :: y.1, y.2) := id rfl
@[simp, go_sem] theorem s218 : lendCells s c (.nil :: vs) = bnd (lendV s c (.nil)) fun x => bnd (lendCells s x.2 vs) fun y => some (x.1 :: y.1, y.2) := id rfl
@[simp, go_sem] theorem s219 (o : Option Nat) : lendCells s c (.lst o rows :: vs) = bnd (lendV s c (.lst o rows)) fun x => bnd (lendCells s x.2 vs) fun y => some (x.1 :: y.1, y.2) := id rfl
@[simp, go_sem] theorem s220 : lendCells s c (.fz rows :: vs) = bnd (lendV s c (.fz rows)) fun x => bnd (lendCells s x.2 vs) fun y => some (x.1 :: y.1, y.2) := id rfl
@[simp, go_sem] theorem s221 : lendCells s c (.ref n m :: vs) = bnd (lendV s c (.ref n m)) fun x => bnd (lendCells s x.2 vs) fun y => some (x.1 :: y.1, y.2) := id rfl
@[simp, go_sem] theorem s222 : lendCells s c (.fn n ws :: vs) = bnd (lendV s c (.fn n ws)) fun x => bnd (lendCells s x.2 vs) fun y => some (x.1 :: y.1, y.2) := id rfl
@[simp, go_sem] theorem s223 : lendBoxes s c [] = some ([], c) := id rfl
@[simp, go_sem] theorem s224 : lendBoxes s c (n :: bs) = bnd (look n s.box) fun cs => bnd (lendCells s c cs) fun x => bnd (lendBoxes s x.2 bs) fun y => some (x.1 :: y.1, y.2) := id rfl
@[simp, go_sem] theorem s225 : stable .nil = true := id rfl
@[simp, go_sem] theorem s226 (o : Option Nat) : stable (.lst o rows) = true := id rfl
@[simp, go_sem] theorem s227 : stable (.own p) = false := id rfl
@[simp, go_sem] theorem s228 : stable (.fz rows) = false := id rfl
@[simp, go_sem] theorem s229 : nameOf c n q = nameIn n q c.tree[q]? := id rfl
@[simp, go_sem] theorem s230 : nameIn n q (some p) = p := id rfl
@[simp, go_sem] theorem s231 : nameIn n q none = 1000 * (n + 1) + q := id rfl
@[simp, go_sem] theorem s232 (z : Value) : backV c n (.v z) = some (.v z) := id rfl
@[simp, go_sem] theorem s233 : backV c n .nil = some .nil := id rfl
@[simp, go_sem] theorem s234 : backV c n (.lst (some m) rows) = c.src[m]? := id rfl
@[simp, go_sem] theorem s235 : backV c n (.lst none rows) = grd (c.src.all stable = true) (some (.lst none rows)) := id rfl
@[simp, go_sem] theorem s236 : backV c n (.own q) = some (.own (nameOf c n q)) := id rfl
@[simp, go_sem] theorem s237 : backV c n (.ref p m) = bnd c.box[p]? fun b => some (.ref b m) := id rfl
@[simp, go_sem] theorem s238 : backV c n (.agg vs) = bnd (backL c n vs) fun cs => some (.agg cs) := id rfl
@[simp, go_sem] theorem s239 : backV c n (.tup vs) = bnd (backL c n vs) fun cs => some (.tup cs) := id rfl
@[simp, go_sem] theorem s240 : backV c n .dead = some .dead := id rfl
@[simp, go_sem] theorem s241 : backL c n [] = some [] := id rfl
@[simp, go_sem] theorem s242 : backL c n (x :: vs) = bnd (backV c n x) fun v => bnd (backL c n vs) fun r => some (v :: r) := id rfl
@[simp, go_sem] theorem s243 : backBoxes c n [] [] s = some s := id rfl
@[simp, go_sem] theorem s244 (vss : List (List V)) (e : List (Nat × V)) (b : List (Nat × List V)) (t f : List (Nat × List (List D))) : backBoxes c n (p :: bs) (vs :: vss) ⟨e, b, t, f⟩ = bnd (backL c n vs) fun cs => backBoxes c n bs vss ⟨e, upd p cs b, t, f⟩ := id rfl
@[simp, go_sem] theorem s245 : addTrees c n [] s = some s := id rfl
@[simp, go_sem] theorem s246 (r : List (Nat × List (List D))) (e : List (Nat × V)) (b : List (Nat × List V)) (t f : List (Nat × List (List D))) : addTrees c n ((q, rows) :: r) ⟨e, b, t, f⟩ = if q < c.tree.length then addTrees c n r ⟨e, b, t, f⟩ else grd (fresh ⟨e, b, t, f⟩ (nameOf c n q) = true ∧ nameOf c n q < 1000000000) (addTrees c n r ⟨e, b, (nameOf c n q, rows) :: t, f⟩) := id rfl
@[simp, go_sem] theorem s247 : lentTrees s [] = some [] := id rfl
@[simp, go_sem] theorem s248 : lentTrees s (p :: ts) = bnd (look p s.tree) fun rows => bnd (lentTrees s ts) fun r => some (rows :: r) := id rfl
@[simp, go_sem] theorem s249 (l : List (Nat × List (List D))) : backTrees l [] n s = s := id rfl
@[simp, go_sem] theorem s250 (l : List (Nat × List (List D))) : backTrees l (p :: ts) n s = backTrees l ts (n + 1) (backOne s p (look n l)) := id rfl
@[simp, go_sem] theorem s251 (e : List (Nat × V)) (b : List (Nat × List V)) (t f : List (Nat × List (List D))) : backOne ⟨e, b, t, f⟩ p (some rows) = ⟨e, b, upd p rows t, f⟩ := id rfl
@[simp, go_sem] theorem s252 : backOne s p none = s.kill p := id rfl
@[simp, go_sem] theorem s253 (r : Res) : S.back s dst c r = bnd (backBoxes c (dst.getD 0) c.box r.box (backTrees r.tree c.tree 0 s)) fun s => bnd (addTrees c (dst.getD 0) r.tree s) fun s => bnd (backV c (dst.getD 0) r.val) fun v => some (s.put dst v) := id rfl
@[simp, go_sem] theorem s254 : lendOk c n = (noMix c && decide (c.box.length = n)) := id rfl
@[simp, go_sem] theorem s255 : noMix c = (c.tree.all fun p => c.src.all fun v => !mentions p v) := id rfl
@[simp, go_sem] theorem s256 : lendA true s c vs = lendM s c vs := id rfl
@[simp, go_sem] theorem s257 : lendA false s c vs = lendL s c vs := id rfl
@[simp, go_sem] theorem s258 : lendM s c [] = some ([], c) := id rfl
@[simp, go_sem] theorem s259 : lendM s c (.agg ws :: vs) = bnd (lendCells s c ws) fun x => bnd (lendM s x.2 vs) fun y => some (.agg x.1 :: y.1, y.2) := id rfl
@[simp, go_sem] theorem s260 (z : Value) : lendM s c (.v z :: vs) = bnd (lendCells s c [.v z]) fun x => bnd (lendM s x.2 vs) fun y => some (x.1 ++ y.1, y.2) := id rfl
@[simp, go_sem] theorem s261 : lendM s c (.nil :: vs) = bnd (lendCells s c [.nil]) fun x => bnd (lendM s x.2 vs) fun y => some (x.1 ++ y.1, y.2) := id rfl
@[simp, go_sem] theorem s262 (o : Option Nat) : lendM s c (.lst o rows :: vs) = bnd (lendCells s c [.lst o rows]) fun x => bnd (lendM s x.2 vs) fun y => some (x.1 ++ y.1, y.2) := id rfl
@[simp, go_sem] theorem s263 : lendM s c (.fz rows :: vs) = bnd (lendCells s c [.fz rows]) fun x => bnd (lendM s x.2 vs) fun y => some (x.1 ++ y.1, y.2) := id rfl
@[simp, go_sem] theorem s264 : lendM s c (.own p :: vs) = bnd (lendCells s c [.own p]) fun x => bnd (lendM s x.2 vs) fun y => some (x.1 ++ y.1, y.2) := id rfl
@[simp, go_sem] theorem s265 : lendM s c (.ref n m :: vs) = bnd (lendCells s c [.ref n m]) fun x => bnd (lendM s x.2 vs) fun y => some (x.1 ++ y.1, y.2) := id rfl
@[simp, go_sem] theorem s266 : lendM s c (.fn n ws :: vs) = bnd (lendCells s c [.fn n ws]) fun x => bnd (lendM s x.2 vs) fun y => some (x.1 ++ y.1, y.2) := id rfl
@[simp, go_sem] theorem s267 (mm : Bool) (M : Mean) : callV mm M s dst vs = bnd (lendA mm s ⟨[], [], []⟩ vs) fun x => bnd (lendBoxes s x.2 x.2.box) fun y => bnd (lentTrees s y.2.tree) fun ts => grd (lendOk y.2 y.1.length = true) (bnd (M x.1 y.1 ts) fun r => s.back dst y.2 r) := id rfl
end
section
variable (P : Program) (G : List (FuncId × Bool × Mean)) (s : S) (n m p q kk : Nat) (x y : V) (vs ws : List V) (rows : List (List D)) (dst : Option Nat) (ats : Array TypeId) (o o1 o2 : Operand)
@[simp, go_sem] theorem s268 (u : ByteArray) : builtinV P s dst .len ats [.v (.string u)] = bnd ats[0]? fun t => grd (strT P t = true) (some (s.put dst (.v (.int .i64 u.size)))) := id rfl
@[simp, go_sem] theorem s269 : builtinV P s dst .len ats [.nil] = bnd ats[0]? fun t => grd (lstT P t = true) (bnd (s.rows (.nil)) fun rows => some (s.put dst (.v (.int .i64 rows.length)))) := id rfl
@[simp, go_sem] theorem s270 (w : Option Nat) : builtinV P s dst .len ats [.lst w rows] = bnd ats[0]? fun t => grd (lstT P t = true) (bnd (s.rows (.lst w rows)) fun rows => some (s.put dst (.v (.int .i64 rows.length)))) := id rfl
@[simp, go_sem] theorem s271 : builtinV P s dst .len ats [.fz rows] = bnd ats[0]? fun t => grd (lstT P t = true) (bnd (s.rows (.fz rows)) fun rows => some (s.put dst (.v (.int .i64 rows.length)))) := id rfl
@[simp, go_sem] theorem s272 : builtinV P s dst .len ats [.own p] = bnd ats[0]? fun t => grd (lstT P t = true) (bnd (s.rows (.own p)) fun rows => some (s.put dst (.v (.int .i64 rows.length)))) := id rfl
@[simp, go_sem] theorem s273 : builtinV P s dst .append ats [x, y] = bnd ats[0]? fun t => bnd ats[1]? fun t1 => grd (seqT P t1 = true) (appendV P s dst t x y) := id rfl
@[simp, go_sem] theorem s274 (a c : Int) : builtinV P s dst .max ats [.v (.int .i64 a), .v (.int .i64 c)] = some (s.put dst (.v (.int .i64 (max a c)))) := id rfl
@[simp, go_sem] theorem s275 (a c : Int) : builtinV P s dst .min ats [.v (.int .i64 a), .v (.int .i64 c)] = some (s.put dst (.v (.int .i64 (min a c)))) := id rfl
@[simp, go_sem] theorem s276 (a : Int) : bytesOfRow [.a (.int .u8 a)] = some (UInt8.ofNat a.toNat) := id rfl
@[simp, go_sem] theorem s277 (k : IntKind) (d0 : TypeDesc) : convD P s x d0 (.int k) = bnd (idxOf x) fun n => some (.v (.int k (k.wrap n))) := id rfl
@[simp, go_sem] theorem s278 (u : ByteArray) (d0 : TypeDesc) : convD P s (.v (.string u)) d0 .string = some (.v (.string u)) := id rfl
@[simp, go_sem] theorem s279  (d0 : TypeDesc) : convD P s (.nil) d0 .string = bytesV P s (.nil) d0 := id rfl
@[simp, go_sem] theorem s280 (w : Option Nat) (d0 : TypeDesc) : convD P s (.lst w rows) d0 .string = bytesV P s (.lst w rows) d0 := id rfl
@[simp, go_sem] theorem s281  (d0 : TypeDesc) : convD P s (.fz rows) d0 .string = bytesV P s (.fz rows) d0 := id rfl
@[simp, go_sem] theorem s282  (d0 : TypeDesc) : convD P s (.own p) d0 .string = bytesV P s (.own p) d0 := id rfl
@[simp, go_sem] theorem s283 (d0 : TypeDesc) : bytesV P s x d0 = bnd (sliceElem d0) fun e => bnd (P.underlying e) fun d => grd (isByteD d = true) (bnd (s.rows x) fun rows => bnd (mapSome bytesOfRow rows) fun l => some (.v (.string ⟨l.toArray⟩))) := id rfl
@[simp, go_sem] theorem s284 : isByteD (.int .u8) = true := id rfl
@[simp, go_sem] theorem s285 (fs : Array Field) : fillRow P fs vs [] = some vs := id rfl
@[simp, go_sem] theorem s286 (fs : Array Field) (r : List (Nat × V)) : fillRow P fs vs ((n, x) :: r) = bnd fs[n]? fun f => grd (x.cells.length = P.cellsOf f.type ∧ f.offset + x.cells.length ≤ vs.length ∧ x.cells.all V.one = true) (fillRow P fs (setAt vs f.offset x.cells) r) := id rfl
@[simp, go_sem] theorem s287 (fs : Array Field) : structD (.struct fs) = some fs := id rfl
@[simp, go_sem] theorem s288 : evPair s (n, o) = bnd (s.ev o) fun v => some (n, v) := id rfl
@[simp, go_sem] theorem s289 : evOptOp s none = some none := id rfl
@[simp, go_sem] theorem s290 : evOptOp s (some o) = bnd (s.ev o) fun v => some (some v) := id rfl
@[simp, go_sem] theorem s291 : nilOk (.ref n m) = some (.ref n m) := id rfl
@[simp, go_sem] theorem s292 : nilOk (.pe x kk n m) = some (.pe x kk n m) := id rfl
@[simp, go_sem] theorem s293 : tupAt n (.tup vs) = vs[n]? := id rfl
@[simp, go_sem] theorem s294 : aggOf (.agg vs) = some vs := id rfl
@[simp, go_sem] theorem s295 : fnOf (.fn n vs) = some (n, vs) := id rfl
@[simp, go_sem] theorem s296 (e : List (Nat × V)) (b : List (Nat × List V)) (t f : List (Nat × List (List D))) : S.newBox ⟨e, b, t, f⟩ (some n) vs = grd ((look n b).isNone = true) (some ⟨put n (.ref n 0) e, (n, vs) :: b, t, f⟩) := id rfl
@[simp, go_sem] theorem s297 (z : Builtin) : evCall P G s dst ats vs (.builtin z) = builtinV P s dst z ats vs := id rfl
@[simp, go_sem] theorem s298 : evCall P G s dst ats vs (.value o) = bnd (s.ev o) fun f => bnd (fnOf f) fun f => bnd (look f.1 G) fun M => callV M.1 M.2 s dst (vs ++ f.2) := id rfl
@[simp, go_sem] theorem s299 : evOp P G s dst (.move o) = bnd (s.ev o) fun v => some (s.put dst v) := id rfl
@[simp, go_sem] theorem s300 : evOp P G s dst (.assign o) = bnd (s.ev o) fun v => some (s.put dst v) := id rfl
@[simp, go_sem] theorem s301 : evOp P G s dst (.pick o o1 o2) = bnd (s.ev o) fun c => bnd (boolOf c) fun b => bnd (s.ev (if b then o1 else o2)) fun v => some (s.put dst v) := id rfl
@[simp, go_sem] theorem s302 : evOp P G s dst (.alloc n) = bnd (zeroV P n) fun cs => s.newBox dst cs := id rfl
@[simp, go_sem] theorem s303 : evOp P G s dst (.box n o) = bnd (s.ev o) fun v => grd (v.cells.length = P.cellsOf n ∧ v.cells.all V.one = true) (s.newBox dst v.cells) := id rfl
@[simp, go_sem] theorem s304 : evOp P G s dst (.load n o) = bnd (s.ev o) fun p => bnd (s.load P n p) fun v => some (s.put dst v) := id rfl
@[simp, go_sem] theorem s305 : evOp P G s dst (.store n o o1) = bnd (s.ev o) fun p => bnd (s.ev o1) fun v => bnd (s.store P n p v) fun s => some (s.skip dst) := id rfl
@[simp, go_sem] theorem s306 : evOp P G s dst (.nilCheck o) = bnd (s.ev o) fun v => bnd (nilOk v) fun v => some (s.put dst v) := id rfl
@[simp, go_sem] theorem s307 : evOp P G s dst (.fieldAddr n o m) = bnd (s.ev o) fun x => bnd (fieldOf P n m) fun f => bnd (addOff x f.1) fun v => some (s.put dst v) := id rfl
@[simp, go_sem] theorem s308 : evOp P G s dst (.field n o m) = bnd (s.ev o) fun x => bnd (aggOf x) fun cs => bnd (fieldOf P n m) fun f => bnd (aggT P f.2) fun g => bnd (span cs f.1 (P.cellsOf f.2) g) fun v => some (s.put dst v) := id rfl
@[simp, go_sem] theorem s309 : evOp P G s dst (.indexAddr n o o1) = bnd (s.ev o) fun x => bnd (s.ev o1) fun i => bnd (idxOf i) fun i => bnd (elemOfT P n) fun e => bnd (indexAddrV P s x i e.1 e.2) fun v => some (s.put dst v) := id rfl
@[simp, go_sem] theorem s310 : evOp P G s dst (.index n o o1) = bnd (s.ev o) fun x => bnd (s.ev o1) fun i => bnd (idxOf i) fun i => bnd (indexV P n x i) fun v => some (s.put dst v) := id rfl
@[simp, go_sem] theorem s311 : evOp P G s dst (.extract o n) = bnd (s.ev o) fun x => bnd (tupAt n x) fun v => some (s.put dst v) := id rfl
@[simp, go_sem] theorem s312 : evOp P G s dst (.convert n m o) = bnd (s.ev o) fun x => bnd (P.underlying n) fun d0 => bnd (P.underlying m) fun d => bnd (convD P s x d0 d) fun v => some (s.put dst v) := id rfl
@[simp, go_sem] theorem s313 (ps : Array (Nat × Operand)) : evOp P G s dst (.build n ps) = bnd (P.underlying n) fun d => bnd (structD d) fun fs => grd (fieldsOk P n = true) (bnd (zeroV P n) fun z => bnd (mapSome (evPair s) ps.toList) fun vs => bnd (fillRow P fs z vs) fun cs => some (s.put dst (.agg cs))) := id rfl
@[simp, go_sem] theorem s314 (ps : Array (Nat × Operand)) : evOp P G s dst (.buildSlice n m ps) = bnd (P.underlying n) fun d => bnd (sliceElem d) fun e => bnd (mapSome (evPair s) ps.toList) fun vs => grd ((zeroOk P e && decide (m * P.cellsOf e ≤ 16777216) && upto 0 m (vs.map (·.1)) && vs.all fun v => decide (v.2.cells.length = P.cellsOf e) && v.2.cells.all V.one) = true) (bnd (packRows s (vs.map (·.2))) fun x => x.2.newTree dst x.1) := id rfl
@[simp, go_sem] theorem s315 (z : BinOp) : evOp P G s dst (.binOp z n o o1 m) = bnd (s.ev o) fun x => bnd (s.ev o1) fun y => bnd (bin P n z x y) fun v => some (s.put dst v) := id rfl
@[simp, go_sem] theorem s316 (z : UnOp) : evOp P G s dst (.unOp z n o) = bnd (s.ev o) fun x => bnd (un z x) fun v => some (s.put dst v) := id rfl
@[simp, go_sem] theorem s317 (lo hi : Option Operand) : evOp P G s dst (.slice n o lo hi none) = bnd (s.ev o) fun x => bnd (evOptOp s lo) fun l => bnd (evOptOp s hi) fun h => bnd (P.underlying n) fun d => bnd (sliceV P s x l h d) fun v => some (s.put dst v) := id rfl
@[simp, go_sem] theorem s318 (c : Call) : evOp P G s dst (.call c) = bnd (mapSome s.ev c.args.toList) fun args => evCall P G s dst c.argTypes args c.callee := id rfl
@[simp, go_sem] theorem s319 (ops : Array Oper) : S.wants ops s none = some true := id rfl
@[simp, go_sem] theorem s320 (ops : Array Oper) (g : Bool) : S.wants ops s (some (n, g)) = wantsAt s g ((ops[n]?).bind (·.dst)) := id rfl
@[simp, go_sem] theorem s321 (g : Bool) : wantsAt s g (some n) = wantsV g (look n s.env) := id rfl
@[simp, go_sem] theorem s322 (g : Bool) : wantsV g none = none := id rfl
@[simp, go_sem] theorem s323 (g : Bool) : wantsV g (some (.tup [])) = some false := id rfl
@[simp, go_sem] theorem s324 (g h : Bool) : wantsV g (some (.v (.bool h))) = some (h == g) := id rfl
end
section
variable (l : List Nat) (mp : List (Nat × Nat)) (n m p q kk : Nat) (x y : V) (vs ws : List V) (rows : List (List D))
@[simp, go_sem] theorem s325 : renV mp (.own p) = .own (ren mp p) := id rfl
@[simp, go_sem] theorem s326 : ren mp p = (look p mp).getD p := id rfl
@[simp, go_sem] theorem s327 : renV mp (.pe x kk n m) = .pe (renV mp x) kk n m := id rfl
@[simp, go_sem] theorem s328 : renV mp (.agg vs) = .agg (renL mp vs) := id rfl
@[simp, go_sem] theorem s329 : renV mp (.tup vs) = .tup (renL mp vs) := id rfl
@[simp, go_sem] theorem s330 : renV mp (.fn n vs) = .fn n (renL mp vs) := id rfl
@[simp, go_sem] theorem s331 (z : Value) : renV mp (.v z) = .v z := id rfl
@[simp, go_sem] theorem s332 (z : Value) : metV l (.v z) = l := id rfl
@[simp, go_sem] theorem s333 (z : Value) : isFz (.v z) = false := id rfl
@[simp, go_sem] theorem s334 : renV mp (.nil) = .nil := id rfl
@[simp, go_sem] theorem s335 : metV l (.nil) = l := id rfl
@[simp, go_sem] theorem s336 : isFz (.nil) = false := id rfl
@[simp, go_sem] theorem s337 (o : Option Nat) : renV mp (.lst o rows) = .lst o rows := id rfl
@[simp, go_sem] theorem s338 (o : Option Nat) : metV l (.lst o rows) = l := id rfl
@[simp, go_sem] theorem s339 (o : Option Nat) : isFz (.lst o rows) = false := id rfl
@[simp, go_sem] theorem s340 : renV mp (.fz rows) = .fz rows := id rfl
@[simp, go_sem] theorem s341 : metV l (.fz rows) = l := id rfl
@[simp, go_sem] theorem s342 : isFz (.fz rows) = true := id rfl
@[simp, go_sem] theorem s343 : renV mp (.ref n m) = .ref n m := id rfl
@[simp, go_sem] theorem s344 : metV l (.ref n m) = l := id rfl
@[simp, go_sem] theorem s345 : isFz (.ref n m) = false := id rfl
@[simp, go_sem] theorem s346 : renV mp (.dead) = .dead := id rfl
@[simp, go_sem] theorem s347 : metV l (.dead) = l := id rfl
@[simp, go_sem] theorem s348 : isFz (.dead) = false := id rfl
@[simp, go_sem] theorem s349 : renL mp [] = [] := id rfl
@[simp, go_sem] theorem s350 : renL mp (x :: vs) = renV mp x :: renL mp vs := id rfl
@[simp, go_sem] theorem s351 : metV l (.own p) = if l.contains p then l else l ++ [p] := id rfl
@[simp, go_sem] theorem s352 : metV l (.pe x kk n m) = metV l x := id rfl
@[simp, go_sem] theorem s353 : metV l (.agg vs) = metL l vs := id rfl
@[simp, go_sem] theorem s354 : metV l (.tup vs) = metL l vs := id rfl
@[simp, go_sem] theorem s355 : metV l (.fn n vs) = metL l vs := id rfl
@[simp, go_sem] theorem s356 : metL l [] = l := id rfl
@[simp, go_sem] theorem s357 : metL l (x :: vs) = metL (metV l x) vs := id rfl
@[simp, go_sem] theorem s358 : ownNil n [] = ([], []) := id rfl
@[simp, go_sem] theorem s359 (e : List (Nat × V)) : ownNil n ((m, .nil) :: e) = ((m, .own n) :: (ownNil (n + 1) e).1, n :: (ownNil (n + 1) e).2) := id rfl
@[simp, go_sem] theorem s360 : ownNilL n [] = ([], []) := id rfl
@[simp, go_sem] theorem s361 : ownNilL n (.nil :: vs) = (.own n :: (ownNilL (n + 1) vs).1, n :: (ownNilL (n + 1) vs).2) := id rfl
@[simp, go_sem] theorem s362 (z : Value) (e : List (Nat × V)) : ownNil n ((m, .v z) :: e) = ((m, .v z) :: (ownNil n e).1, (ownNil n e).2) := id rfl
@[simp, go_sem] theorem s363 (z : Value) : ownNilL n (.v z :: vs) = (.v z :: (ownNilL n vs).1, (ownNilL n vs).2) := id rfl
@[simp, go_sem] theorem s364 (o : Option Nat) (e : List (Nat × V)) : ownNil n ((m, .lst o rows) :: e) = ((m, .lst o rows) :: (ownNil n e).1, (ownNil n e).2) := id rfl
@[simp, go_sem] theorem s365 (o : Option Nat) : ownNilL n (.lst o rows :: vs) = (.lst o rows :: (ownNilL n vs).1, (ownNilL n vs).2) := id rfl
@[simp, go_sem] theorem s366  (e : List (Nat × V)) : ownNil n ((m, .fz rows) :: e) = ((m, .fz rows) :: (ownNil n e).1, (ownNil n e).2) := id rfl
@[simp, go_sem] theorem s367 : ownNilL n (.fz rows :: vs) = (.fz rows :: (ownNilL n vs).1, (ownNilL n vs).2) := id rfl
@[simp, go_sem] theorem s368  (e : List (Nat × V)) : ownNil n ((m, .own p) :: e) = ((m, .own p) :: (ownNil n e).1, (ownNil n e).2) := id rfl
@[simp, go_sem] theorem s369 : ownNilL n (.own p :: vs) = (.own p :: (ownNilL n vs).1, (ownNilL n vs).2) := id rfl
@[simp, go_sem] theorem s370  (e : List (Nat × V)) : ownNil n ((m, .ref p q) :: e) = ((m, .ref p q) :: (ownNil n e).1, (ownNil n e).2) := id rfl
@[simp, go_sem] theorem s371 : ownNilL n (.ref p q :: vs) = (.ref p q :: (ownNilL n vs).1, (ownNilL n vs).2) := id rfl
@[simp, go_sem] theorem s372  (e : List (Nat × V)) : ownNil n ((m, .pe x kk p q) :: e) = ((m, .pe x kk p q) :: (ownNil n e).1, (ownNil n e).2) := id rfl
@[simp, go_sem] theorem s373 : ownNilL n (.pe x kk p q :: vs) = (.pe x kk p q :: (ownNilL n vs).1, (ownNilL n vs).2) := id rfl
@[simp, go_sem] theorem s374  (e : List (Nat × V)) : ownNil n ((m, .agg ws) :: e) = ((m, .agg ws) :: (ownNil n e).1, (ownNil n e).2) := id rfl
@[simp, go_sem] theorem s375 : ownNilL n (.agg ws :: vs) = (.agg ws :: (ownNilL n vs).1, (ownNilL n vs).2) := id rfl
@[simp, go_sem] theorem s376  (e : List (Nat × V)) : ownNil n ((m, .tup ws) :: e) = ((m, .tup ws) :: (ownNil n e).1, (ownNil n e).2) := id rfl
@[simp, go_sem] theorem s377 : ownNilL n (.tup ws :: vs) = (.tup ws :: (ownNilL n vs).1, (ownNilL n vs).2) := id rfl
@[simp, go_sem] theorem s378  (e : List (Nat × V)) : ownNil n ((m, .fn p ws) :: e) = ((m, .fn p ws) :: (ownNil n e).1, (ownNil n e).2) := id rfl
@[simp, go_sem] theorem s379 : ownNilL n (.fn p ws :: vs) = (.fn p ws :: (ownNilL n vs).1, (ownNilL n vs).2) := id rfl
@[simp, go_sem] theorem s380  (e : List (Nat × V)) : ownNil n ((m, .dead) :: e) = ((m, .dead) :: (ownNil n e).1, (ownNil n e).2) := id rfl
@[simp, go_sem] theorem s381 : ownNilL n (.dead :: vs) = (.dead :: (ownNilL n vs).1, (ownNilL n vs).2) := id rfl
@[simp, go_sem] theorem s382 : ownNilB n [] = ([], []) := id rfl
@[simp, go_sem] theorem s383 (b : List (Nat × List V)) : ownNilB n ((m, vs) :: b) = ((m, (ownNilL n vs).1) :: (ownNilB (n + (ownNilL n vs).2.length) b).1, (ownNilL n vs).2 ++ (ownNilB (n + (ownNilL n vs).2.length) b).2) := id rfl
@[simp, go_sem] theorem s384 (e : List (Nat × V)) : keepE l e = mapSome (fun t => bnd (look t e) fun v => some (t, v)) l := id rfl
@[simp, go_sem] theorem s385 (b : List (Nat × List V)) : keepB l b = mapSome (fun t => bnd (look t b) fun v => some (t, v)) l := id rfl
@[simp, go_sem] theorem s386 : refsOk l (.ref n m) = l.contains n := id rfl
@[simp, go_sem] theorem s387 : refsOk l (.pe x kk n m) = refsOk l x := id rfl
@[simp, go_sem] theorem s388 : refsOk l (.agg vs) = refsOk.go l vs := id rfl
@[simp, go_sem] theorem s389 : refsOk l (.tup vs) = refsOk.go l vs := id rfl
@[simp, go_sem] theorem s390 : refsOk l (.fn n vs) = refsOk.go l vs := id rfl
@[simp, go_sem] theorem s391 (z : Value) : refsOk l (.v z) = true := id rfl
@[simp, go_sem] theorem s392 : refsOk l (.nil) = true := id rfl
@[simp, go_sem] theorem s393 (o : Option Nat) : refsOk l (.lst o rows) = true := id rfl
@[simp, go_sem] theorem s394 : refsOk l (.fz rows) = true := id rfl
@[simp, go_sem] theorem s395 : refsOk l (.own n) = true := id rfl
@[simp, go_sem] theorem s396 : refsOk l (.dead) = true := id rfl
@[simp, go_sem] theorem s397 : refsOk.go l [] = true := id rfl
@[simp, go_sem] theorem s398 : refsOk.go l (x :: vs) = (refsOk l x && refsOk.go l vs) := id rfl
@[simp, go_sem] theorem s399 (tr : List (Nat × List (List D))) : metIn tr [] n = [] := id rfl
@[simp, go_sem] theorem s400 (tr : List (Nat × List (List D))) : metIn tr (p :: l) n = metOne p n (metIn tr l) (look p tr) := id rfl
@[simp, go_sem] theorem s401 (k : Nat → List (Nat × Nat × List (List D))) : metOne p n k (some rows) = if 1000000000 ≤ p ∧ p < 2000000000 then (p, p, rows) :: k n else (p, 2000000000 + n, rows) :: k (n + 1) := id rfl
@[simp, go_sem] theorem s402 (k : Nat → List (Nat × Nat × List (List D))) : metOne p n k none = k n := id rfl
@[simp, go_sem] theorem s403 (e : List (Nat × V)) (b : List (Nat × List V)) (t f : List (Nat × List (List D))) : S.head1 e b t f = S.head2 (metIn t (metL (metL [] (e.map (·.2))) (b.flatMap (·.2))) (1000 * f.length)) e b f := id rfl
@[simp, go_sem] theorem s404 (mm : List (Nat × Nat × List (List D))) (e : List (Nat × V)) (b : List (Nat × List V)) (f : List (Nat × List (List D))) : S.head2 mm e b f = ⟨e.map fun x => (x.1, renV (mm.map fun x => (x.1, x.2.1)) x.2), b.map fun x => (x.1, renL (mm.map fun x => (x.1, x.2.1)) x.2), (mm.map (·.2)).reverse, f⟩ := id rfl
@[simp, go_sem] theorem s405 (ts bs : List Nat) (e : List (Nat × V)) (b : List (Nat × List V)) (t f : List (Nat × List (List D))) : S.head ts bs ⟨e, b, t, f⟩ = bnd (keepE ts e) fun env => bnd (keepB bs b) fun box => grd ((desc ts && desc bs && env.all (fun x => refsOk bs x.2) && box.all (fun x => x.2.all (refsOk bs)) && t.all (fun x => decide (x.1 < 3000000000)) && f.all (fun x => decide (x.1 < 2000000000 + 1000 * f.length)) && decide (f.length < 1000)) = true) (some (S.head1 (ownNil 3000000000 env).1 (ownNilB (3000000000 + (ownNil 3000000000 env).2.length) box).1 (t ++ ((ownNil 3000000000 env).2 ++ (ownNilB (3000000000 + (ownNil 3000000000 env).2.length) box).2).map fun p => (p, [])) f)) := id rfl
@[simp, go_sem] theorem s406 (hs : List (Nat × List Nat × List Nat)) (fs ds : List (Nat × List Nat)) (s : S) : Ghost.head ⟨hs, fs, ds⟩ n s = headAt s (look n hs) := id rfl
@[simp, go_sem] theorem s407 (hs : List (Nat × List Nat × List Nat)) (fs ds : List (Nat × List Nat)) : Ghost.bars ⟨hs, fs, ds⟩ n = barsAt (look n ds) := id rfl
@[simp, go_sem] theorem s408 : barsAt (some l) = l := id rfl
@[simp, go_sem] theorem s409 : barsAt none = [] := id rfl
@[simp, go_sem] theorem s410 (s : S) (ts bs : List Nat) : headAt s (some (ts, bs)) = s.head ts bs := id rfl
@[simp, go_sem] theorem s411 (s : S) : headAt s none = some s := id rfl
@[simp, go_sem] theorem s412 (hs : List (Nat × List Nat × List Nat)) (fs ds : List (Nat × List Nat)) (s : S) : Ghost.reg ⟨hs, fs, ds⟩ n s = regAt s (look n fs) := id rfl
@[simp, go_sem] theorem s413 (s : S) : regAt s (some l) = freezeAll s l := id rfl
@[simp, go_sem] theorem s414 (s : S) : regAt s none = some s := id rfl
@[simp, go_sem] theorem s415 (s : S) : freezeAll s [] = some s := id rfl
@[simp, go_sem] theorem s416 (s : S) : freezeAll s (n :: l) = bnd (s.freeze n) fun s => freezeAll s l := id rfl
@[simp, go_sem] theorem s417 (s : S) : S.freeze s n = bnd (look n s.env) fun v => freezeV s v := id rfl
@[simp, go_sem] theorem s418 (s : S) : freezeV s (.own p) = freezeAt s p (look p s.tree) := id rfl
@[simp, go_sem] theorem s419 (e : List (Nat × V)) (b : List (Nat × List V)) (t f : List (Nat × List (List D))) : freezeAt ⟨e, b, t, f⟩ p (some rows) = some ⟨e, b, drop1 p t, (p, rows) :: f⟩ := id rfl
@[simp, go_sem] theorem s420 (s : S) : freezeAt s p none = some s := id rfl
end
section
variable (s : S) (n m p q kk : Nat) (x y : V) (vs ws : List V) (rows : List (List D)) (l : List (Nat × List (List D)))
@[simp, go_sem] theorem s421 : enterV (.ref n m) = .ref (1000000000 + n) m := id rfl
@[simp, go_sem] theorem s422 : enterV (.own n) = .own (1000000000 + n) := id rfl
@[simp, go_sem] theorem s423 : enterV (.agg vs) = .agg (enterL vs) := id rfl
@[simp, go_sem] theorem s424 : enterV (.tup vs) = .tup (enterL vs) := id rfl
@[simp, go_sem] theorem s425 : enterV (.pe x kk n m) = .pe (enterV x) kk n m := id rfl
@[simp, go_sem] theorem s426 : enterV (.fn n vs) = .fn n (enterL vs) := id rfl
@[simp, go_sem] theorem s427 (z : Value) : enterV (.v z) = .v z := id rfl
@[simp, go_sem] theorem s428 : enterV (.nil) = .nil := id rfl
@[simp, go_sem] theorem s429 (o : Option Nat) : enterV (.lst o rows) = .lst o rows := id rfl
@[simp, go_sem] theorem s430 : enterV (.fz rows) = .fz rows := id rfl
@[simp, go_sem] theorem s431 : enterV (.dead) = .dead := id rfl
@[simp, go_sem] theorem s432 : enterL [] = [] := id rfl
@[simp, go_sem] theorem s433 : enterL (x :: vs) = enterV x :: enterL vs := id rfl
@[simp, go_sem] theorem s434 (z : Value) : outV s n l (.v z) = some (.v z, l) := id rfl
@[simp, go_sem] theorem s435 : outV s n l .nil = some (.own (n + l.length), l ++ [(0, [])]) := id rfl
@[simp, go_sem] theorem s436 (o : Option Nat) : outV s n l (.lst o rows) = some (.lst o rows, l) := id rfl
@[simp, go_sem] theorem s437 : outV s n l (.agg vs) = bnd (outL s n l vs) fun x => some (.agg x.1, x.2) := id rfl
@[simp, go_sem] theorem s438 : outV s n l (.tup vs) = bnd (outL s n l vs) fun x => some (.tup x.1, x.2) := id rfl
@[simp, go_sem] theorem s439 : outV s n l (.ref p q) = grd (1000000000 ≤ p) (some (.ref (p - 1000000000) q, l)) := id rfl
@[simp, go_sem] theorem s440 : outV s n l (.own p) = if 1000000000 ≤ p ∧ p < 1000000000 + n then grd ((look p s.tree).isSome = true) (some (.own (p - 1000000000), l)) else bnd (s.rows (.own p)) fun rows => grd ((look p l).isNone = true) (some (.own (n + l.length), l ++ [(p, rows)])) := id rfl
@[simp, go_sem] theorem s441 : outV s n l .dead = some (.dead, l) := id rfl
@[simp, go_sem] theorem s442 : outL s n l [] = some ([], l) := id rfl
@[simp, go_sem] theorem s443 : outL s n l (x :: vs) = bnd (outV s n l x) fun x => bnd (outL s n x.2 vs) fun y => some (x.1 :: y.1, y.2) := id rfl
@[simp, go_sem] theorem s444 : outB s n l [] = some ([], l) := id rfl
@[simp, go_sem] theorem s445 (ps : List Nat) : outB s n l (p :: ps) = bnd (look (1000000000 + p) s.box) fun cs => bnd (outL s n l cs) fun x => bnd (outB s n x.2 ps) fun y => some (x.1 :: y.1, y.2) := id rfl
@[simp, go_sem] theorem s446 (P : Program) : resV P s (.tmp n) = look n s.env := id rfl
@[simp, go_sem] theorem s447 (P : Program) : resV P s (.cell n m) = bnd (look n s.env) fun p => s.load P m p := id rfl
@[simp, go_sem] theorem s448 : tupOf [x] = x := id rfl
@[simp, go_sem] theorem s449 : tupOf [] = .tup [] := id rfl
@[simp, go_sem] theorem s450 : tupOf (x :: y :: vs) = .tup (x :: y :: vs) := id rfl
@[simp, go_sem] theorem s451 : keptTrees s n 0 = [] := id rfl
@[simp, go_sem] theorem s452 : keptTrees s n (m + 1) = keptOne n (keptTrees s (n + 1) m) (look (1000000000 + n) s.tree) := id rfl
@[simp, go_sem] theorem s453 : keptOne n l (some rows) = (n, rows) :: l := id rfl
@[simp, go_sem] theorem s454 : keptOne n l none = l := id rfl
@[simp, go_sem] theorem s455 (P : Program) (rs : List ResultVar) : outRes P rs n m s = bnd (mapSome (resV P s) rs) fun vs => bnd (outV s m [] (tupOf vs)) fun x => bnd (outB s m x.2 (List.range' 0 n)) fun y => grd ((s.box.all fun x => decide (x.1 < 1000000000 + n)) = true) (some ⟨x.1, y.1, keptTrees s 0 m ++ numbered m y.2⟩) := id rfl
@[simp, go_sem] theorem s456 (P : Program) (fn : Func) : leaveV P fn n m (.normal, .on s) = outRes P fn.results.toList n m s := id rfl
@[simp, go_sem] theorem s457 (P : Program) (fn : Func) : leaveV P fn n m (.ret, .on s) = outRes P fn.results.toList n m s := id rfl
@[simp, go_sem] theorem s458 (z : Q) : blockV n (.exit m, z) = if m = n then some (.normal, z) else some (.exit m, z) := id rfl
@[simp, go_sem] theorem s459 (z : Q) : blockV n (.normal, z) = some (.normal, z) := id rfl
@[simp, go_sem] theorem s460 (z : Q) : blockV n (.ret, z) = some (.ret, z) := id rfl
@[simp, go_sem] theorem s461 (ops : Array Oper) (d : Bool) : Code.first (.region n ops d) = n := id rfl
@[simp, go_sem] theorem s462 (c d : Code) : Code.first (.seq c d) = Code.first c := id rfl
@[simp, go_sem] theorem s463 (c : Code) : Code.first (.block n c) = Code.first c := id rfl
@[simp, go_sem] theorem s464 (c : Code) : Code.first (.loop c) = Code.first c := id rfl
@[simp, go_sem] theorem s465 (c : Code) : Code.first (.scope c) = Code.first c := id rfl
@[simp, go_sem] theorem s466 (P : Program) (G : List (FuncId × Bool × Mean)) (gh : Ghost) (bs : List (List V)) (ts : List (List (List D))) : evFun P G gh n vs bs ts = bnd P.funcs[n]? fun fn => bnd fn.body fun c => grd (vs.length ≤ 1000 ∧ bs.length ≤ 1000 ∧ ts.length ≤ 1000) <| bnd (evC P G gh c (.on ⟨(withIdx 0 (vs.map enterV)).reverse, (withIdx 1000000000 (bs.map enterL)).reverse, (withIdx 1000000000 ts).reverse, []⟩)) (leaveV P fn bs.length ts.length) := id rfl
@[simp, go_sem] theorem s467 (o : Option (List (List D))) : orElse1 (some rows) o = some rows := id rfl
@[simp, go_sem] theorem s468 (o : Option (List (List D))) : orElse1 none o = o := id rfl
end
theorem eff_val (s : S) (d : Nat) (v : V) : grd ((freshAll s [] && freshBox s []) = true) (some (s.app (some d) ⟨v, [], []⟩)) = some (s.put (some d) v) := by rw [grd_pos _ (show (freshAll s [] && freshBox s []) = true from rfl)]; rfl
section
variable (P : Program) (G : List (FuncId × Bool × Mean)) (s : S) (n m p q kk d : Nat) (x y : V) (vs ws : List V) (rows : List (List D)) (ats : Array TypeId) (o o1 o2 : Operand)
@[simp, go_sem] theorem s469 : effAt P G s (some d) (.move o) = evOp P G s (some d) (.move o) := by simp only [effAt, effOp, valOp, evOp, bnd_some, bnd_assoc, bnd_grd, eff_val]
@[simp, go_sem] theorem s470 : effAt P G s (some d) (.assign o) = evOp P G s (some d) (.assign o) := by simp only [effAt, effOp, valOp, evOp, bnd_some, bnd_assoc, bnd_grd, eff_val]
@[simp, go_sem] theorem s471 : effAt P G s (some d) (.pick o o1 o2) = evOp P G s (some d) (.pick o o1 o2) := by simp only [effAt, effOp, valOp, evOp, bnd_some, bnd_assoc, bnd_grd, eff_val]
@[simp, go_sem] theorem s472 : effAt P G s (some d) (.load n o) = evOp P G s (some d) (.load n o) := by simp only [effAt, effOp, valOp, evOp, bnd_some, bnd_assoc, bnd_grd, eff_val]
@[simp, go_sem] theorem s473 : effAt P G s (some d) (.nilCheck o) = evOp P G s (some d) (.nilCheck o) := by simp only [effAt, effOp, valOp, evOp, bnd_some, bnd_assoc, bnd_grd, eff_val]
@[simp, go_sem] theorem s474 : effAt P G s (some d) (.fieldAddr n o m) = evOp P G s (some d) (.fieldAddr n o m) := by simp only [effAt, effOp, valOp, evOp, bnd_some, bnd_assoc, bnd_grd, eff_val]
@[simp, go_sem] theorem s475 : effAt P G s (some d) (.field n o m) = evOp P G s (some d) (.field n o m) := by simp only [effAt, effOp, valOp, evOp, bnd_some, bnd_assoc, bnd_grd, eff_val]
@[simp, go_sem] theorem s476 : effAt P G s (some d) (.indexAddr n o o1) = evOp P G s (some d) (.indexAddr n o o1) := by simp only [effAt, effOp, valOp, evOp, bnd_some, bnd_assoc, bnd_grd, eff_val]
@[simp, go_sem] theorem s477 : effAt P G s (some d) (.index n o o1) = evOp P G s (some d) (.index n o o1) := by simp only [effAt, effOp, valOp, evOp, bnd_some, bnd_assoc, bnd_grd, eff_val]
@[simp, go_sem] theorem s478 : effAt P G s (some d) (.extract o n) = evOp P G s (some d) (.extract o n) := by simp only [effAt, effOp, valOp, evOp, bnd_some, bnd_assoc, bnd_grd, eff_val]
@[simp, go_sem] theorem s479 : effAt P G s (some d) (.convert n m o) = evOp P G s (some d) (.convert n m o) := by simp only [effAt, effOp, valOp, evOp, bnd_some, bnd_assoc, bnd_grd, eff_val]
@[simp, go_sem] theorem s480 (ps : Array (Nat × Operand)) : effAt P G s (some d) (.build n ps) = evOp P G s (some d) (.build n ps) := by simp only [effAt, effOp, valOp, evOp, bnd_some, bnd_assoc, bnd_grd, eff_val]
@[simp, go_sem] theorem s481 (z : BinOp) : effAt P G s (some d) (.binOp z n o o1 m) = evOp P G s (some d) (.binOp z n o o1 m) := by simp only [effAt, effOp, valOp, evOp, bnd_some, bnd_assoc, bnd_grd, eff_val]
@[simp, go_sem] theorem s482 (z : UnOp) : effAt P G s (some d) (.unOp z n o) = evOp P G s (some d) (.unOp z n o) := by simp only [effAt, effOp, valOp, evOp, bnd_some, bnd_assoc, bnd_grd, eff_val]
@[simp, go_sem] theorem s483 (lo hi : Option Operand) : effAt P G s (some d) (.slice n o lo hi none) = evOp P G s (some d) (.slice n o lo hi none) := by simp only [effAt, effOp, valOp, evOp, bnd_some, bnd_assoc, bnd_grd, eff_val]
@[simp, go_sem] theorem s484 : effAt P G s (some d) (.alloc n) = evOp P G s (some d) (.alloc n) := by simp only [effAt, effOp, evOp, bnd_some, bnd_assoc, S.newBox, freshAll, freshBox, Bool.and_true, Bool.true_and]; rfl
@[simp, go_sem] theorem s485 : effAt P G s (some d) (.box n o) = evOp P G s (some d) (.box n o) := by simp only [effAt, effOp, evOp, bnd_some, bnd_assoc, bnd_grd, S.newBox, freshAll, freshBox, Bool.and_true, Bool.true_and]; rfl
@[simp, go_sem] theorem s486 (c : Call) : effAt P G s (some d) (.call c) = bnd (bnd (mapSome s.ev c.args.toList) fun args => effCallee P G s d c.argTypes args c.callee) fun e => grd ((freshAll s e.tree && freshBox s e.box) = true) (some (s.app (some d) e)) := id rfl
@[simp, go_sem] theorem s487 (ps : Array (Nat × Operand)) : effAt P G s (some d) (.buildSlice n m ps) = bnd (bnd (P.underlying n) fun ds => bnd (sliceElem ds) fun e => bnd (mapSome (evPair s) ps.toList) fun vs => grd ((zeroOk P e && decide (m * P.cellsOf e ≤ 16777216) && upto 0 m (vs.map (·.1)) && vs.all fun v => decide (v.2.cells.length = P.cellsOf e) && v.2.cells.all V.one) = true) (bnd (mapSome (fun v : Nat × V => mapSome packV v.2.cells) vs) fun rows => some ⟨.own d, [(d, rows)], []⟩)) fun e : Eff => grd ((freshAll s e.tree && freshBox s e.box) = true) (some (s.app (some d) e)) := id rfl
@[simp, go_sem] theorem s488 (z : Builtin) : effCallee P G s d ats vs (.builtin z) = effB P s d z ats vs := id rfl
@[simp, go_sem] theorem s489 : effCallee P G s d ats vs (.value o) = bnd (s.ev o) fun f => bnd (fnOf f) fun f => bnd (look f.1 G) fun M => grd (M.1 = false) (effCall M.2 s d (vs ++ f.2)) := id rfl
@[simp, go_sem] theorem s490 : effB P s d .append ats [x, y] = bnd ats[0]? fun t => bnd ats[1]? fun t1 => grd (seqT P t1 = true) (bnd (P.underlying t) fun ds => bnd (sliceElem ds) fun e => bnd (flatRows s y) fun new => effNew P d e new x) := id rfl
@[simp, go_sem] theorem s491 : effB P s d .len ats vs = bnd (valB P s .len ats vs) fun v => some ⟨v, [], []⟩ := id rfl
@[simp, go_sem] theorem s492 : effB P s d .max ats vs = bnd (valB P s .max ats vs) fun v => some ⟨v, [], []⟩ := id rfl
@[simp, go_sem] theorem s493 : effB P s d .min ats vs = bnd (valB P s .min ats vs) fun v => some ⟨v, [], []⟩ := id rfl
@[simp, go_sem] theorem s494 (u : ByteArray) : valB P s .len ats [.v (.string u)] = bnd ats[0]? fun t => grd (strT P t = true) (some (.v (.int .i64 u.size))) := id rfl
@[simp, go_sem] theorem s495 : valB P s .len ats [.nil] = bnd ats[0]? fun t => grd (lstT P t = true) (bnd (s.rows (.nil)) fun rows => some (.v (.int .i64 rows.length))) := id rfl
@[simp, go_sem] theorem s496 : flatRows s (.nil) = bnd (s.rows (.nil)) fun rows => grd (rowsFlat rows = true) (some rows) := id rfl
@[simp, go_sem] theorem s497 (w : Option Nat) : valB P s .len ats [.lst w rows] = bnd ats[0]? fun t => grd (lstT P t = true) (bnd (s.rows (.lst w rows)) fun rows => some (.v (.int .i64 rows.length))) := id rfl
@[simp, go_sem] theorem s498 (w : Option Nat) : flatRows s (.lst w rows) = bnd (s.rows (.lst w rows)) fun rows => grd (rowsFlat rows = true) (some rows) := id rfl
@[simp, go_sem] theorem s499 : valB P s .len ats [.fz rows] = bnd ats[0]? fun t => grd (lstT P t = true) (bnd (s.rows (.fz rows)) fun rows => some (.v (.int .i64 rows.length))) := id rfl
@[simp, go_sem] theorem s500 : flatRows s (.fz rows) = bnd (s.rows (.fz rows)) fun rows => grd (rowsFlat rows = true) (some rows) := id rfl
@[simp, go_sem] theorem s501 : valB P s .len ats [.own p] = bnd ats[0]? fun t => grd (lstT P t = true) (bnd (s.rows (.own p)) fun rows => some (.v (.int .i64 rows.length))) := id rfl
@[simp, go_sem] theorem s502 : flatRows s (.own p) = bnd (s.rows (.own p)) fun rows => grd (rowsFlat rows = true) (some rows) := id rfl
@[simp, go_sem] theorem s503 (u : ByteArray) : flatRows s (.v (.string u)) = some (u.toList.map fun c => [.a (.int .u8 (c.toNat : Int))]) := id rfl
@[simp, go_sem] theorem s504 (a c : Int) : valB P s .max ats [.v (.int .i64 a), .v (.int .i64 c)] = some (.v (.int .i64 (max a c))) := id rfl
@[simp, go_sem] theorem s505 (a c : Int) : valB P s .min ats [.v (.int .i64 a), .v (.int .i64 c)] = some (.v (.int .i64 (min a c))) := id rfl
@[simp, go_sem] theorem s506 : effNew P d n rows .nil = grd (sizeOk P n rows.length = true ∧ wid (P.cellsOf n) rows = true) (some ⟨.own d, [(d, rows)], []⟩) := id rfl
@[simp, go_sem] theorem s507 (M : Mean) : effCall M s d vs = bnd (lendL s ⟨[], [], []⟩ vs) fun x => grd ((x.2.box.isEmpty && x.2.tree.isEmpty) = true) (bnd (M x.1 [] []) fun r => grd (r.box.isEmpty = true) (bnd (backV x.2 d r.val) fun v => some ⟨v, effTrees d r.tree, []⟩)) := id rfl
@[simp, go_sem] theorem s508 : effTrees n [] = [] := id rfl
@[simp, go_sem] theorem s509 (r : List (Nat × List (List D))) : effTrees n ((q, rows) :: r) = (1000 * (n + 1) + q, rows) :: effTrees n r := id rfl
@[simp, go_sem] theorem s510 : freshAll s [] = true := id rfl
@[simp, go_sem] theorem s511 (r : List (Nat × List (List D))) (e : List (Nat × V)) (b : List (Nat × List V)) (t f : List (Nat × List (List D))) : freshAll ⟨e, b, t, f⟩ ((q, rows) :: r) = (fresh ⟨e, b, t, f⟩ q && decide (q < 1000000000) && freshAll ⟨e, b, (q, rows) :: t, f⟩ r) := id rfl
@[simp, go_sem] theorem s512 : freshBox s [] = true := id rfl
@[simp, go_sem] theorem s513 (r : List (Nat × List V)) (e : List (Nat × V)) (b : List (Nat × List V)) (t f : List (Nat × List (List D))) : freshBox ⟨e, b, t, f⟩ ((q, vs) :: r) = ((look q b).isNone && freshBox ⟨e, (q, vs) :: b, t, f⟩ r) := id rfl
@[simp, go_sem] theorem s514 (tt : List (Nat × List (List D))) (bb : List (Nat × List V)) (e : List (Nat × V)) (b : List (Nat × List V)) (t f : List (Nat × List (List D))) : S.app ⟨e, b, t, f⟩ (some d) ⟨x, tt, bb⟩ = ⟨put d x e, bb ++ b, tt.reverse ++ t, f⟩ := id rfl
end
end Go.Proofs.YtacnbajcignacaaGreat
