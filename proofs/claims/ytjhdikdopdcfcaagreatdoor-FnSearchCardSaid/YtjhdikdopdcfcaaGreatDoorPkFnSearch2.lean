/- Part 2 of a proof in several texts (an abstract evaluator, what the functions compute). -/
import Derived.Test.YtjhdikdopdcfcaaGreatDoorPkFnSearch1
import Derived.Test.YtjhdikdopdcfcaaGreatDoorRows
namespace Go.Proofs.YtjhdikdopdcfcaaGreatDoor
open Go.RowKit
set_option linter.unusedSimpArgs false
set_option linter.unusedVariables false
section
variable {α β : Type} (k j : Nat) (x y : α) (r : List (Nat × α))
@[simp, go_sem] theorem s1 : look k ([] : List (Nat × α)) = none := id rfl
@[simp, go_sem] theorem s2 : look k ((j, x) :: r) = if k = j then some x else look k r := id rfl
@[simp, go_sem] theorem s3 : put k x [] = [(k, x)] := id rfl
@[simp, go_sem] theorem s4 : put k x ((j, y) :: r) = if k = j then (k, x) :: r else if j < k then (k, x) :: (j, y) :: r else (j, y) :: put k x r := id rfl
@[simp, go_sem] theorem s5 : drop1 k ([] : List (Nat × α)) = [] := id rfl
@[simp, go_sem] theorem s6 : drop1 k ((j, y) :: r) = if k = j then drop1 k r else (j, y) :: drop1 k r := id rfl
@[simp, go_sem] theorem s7 : upd k x ([] : List (Nat × α)) = [] := id rfl
@[simp, go_sem] theorem s8 : upd k x ((j, y) :: r) = if k = j then (k, x) :: r else (j, y) :: upd k x r := id rfl
@[simp, go_sem] theorem s9 : withIdx k ([] : List α) = [] := id rfl
@[simp, go_sem] theorem s10 (l : List α) : withIdx k (x :: l) = (k, x) :: withIdx (k + 1) l := id rfl
@[simp, go_sem] theorem s11 : numbered k ([] : List (Nat × α)) = [] := id rfl
@[simp, go_sem] theorem s12 : numbered k ((j, x) :: r) = (k, x) :: numbered (k + 1) r := id rfl
@[simp, go_sem] theorem s13 (f : α → Option β) : mapSome f [] = some [] := id rfl
@[simp, go_sem] theorem s14 (f : α → Option β) (l : List α) : mapSome f (x :: l) = bnd (f x) fun y => bnd (mapSome f l) fun l => some (y :: l) := id rfl
@[simp, go_sem] theorem s15 : desc [] = true := id rfl
@[simp, go_sem] theorem s16 : desc [k] = true := id rfl
@[simp, go_sem] theorem s17 (l : List Nat) : desc (k :: j :: l) = (decide (j < k) && desc (j :: l)) := id rfl
@[simp, go_sem] theorem s18 (n : Nat) : pos k [] n = none := id rfl
@[simp, go_sem] theorem s19 (l : List Nat) (n : Nat) : pos k (j :: l) n = if k = j then some n else pos k l (n + 1) := id rfl
end
section
variable (P : Program) (G : List (FuncId × Bool × Mean)) (e : List (Nat × V)) (b : List (Nat × List V)) (t f : List (Nat × List (List D))) (s : S) (n m p q kk : Nat) (x y : V) (vs : List V) (rows : List (List D))
@[simp, go_sem] theorem s20 : S.put ⟨e, b, t, f⟩ (some n) x = ⟨put n x e, b, t, f⟩ := id rfl
@[simp, go_sem] theorem s21 : S.put s none x = s := id rfl
@[simp, go_sem] theorem s22 : S.skip ⟨e, b, t, f⟩ (some n) = ⟨drop1 n e, b, t, f⟩ := id rfl
@[simp, go_sem] theorem s23 : S.skip s none = s := id rfl
@[simp, go_sem] theorem s24 (z : Bool) : constV (.bool z) = some (.v (.bool z)) := id rfl
@[simp, go_sem] theorem s25 (k : IntKind) (z : Int) : constV (.int k z) = some (.v (.int k z)) := id rfl
@[simp, go_sem] theorem s26 (z : ByteArray) : constV (.string z) = some (.v (.string z)) := id rfl
@[simp, go_sem] theorem s27 : constV (.slice none 0 0) = some .nil := id rfl
@[simp, go_sem] theorem s28 : constV (.pointer none) = some (.v (.pointer none)) := id rfl
@[simp, go_sem] theorem s29 : constV (.agg #[]) = some (.agg []) := id rfl
@[simp, go_sem] theorem s30 : constC (.slice none 0 0) = .nil := id rfl
@[simp, go_sem] theorem s31 (z : Bool) : constC (.bool z) = .v (.bool z) := id rfl
@[simp, go_sem] theorem s32 (k : IntKind) (z : Int) : constC (.int k z) = .v (.int k z) := id rfl
@[simp, go_sem] theorem s33 (z : ByteArray) : constC (.string z) = .v (.string z) := id rfl
@[simp, go_sem] theorem s34 : constC (.pointer none) = .v (.pointer none) := id rfl
@[simp, go_sem] theorem s35 (cs : Array Value) : constV (.agg cs) = some (.agg (cs.toList.map constC)) := id rfl
@[simp, go_sem] theorem s36 : s.ev (.tmp n) = look n s.env := id rfl
@[simp, go_sem] theorem s37 (c : Value) : s.ev (.const c) = constV c := id rfl
@[simp, go_sem] theorem s38 : s.ev (.func n) = some (.fn n []) := id rfl
@[simp, go_sem] theorem s39 : V.cells (.agg vs) = vs := id rfl
@[simp, go_sem] theorem s40 (z : Value) : V.cells (.v z) = [.v z] := id rfl
@[simp, go_sem] theorem s41 : V.cells (.nil) = [.nil] := id rfl
@[simp, go_sem] theorem s42 (o : Option Nat) : V.cells (.lst o rows) = [.lst o rows] := id rfl
@[simp, go_sem] theorem s43 : V.cells (.own n) = [.own n] := id rfl
@[simp, go_sem] theorem s44 : V.cells (.fz rows) = [.fz rows] := id rfl
@[simp, go_sem] theorem s45 (em : List (Int × Int)) : V.cells (.mp em) = [.mp em] := id rfl
@[simp, go_sem] theorem s46 : V.cells (.ref n m) = [.ref n m] := id rfl
@[simp, go_sem] theorem s47 : V.cells (.pe x kk n m) = [.pe x kk n m] := id rfl
@[simp, go_sem] theorem s48 : V.cells (.fn n vs) = [.fn n vs] := id rfl
@[simp, go_sem] theorem s49 : s.rows .nil = some [] := id rfl
@[simp, go_sem] theorem s50 (o : Option Nat) : s.rows (.lst o rows) = some rows := id rfl
@[simp, go_sem] theorem s51 : s.rows (.fz rows) = some rows := id rfl
@[simp, go_sem] theorem s52 : s.rows (.own p) = orElse1 (look p s.tree) (look p s.fro) := id rfl
@[simp, go_sem] theorem s53 (z : Value) : s.under x n m q (.a z) = some (.v z) := id rfl
@[simp, go_sem] theorem s54 (o : Option Nat) (rs : List (List D)) : s.under (.lst o rs) n m q (.l rows) = some (.lst none rows) := id rfl
@[simp, go_sem] theorem s55 (rs : List (List D)) : s.under (.fz rs) n m q (.l rows) = some (.fz rows) := id rfl
@[simp, go_sem] theorem s56 : s.under (.own p) n m q (.l rows) = underOwn p m q n rows (look p s.fro) := id rfl
@[simp, go_sem] theorem s57 (rs : List (List D)) : underOwn p m q n rows (some rs) = some (.fz rows) := id rfl
@[simp, go_sem] theorem s58 : underOwn p m q n rows none = some (.inn p m q n) := id rfl
@[simp, go_sem] theorem s59 : underL s x n m q [] = some [] := id rfl
@[simp, go_sem] theorem s60 (d : D) (l : List D) : underL s x n m q (d :: l) = bnd (s.under x n m q d) fun v => bnd (underL s x n m (q + 1) l) fun l => some (v :: l) := id rfl
@[simp, go_sem] theorem s61 : s.rows (.inn p m q n) = bnd (look p s.tree) fun rows => bnd rows[m]? fun r => grd (r.length = n) (bnd r[q]? rowsD) := id rfl
@[simp, go_sem] theorem s62 : rowsD (.l rows) = some rows := id rfl
@[simp, go_sem] theorem s63 : V.cells (.inn p m q n) = [.inn p m q n] := id rfl
@[simp, go_sem] theorem s64 : V.one (.inn p m q n) = true := id rfl
@[simp, go_sem] theorem s65 : flatD .gone = false := id rfl
@[simp, go_sem] theorem s66 : oneD .gone = true := id rfl
@[simp, go_sem] theorem s67 (z : Array Field) : isAggD (.struct z) = true := id rfl
@[simp, go_sem] theorem s68 : isAggD (.array n m) = true := id rfl
@[simp, go_sem] theorem s69 : isAggD (.bool) = false := id rfl
@[simp, go_sem] theorem s70 (k : IntKind) : isAggD (.int k) = false := id rfl
@[simp, go_sem] theorem s71 : isAggD (.string) = false := id rfl
@[simp, go_sem] theorem s72 : isAggD (.slice n) = false := id rfl
@[simp, go_sem] theorem s73 : isAggD (.pointer n) = false := id rfl
@[simp, go_sem] theorem s74 (a c : Array TypeId) (d : Bool) : isAggD (.func a c d) = false := id rfl
@[simp, go_sem] theorem s75 (z : Array (String × TypeId)) : isAggD (.interface z) = false := id rfl
@[simp, go_sem] theorem s76 : isAggD (.map n m) = false := id rfl
@[simp, go_sem] theorem s77 : span vs n m true = grd (n + m ≤ vs.length) (some (.agg ((vs.drop n).take m))) := id rfl
@[simp, go_sem] theorem s78 : span vs n m false = vs[n]? := id rfl
@[simp, go_sem] theorem s79 : s.load P n (.ref p m) = bnd (aggT P n) fun g => bnd (look p s.box) fun cs => span cs m (P.cellsOf n) g := id rfl
@[simp, go_sem] theorem s80 : s.load P n (.pe x kk p m) = bnd (aggT P n) fun g => bnd (s.rows x) fun rows => bnd rows[p]? fun r => grd (r.length = kk) (s.loadRow x kk p r m (P.cellsOf n) g) := id rfl
@[simp, go_sem] theorem s81 (r : List D) : s.loadRow x kk p r n m true = grd (n + m ≤ r.length) (bnd (underL s x kk p n ((r.drop n).take m)) fun cs => some (.agg cs)) := id rfl
@[simp, go_sem] theorem s82 (r : List D) : s.loadRow x kk p r n m false = bnd r[n]? (s.under x kk p n) := id rfl
@[simp, go_sem] theorem s83 : setAt vs n [] = vs := id rfl
@[simp, go_sem] theorem s84 (ws : List V) : setAt vs n (x :: ws) = setAt (vs.set n x) (n + 1) ws := id rfl
@[simp, go_sem] theorem s85 : oneD (.l rows) = true := id rfl
@[simp, go_sem] theorem s86 (z : Value) : oneD (.a z) = z.oneCell' := id rfl
@[simp, go_sem] theorem s87 (z : Value) : V.one (.v z) = z.oneCell' := id rfl
@[simp, go_sem] theorem s88 : V.one .nil = true := id rfl
@[simp, go_sem] theorem s89 (o : Option Nat) : V.one (.lst o rows) = true := id rfl
@[simp, go_sem] theorem s90 : V.one (.fz rows) = true := id rfl
@[simp, go_sem] theorem s91 (em : List (Int × Int)) : V.one (.mp em) = true := id rfl
@[simp, go_sem] theorem s92 : V.one (.own p) = true := id rfl
@[simp, go_sem] theorem s93 : V.one (.ref n m) = true := id rfl
@[simp, go_sem] theorem s94 : V.one (.pe x kk n m) = true := id rfl
@[simp, go_sem] theorem s95 : V.one (.fn n vs) = true := id rfl
@[simp, go_sem] theorem s96 (k : IntKind) (a : Int) : Value.oneCell' (.int k a) = true := id rfl
@[simp, go_sem] theorem s97 (g : Bool) : Value.oneCell' (.bool g) = true := id rfl
@[simp, go_sem] theorem s98 (u : ByteArray) : Value.oneCell' (.string u) = true := id rfl
@[simp, go_sem] theorem s99 (o : Option Addr) : Value.oneCell' (.pointer o) = true := id rfl
@[simp, go_sem] theorem s100 (z : Value) : Value.oneCell' (.iface n z) = true := id rfl
@[simp, go_sem] theorem s101 : Value.oneCell' (.nilIface) = true := id rfl
@[simp, go_sem] theorem s102 : Value.oneCell' (.nilFunc) = true := id rfl
@[simp, go_sem] theorem s103 (z : Value) : V.atom (.v z) = some (.a z) := id rfl
@[simp, go_sem] theorem s104 (z : Value) : flatD (.a z) = true := id rfl
@[simp, go_sem] theorem s105 : flatD (.l rows) = false := id rfl
@[simp, go_sem] theorem s106 : S.store P ⟨e, b, t, f⟩ n (.ref p m) x = grd (sizedT P n = true ∧ x.cells.length = P.cellsOf n) (bnd (look p b) fun cs => grd (m + x.cells.length ≤ cs.length ∧ x.cells.all V.one = true) (some ⟨e, upd p (setAt cs m x.cells) b, t, f⟩)) := id rfl
@[simp, go_sem] theorem s107 : S.store P s n (.pe (.own q) kk p m) x = grd (sizedT P n = true ∧ x.cells.length = P.cellsOf n) (storeOwn s q kk p m x x.atom) := id rfl
@[simp, go_sem] theorem s108 (d : D) : storeOwn ⟨e, b, t, f⟩ q kk p m x (some d) = bnd (look q t) fun rows => bnd rows[p]? fun r => bnd r[m]? fun d0 => grd (r.length = kk ∧ flatD d0 = true ∧ oneD d = true) (some ⟨e, b, upd q (rows.set p (r.set m d)) t, f⟩) := id rfl
@[simp, go_sem] theorem s109 : storeOwn s q kk p m x none = bnd (packRow s x.cells) fun z => bnd (look q z.2.tree) fun rows => bnd rows[p]? fun r => grd (r.length = kk ∧ m + z.1.length ≤ r.length ∧ x.cells.all V.one = true ∧ ¬ (1000000000 ≤ q ∧ q < 2000000000)) (some (z.2.turned q (rows.set p (setD r m z.1)))) := id rfl
@[simp, go_sem] theorem s110 (i0 j0 k0 : Nat) : S.store P s n (.pe (.inn q i0 j0 k0) kk p m) x = grd (sizedT P n = true ∧ x.cells.length = P.cellsOf n) (storeInn s q i0 j0 k0 kk p m x.atom) := id rfl
@[simp, go_sem] theorem s111 (i0 j0 k0 : Nat) (d : D) : storeInn ⟨e, b, t, f⟩ q i0 j0 k0 kk p m (some d) = bnd (look q t) fun rows => bnd rows[i0]? fun r => bnd r[j0]? fun c => bnd (rowsD c) fun rs => bnd rs[p]? fun r1 => bnd r1[m]? fun d0 => grd (r.length = k0 ∧ r1.length = kk ∧ flatD d0 = true ∧ oneD d = true) (some ⟨e, b, upd q (rows.set i0 (r.set j0 (.l (rs.set p (r1.set m d))))) t, f⟩) := id rfl
@[simp, go_sem] theorem s112 : V.atom (.own q) = none := id rfl
@[simp, go_sem] theorem s113 : V.atom (.nil) = none := id rfl
@[simp, go_sem] theorem s114 : V.atom (.agg vs) = none := id rfl
@[simp, go_sem] theorem s115 (r : List D) : setD r m [] = r := id rfl
@[simp, go_sem] theorem s116 (r ds : List D) (d : D) : setD r m (d :: ds) = setD (r.set m d) (m + 1) ds := id rfl
@[simp, go_sem] theorem s117 : S.turned ⟨e, b, t, f⟩ p rows = ⟨innE p e, innB p b, upd p rows t, f⟩ := id rfl
@[simp, go_sem] theorem s118 : innE p [] = [] := id rfl
@[simp, go_sem] theorem s119 : innE p ((n, x) :: e) = (n, if innOf p x = true then .dead else x) :: innE p e := id rfl
@[simp, go_sem] theorem s120 : innC p [] = [] := id rfl
@[simp, go_sem] theorem s121 : innC p (x :: vs) = (if innOf p x = true then .dead else x) :: innC p vs := id rfl
@[simp, go_sem] theorem s122 : innB p [] = [] := id rfl
@[simp, go_sem] theorem s123 : innB p ((n, vs) :: b) = (n, innC p vs) :: innB p b := id rfl
@[simp, go_sem] theorem s124 (z : Value) : innOf p (.v z) = false := id rfl
@[simp, go_sem] theorem s125 : innOf p .nil = false := id rfl
@[simp, go_sem] theorem s126 (o : Option Nat) : innOf p (.lst o rows) = false := id rfl
@[simp, go_sem] theorem s127 : innOf p (.fz rows) = false := id rfl
@[simp, go_sem] theorem s128 (em : List (Int × Int)) : innOf p (.mp em) = false := id rfl
@[simp, go_sem] theorem s129 : innOf p (.own q) = false := id rfl
@[simp, go_sem] theorem s130 : innOf p (.inn q n m kk) = decide (p = q) := id rfl
@[simp, go_sem] theorem s131 : innOf p (.ref n m) = false := id rfl
@[simp, go_sem] theorem s132 : innOf p (.pe x kk n m) = innOf p x := id rfl
@[simp, go_sem] theorem s133 : innOf p (.agg vs) = innOf.any p vs := id rfl
@[simp, go_sem] theorem s134 : innOf p (.tup vs) = innOf.any p vs := id rfl
@[simp, go_sem] theorem s135 : innOf p (.fn n vs) = innOf.any p vs := id rfl
@[simp, go_sem] theorem s136 : innOf p .dead = false := id rfl
@[simp, go_sem] theorem s137 : innOf.any p [] = false := id rfl
@[simp, go_sem] theorem s138 : innOf.any p (x :: vs) = (innOf p x || innOf.any p vs) := id rfl
end
section
variable (P : Program) (t : TypeId) (k k2 : IntKind) (a c : Int) (u v : ByteArray) (g h : Bool)
@[simp, go_sem] theorem s139 : bin P t .add (.v (.int k a)) (.v (.int k2 c)) = bnd (grd (k = k2) (some (.int k (k.wrap (a + c))))) fun v => some (.v v) := id rfl
@[simp, go_sem] theorem s140 : bin P t .sub (.v (.int k a)) (.v (.int k2 c)) = bnd (grd (k = k2) (some (.int k (k.wrap (a - c))))) fun v => some (.v v) := id rfl
@[simp, go_sem] theorem s141 : bin P t .mul (.v (.int k a)) (.v (.int k2 c)) = bnd (grd (k = k2) (some (.int k (k.wrap (a * c))))) fun v => some (.v v) := id rfl
@[simp, go_sem] theorem s142 : bin P t .quo (.v (.int k a)) (.v (.int k2 c)) = bnd (grd (k = k2) (grd (c ≠ 0) (some (.int k (k.wrap (a.tdiv c)))))) fun v => some (.v v) := id rfl
@[simp, go_sem] theorem s143 : bin P t .rem (.v (.int k a)) (.v (.int k2 c)) = bnd (grd (k = k2) (grd (c ≠ 0) (some (.int k (a.tmod c))))) fun v => some (.v v) := id rfl
@[simp, go_sem] theorem s144 : bin P t .and (.v (.int k a)) (.v (.int k2 c)) = bnd (grd (k = k2) (some (.int k (k.wrap (BitVec.ofInt k.bits a &&& BitVec.ofInt k.bits c).toNat)))) fun v => some (.v v) := id rfl
@[simp, go_sem] theorem s145 : bin P t .or (.v (.int k a)) (.v (.int k2 c)) = bnd (grd (k = k2) (some (.int k (k.wrap (BitVec.ofInt k.bits a ||| BitVec.ofInt k.bits c).toNat)))) fun v => some (.v v) := id rfl
@[simp, go_sem] theorem s146 : bin P t .xor (.v (.int k a)) (.v (.int k2 c)) = bnd (grd (k = k2) (some (.int k (k.wrap (BitVec.ofInt k.bits a ^^^ BitVec.ofInt k.bits c).toNat)))) fun v => some (.v v) := id rfl
@[simp, go_sem] theorem s147 : bin P t .eql (.v (.int k a)) (.v (.int k2 c)) = bnd (grd (k = k2) (some (.bool (a == c)))) fun v => some (.v v) := id rfl
@[simp, go_sem] theorem s148 : bin P t .neq (.v (.int k a)) (.v (.int k2 c)) = bnd (grd (k = k2) (some (.bool (a != c)))) fun v => some (.v v) := id rfl
@[simp, go_sem] theorem s149 : bin P t .lss (.v (.int k a)) (.v (.int k2 c)) = bnd (grd (k = k2) (some (.bool (decide (a < c))))) fun v => some (.v v) := id rfl
@[simp, go_sem] theorem s150 : bin P t .leq (.v (.int k a)) (.v (.int k2 c)) = bnd (grd (k = k2) (some (.bool (decide (a ≤ c))))) fun v => some (.v v) := id rfl
@[simp, go_sem] theorem s151 : bin P t .gtr (.v (.int k a)) (.v (.int k2 c)) = bnd (grd (k = k2) (some (.bool (decide (c < a))))) fun v => some (.v v) := id rfl
@[simp, go_sem] theorem s152 : bin P t .geq (.v (.int k a)) (.v (.int k2 c)) = bnd (grd (k = k2) (some (.bool (decide (c ≤ a))))) fun v => some (.v v) := id rfl
@[simp, go_sem] theorem s153 : bin P t .shl (.v (.int k a)) (.v (.int k2 c)) = bnd (grd (0 ≤ c) (some (.int k (k.wrap (a * 2 ^ (min c.toNat k.bits)))))) fun v => some (.v v) := id rfl
@[simp, go_sem] theorem s154 : bin P t .shr (.v (.int k a)) (.v (.int k2 c)) = bnd (grd (0 ≤ c) (some (.int k (a.fdiv (2 ^ (min c.toNat k.bits)))))) fun v => some (.v v) := id rfl
@[simp, go_sem] theorem s155 : bin P t .add (.v (.string u)) (.v (.string v)) = bnd (grd (u.size + v.size ≤ 9223372036854775807) (some (.string (u ++ v)))) fun v => some (.v v) := id rfl
@[simp, go_sem] theorem s156 : bin P t .eql (.v (.string u)) (.v (.string v)) = bnd (some (.bool (u.toList == v.toList))) fun v => some (.v v) := id rfl
@[simp, go_sem] theorem s157 : bin P t .neq (.v (.string u)) (.v (.string v)) = bnd (some (.bool (!(u.toList == v.toList)))) fun v => some (.v v) := id rfl
@[simp, go_sem] theorem s158 : bin P t .lss (.v (.string u)) (.v (.string v)) = bnd (some (.bool (Op.bytesLess u.toList v.toList))) fun v => some (.v v) := id rfl
@[simp, go_sem] theorem s159 : bin P t .leq (.v (.string u)) (.v (.string v)) = bnd (some (.bool (Op.bytesLess u.toList v.toList || u.toList == v.toList))) fun v => some (.v v) := id rfl
@[simp, go_sem] theorem s160 : bin P t .gtr (.v (.string u)) (.v (.string v)) = bnd (some (.bool (!(Op.bytesLess u.toList v.toList || u.toList == v.toList)))) fun v => some (.v v) := id rfl
@[simp, go_sem] theorem s161 : bin P t .geq (.v (.string u)) (.v (.string v)) = bnd (some (.bool (!(Op.bytesLess u.toList v.toList)))) fun v => some (.v v) := id rfl
@[simp, go_sem] theorem s162 : bin P t .eql (.v (.bool g)) (.v (.bool h)) = bnd (P.underlying t) fun d => bnd (binB .eql g h d) fun v => some (.v v) := id rfl
@[simp, go_sem] theorem s163 : binB .eql g h .bool = some (.bool (g == h)) := id rfl
@[simp, go_sem] theorem s164 (n m : Nat) : bin P t .eql (.ref n m) (.v (.pointer none)) = bnd (P.underlying t) fun d => bnd (binP .eql d) fun v => some (.v v) := id rfl
@[simp, go_sem] theorem s165 (n : Nat) : binP .eql (.pointer n) = some (.bool false) := id rfl
@[simp, go_sem] theorem s166 : bin P t .neq (.v (.bool g)) (.v (.bool h)) = bnd (P.underlying t) fun d => bnd (binB .neq g h d) fun v => some (.v v) := id rfl
@[simp, go_sem] theorem s167 : binB .neq g h .bool = some (.bool (g != h)) := id rfl
@[simp, go_sem] theorem s168 (n m : Nat) : bin P t .neq (.ref n m) (.v (.pointer none)) = bnd (P.underlying t) fun d => bnd (binP .neq d) fun v => some (.v v) := id rfl
@[simp, go_sem] theorem s169 (n : Nat) : binP .neq (.pointer n) = some (.bool true) := id rfl
@[simp, go_sem] theorem s170 : un .neg (.v (.int k a)) = some (.v (.int k (k.wrap (0 - a)))) := id rfl
@[simp, go_sem] theorem s171 : un .not (.v (.bool g)) = some (.v (.bool !g)) := id rfl
@[simp, go_sem] theorem s172 : idxOf (.v (.int k a)) = some a := id rfl
@[simp, go_sem] theorem s173 : boolOf (.v (.bool g)) = some g := id rfl
@[simp, go_sem] theorem s174 : optV a none = some a := id rfl
@[simp, go_sem] theorem s175 (x : V) : optV a (some x) = idxOf x := id rfl
@[simp, go_sem] theorem s176 (n : Nat) (lo hi : Option V) : bounds n lo hi = bnd (optV 0 lo) fun l => bnd (optV n hi) fun h => grd (0 ≤ l ∧ l ≤ h ∧ h ≤ n) (some (l.toNat, h.toNat)) := id rfl
end
section
variable (P : Program) (G : List (FuncId × Bool × Mean)) (e : List (Nat × V)) (b : List (Nat × List V)) (t f : List (Nat × List (List D))) (s : S) (n m p q kk : Nat) (x y : V) (vs ws : List V) (rows : List (List D)) (dst : Option Nat)
@[simp, go_sem] theorem s177 (lo hi : Option V) : sliceV P s x lo hi .string = sliceStr x lo hi := id rfl
@[simp, go_sem] theorem s178 (u : ByteArray) (lo hi : Option V) : sliceStr (.v (.string u)) lo hi = bnd (bounds u.size lo hi) fun p => some (.v (.string (u.extract p.1 p.2))) := id rfl
@[simp, go_sem] theorem s179 (lo hi : Option V) : sliceV P s x lo hi (.slice n) = grd (sizedT P n = true) (sliceL (P.cellsOf n) s x lo hi) := id rfl
@[simp, go_sem] theorem s180 (lo hi : Option V) : sliceL n s .nil lo hi = bnd (bounds 0 lo hi) fun _ => some .nil := id rfl
@[simp, go_sem] theorem s181 (o : Option Nat) (lo hi : Option V) : sliceL n s (.lst o rows) lo hi = cutV n rows lo hi (.lst none) := id rfl
@[simp, go_sem] theorem s182 (lo hi : Option V) : sliceL n s (.fz rows) lo hi = cutV n rows lo hi .fz := id rfl
@[simp, go_sem] theorem s183 (lo hi : Option V) : sliceL n s (.own p) lo hi = bnd (look p s.fro) fun rows => cutV n rows lo hi .fz := id rfl
@[simp, go_sem] theorem s184 (lo hi : Option V) (g : List (List D) → V) : cutV n rows lo hi g = bnd (bounds rows.length lo hi) fun p => grd (wid n rows = true) (some (g ((rows.drop p.1).take (p.2 - p.1)))) := id rfl
@[simp, go_sem] theorem s185 : wid n [] = true := id rfl
@[simp, go_sem] theorem s186 (r : List D) : wid n (r :: rows) = (decide (r.length = n) && r.all oneD && wid n rows) := id rfl
@[simp, go_sem] theorem s187 (fs : Array Field) : fieldD P n (.struct fs) = bnd fs[n]? fun d => grd (P.cellsOf d.type ≠ 0) (some (d.offset, d.type)) := id rfl
@[simp, go_sem] theorem s188 : addOff (.ref n m) p = some (.ref n (m + p)) := id rfl
@[simp, go_sem] theorem s189 : addOff (.pe x kk n m) p = some (.pe x kk n (m + p)) := id rfl
@[simp, go_sem] theorem s190 : elemD (.slice n) = some (n, none) := id rfl
@[simp, go_sem] theorem s191 : elemD (.array n m) = some (m, some n) := id rfl
@[simp, go_sem] theorem s192 (i : Int) : indexAddrV P s x i n (some m) = grd (sizedT P n = true ∧ 0 ≤ i ∧ i < m) (addOff x (i.toNat * P.cellsOf n)) := id rfl
@[simp, go_sem] theorem s193 (i : Int) : indexAddrV P s x i n none = bnd (s.rows x) fun rows => grd (sizedT P n = true ∧ 0 ≤ i ∧ i < rows.length) (some (.pe x (P.cellsOf n) i.toNat 0)) := id rfl
@[simp, go_sem] theorem s194 (u : ByteArray) (i : Int) : indexV P n (.v (.string u)) i = bnd (P.underlying n) fun d => grd (isStrD d = true ∧ 0 ≤ i ∧ i < u.size) (some (.v (.int .u8 ((u.toList[i.toNat]?.getD 0).toNat : Int)))) := id rfl
@[simp, go_sem] theorem s195 : isStrD .string = true := id rfl
@[simp, go_sem] theorem s196 (i : Int) : indexV P n (.agg vs) i = bnd (elemOfT P n) fun e => bnd e.2 fun n => grd (sizedT P e.1 = true ∧ 0 ≤ i ∧ i < n) (bnd (aggT P e.1) fun g => span vs (i.toNat * P.cellsOf e.1) (P.cellsOf e.1) g) := id rfl
@[simp, go_sem] theorem s197 (z : Value) : packV (.v z) = some (.a z) := id rfl
@[simp, go_sem] theorem s198 : packV .nil = some (.l []) := id rfl
@[simp, go_sem] theorem s199 (z : Value) : mentions p (.v z) = false := id rfl
@[simp, go_sem] theorem s200 : mentions p .nil = false := id rfl
@[simp, go_sem] theorem s201 (o : Option Nat) : mentions p (.lst o rows) = false := id rfl
@[simp, go_sem] theorem s202 : mentions p (.fz rows) = false := id rfl
@[simp, go_sem] theorem s203 (em : List (Int × Int)) : mentions p (.mp em) = false := id rfl
@[simp, go_sem] theorem s204 : mentions p (.own q) = decide (p = q) := id rfl
@[simp, go_sem] theorem s205 : mentions p (.inn q n m kk) = decide (p = q) := id rfl
@[simp, go_sem] theorem s206 : mentions p (.ref n m) = false := id rfl
@[simp, go_sem] theorem s207 : mentions p (.pe x kk n m) = mentions p x := id rfl
@[simp, go_sem] theorem s208 : mentions p (.agg vs) = mentions.any p vs := id rfl
@[simp, go_sem] theorem s209 : mentions p (.tup vs) = mentions.any p vs := id rfl
@[simp, go_sem] theorem s210 : mentions p (.fn n vs) = mentions.any p vs := id rfl
@[simp, go_sem] theorem s211 : mentions p .dead = false := id rfl
@[simp, go_sem] theorem s212 : mentions.any p [] = false := id rfl
@[simp, go_sem] theorem s213 : mentions.any p (x :: vs) = (mentions p x || mentions.any p vs) := id rfl
@[simp, go_sem] theorem s214 : killE p [] = [] := id rfl
@[simp, go_sem] theorem s215 : killE p ((n, x) :: e) = (n, if mentions p x = true then .dead else x) :: killE p e := id rfl
@[simp, go_sem] theorem s216 : killC p [] = [] := id rfl
@[simp, go_sem] theorem s217 : killC p (x :: vs) = (if mentions p x = true then .dead else x) :: killC p vs := id rfl
@[simp, go_sem] theorem s218 : killB p [] = [] := id rfl
@[simp, go_sem] theorem s219 : killB p ((n, vs) :: b) = (n, killC p vs) :: killB p b := id rfl
@[simp, go_sem] theorem s220 : S.kill ⟨e, b, t, f⟩ p = ⟨killE p e, killB p b, drop1 p t, f⟩ := id rfl
@[simp, go_sem] theorem s221 : packRow s [] = some ([], s) := id rfl
@[simp, go_sem] theorem s222 : packRow s (.own p :: vs) = bnd (look p s.tree) fun rows => bnd (packRow (s.kill p) vs) fun x => some (.l rows :: x.1, x.2) := id rfl
@[simp, go_sem] theorem s223 (z : Value) : packRow s (.v z :: vs) = bnd (packRow s vs) fun x => some (.a z :: x.1, x.2) := id rfl
@[simp, go_sem] theorem s224 : packRow s (.nil :: vs) = bnd (packRow s vs) fun x => some (.l [] :: x.1, x.2) := id rfl
@[simp, go_sem] theorem s225 : packRows s [] = some ([], s) := id rfl
@[simp, go_sem] theorem s226 : packRows s (x :: vs) = bnd (packRow s x.cells) fun x => bnd (packRows x.2 vs) fun y => some (x.1 :: y.1, y.2) := id rfl
@[simp, go_sem] theorem s227 : fresh ⟨e, b, t, f⟩ n = ((look n t).isNone && (look n f).isNone) := id rfl
@[simp, go_sem] theorem s228 : S.newTree ⟨e, b, t, f⟩ (some n) rows = grd (fresh ⟨e, b, t, f⟩ n = true) (some ⟨put n (.own n) e, b, (n, rows) :: t, f⟩) := id rfl
@[simp, go_sem] theorem s229 : upto n m [] = decide (n = m) := id rfl
@[simp, go_sem] theorem s230 (r : List Nat) : upto n m (p :: r) = (decide (p = n) && upto (n + 1) m r) := id rfl
@[simp, go_sem] theorem s231 : rowsFlat [] = true := id rfl
@[simp, go_sem] theorem s232 (r : List D) : rowsFlat (r :: rows) = (r.all flatD && rowsFlat rows) := id rfl
@[simp, go_sem] theorem s233 (u : ByteArray) : srcV s (.v (.string u)) = some (u.toList.map fun c => [.a (.int .u8 (c.toNat : Int))], s) := id rfl
@[simp, go_sem] theorem s234 : srcV s .nil = some ([], s) := id rfl
@[simp, go_sem] theorem s235 (o : Option Nat) : srcV s (.lst o rows) = grd (rowsFlat rows = true) (some (rows, s)) := id rfl
@[simp, go_sem] theorem s236 : srcV s (.fz rows) = grd (rowsFlat rows = true) (some (rows, s)) := id rfl
@[simp, go_sem] theorem s237 : srcV s (.own q) = srcOwn s q (look q s.tree) := id rfl
@[simp, go_sem] theorem s238 : srcV s (.inn p q n m) = bnd (s.rows (.inn p q n m)) fun rows => grd (rowsFlat rows = true) (some (rows, s)) := id rfl
@[simp, go_sem] theorem s239 : srcOwn s q (some rows) = some (rows, if rowsFlat rows = true then s else s.kill q) := id rfl
@[simp, go_sem] theorem s240 : srcOwn s q none = bnd (look q s.fro) fun rows => grd (rowsFlat rows = true) (some (rows, s)) := id rfl
@[simp, go_sem] theorem s241 : sizeOk P n m = (zeroOk P n && decide (m * P.bytesOf n ≤ 140737488355328) && decide (m ≤ 4611686018427387904)) := id rfl
@[simp, go_sem] theorem s242 : appendTo P s dst n rows .nil = grd (sizeOk P n rows.length = true ∧ wid (P.cellsOf n) rows = true) (s.newTree dst rows) := id rfl
@[simp, go_sem] theorem s243 : appendTo P s dst n rows (.own p) = bnd (look p s.tree) fun rows1 => grd (sizeOk P n (rows1.length + rows.length) = true ∧ wid (P.cellsOf n) rows1 = true ∧ wid (P.cellsOf n) rows = true) ((s.kill p).newTree dst (rows1 ++ rows)) := id rfl
@[simp, go_sem] theorem s244 : appendTo P s dst n rows (.inn p q m kk) = bnd (s.rows (.inn p q m kk)) fun rows1 => grd (sizeOk P n (rows1.length + rows.length) = true ∧ wid (P.cellsOf n) rows1 = true ∧ wid (P.cellsOf n) rows = true) (bnd (s.takeInn p q m) fun s => s.newTree dst (rows1 ++ rows)) := id rfl
@[simp, go_sem] theorem s245 : s.takeInn p q m = bnd (look p s.tree) fun rows => bnd rows[q]? fun r => grd (¬ (1000000000 ≤ p ∧ p < 2000000000)) (some (s.turned p (rows.set q (r.set m .gone)))) := id rfl
@[simp, go_sem] theorem s246 : sliceElem (.slice n) = some n := id rfl
@[simp, go_sem] theorem s247 : appendV P s dst n x y = bnd (P.underlying n) fun d => bnd (sliceElem d) fun e => bnd (srcV s y) fun z => appendTo P z.2 dst e z.1 x := id rfl
end
section
variable (s : S) (c : Lend) (src : List V) (bs ts : List Nat) (n m p q kk : Nat) (x y : V) (vs ws : List V) (rows : List (List D)) (dst : Option Nat)
@[simp, go_sem] theorem s248 (z : Value) : lendV s c (.v z) = some (.v z, c) := id rfl
@[simp, go_sem] theorem s249 : lendV s ⟨src, bs, ts⟩ (.ref n m) = lendRef src bs ts n m (pos n bs 0) := id rfl
@[simp, go_sem] theorem s250 : lendRef src bs ts n m (some p) = some (.ref p m, ⟨src, bs, ts⟩) := id rfl
@[simp, go_sem] theorem s251 : lendRef src bs ts n m none = some (.ref bs.length m, ⟨src, bs ++ [n], ts⟩) := id rfl
@[simp, go_sem] theorem s252 : lendV s c (.agg vs) = bnd (lendL s c vs) fun x => some (.agg x.1, x.2) := id rfl
@[simp, go_sem] theorem s253 : lendV s c (.fn n vs) = bnd (lendL s c vs) fun x => some (.fn n x.1, x.2) := id rfl
@[simp, go_sem] theorem s254 : lendV s ⟨src, bs, ts⟩ .nil = some (.lst (some src.length) [], ⟨src ++ [.nil], bs, ts⟩) := id rfl
@[simp, go_sem] theorem s255 (o : Option Nat) : lendV s ⟨src, bs, ts⟩ (.lst o rows) = some (.lst (some src.length) rows, ⟨src ++ [.lst o rows], bs, ts⟩) := id rfl
@[simp, go_sem] theorem s256 : lendV s ⟨src, bs, ts⟩ (.fz rows) = some (.lst (some src.length) rows, ⟨src ++ [.fz rows], bs, ts⟩) := id rfl
@[simp, go_sem] theorem s257 : lendV s ⟨src, bs, ts⟩ (.own p) = bnd (s.rows (.own p)) fun rows => some (.lst (some src.length) rows, ⟨src ++ [.own p], bs, ts⟩) := id rfl
@[simp, go_sem] theorem s258 : lendV s ⟨src, bs, ts⟩ (.inn p q n m) = bnd (s.rows (.inn p q n m)) fun rows => some (.lst (some src.length) rows, ⟨src ++ [.inn p q n m], bs, ts⟩) := id rfl
@[simp, go_sem] theorem s259 : lendL s c [] = some ([], c) := id rfl
@[simp, go_sem] theorem s260 : lendL s c (x :: vs) = bnd (lendV s c x) fun x => bnd (lendL s x.2 vs) fun y => some (x.1 :: y.1, y.2) := id rfl
@[simp, go_sem] theorem s261 : lendCells s c [] = some ([], c) := id rfl
@[simp, go_sem] theorem s262 : lendCells s ⟨src, bs, ts⟩ (.own p :: vs) = lendOwn src bs ts p (fun c => lendCells s c vs) (pos p ts 0) (look p s.fro) := id rfl
@[simp, go_sem] theorem s263 (k : Lend → Option (List V × Lend)) : lendOwn src bs ts p k none (some rows) = bnd (k ⟨src ++ [.own p], bs, ts⟩) fun x => some (.lst (some src.length) rows :: x.1, x.2) := id rfl
@[simp, go_sem] theorem s264 (k : Lend → Option (List V × Lend)) : lendOwn src bs ts p k none none = bnd (k ⟨src, bs, ts ++ [p]⟩) fun x => some (.own ts.length :: x.1, x.2) := id rfl
@[simp, go_sem] theorem s265 : lendCells s c (.dead :: vs) = bnd (lendCells s c vs) fun x => some (.dead :: x.1, x.2) := id rfl
@[simp, go_sem] theorem s266 (z : Value) : lendCells s c (.v z :: vs) = bnd (lendV s c (.v z)) fun x => bnd (lendCells s x.2 vs) fun y => some (x.1 :: y.1, y.2) := id rfl
@[simp, go_sem] theorem s267 : lendCells s c (.nil :: vs) = bnd (lendV s c (.nil)) fun x => bnd (lendCells s x.2 vs) fun y => some (x.1 :: y.1, y.2) := id rfl
@[simp, go_sem] theorem s268 (o : Option Nat) : lendCells s c (.lst o rows :: vs) = bnd (lendV s c (.lst o rows)) fun x => bnd (lendCells s x.2 vs) fun y => some (x.1 :: y.1, y.2) := id rfl
@[simp, go_sem] theorem s269 : lendCells s c (.fz rows :: vs) = bnd (lendV s c (.fz rows)) fun x => bnd (lendCells s x.2 vs) fun y => some (x.1 :: y.1, y.2) := id rfl
@[simp, go_sem] theorem s270 : lendCells s c (.inn p n m q :: vs) = bnd (lendV s c (.inn p n m q)) fun x => bnd (lendCells s x.2 vs) fun y => some (x.1 :: y.1, y.2) := id rfl
@[simp, go_sem] theorem s271 : lendCells s c (.ref n m :: vs) = bnd (lendV s c (.ref n m)) fun x => bnd (lendCells s x.2 vs) fun y => some (x.1 :: y.1, y.2) := id rfl
@[simp, go_sem] theorem s272 : lendCells s c (.fn n ws :: vs) = bnd (lendV s c (.fn n ws)) fun x => bnd (lendCells s x.2 vs) fun y => some (x.1 :: y.1, y.2) := id rfl
@[simp, go_sem] theorem s273 : lendBoxes s c [] = some ([], c) := id rfl
@[simp, go_sem] theorem s274 : lendBoxes s c (n :: bs) = bnd (look n s.box) fun cs => bnd (lendCells s c cs) fun x => bnd (lendBoxes s x.2 bs) fun y => some (x.1 :: y.1, y.2) := id rfl
@[simp, go_sem] theorem s275 : stable .nil = true := id rfl
@[simp, go_sem] theorem s276 (o : Option Nat) : stable (.lst o rows) = true := id rfl
@[simp, go_sem] theorem s277 : stable (.own p) = false := id rfl
@[simp, go_sem] theorem s278 : stable (.inn p n m q) = false := id rfl
@[simp, go_sem] theorem s279 : stable (.fz rows) = false := id rfl
@[simp, go_sem] theorem s280 : nameOf c n q = nameIn n q c.tree[q]? := id rfl
@[simp, go_sem] theorem s281 : nameIn n q (some p) = p := id rfl
@[simp, go_sem] theorem s282 : nameIn n q none = 1000 * (n + 1) + q := id rfl
@[simp, go_sem] theorem s283 (z : Value) : backV c n (.v z) = some (.v z) := id rfl
@[simp, go_sem] theorem s284 : backV c n .nil = some .nil := id rfl
@[simp, go_sem] theorem s285 : backV c n (.lst (some m) rows) = c.src[m]? := id rfl
@[simp, go_sem] theorem s286 : backV c n (.lst none rows) = grd (c.src.all stable = true) (some (.lst none rows)) := id rfl
@[simp, go_sem] theorem s287 : backV c n (.own q) = some (.own (nameOf c n q)) := id rfl
@[simp, go_sem] theorem s288 : backV c n (.ref p m) = bnd c.box[p]? fun b => some (.ref b m) := id rfl
@[simp, go_sem] theorem s289 : backV c n (.agg vs) = bnd (backL c n vs) fun cs => some (.agg cs) := id rfl
@[simp, go_sem] theorem s290 : backV c n (.tup vs) = bnd (backL c n vs) fun cs => some (.tup cs) := id rfl
@[simp, go_sem] theorem s291 : backV c n .dead = some .dead := id rfl
@[simp, go_sem] theorem s292 : backL c n [] = some [] := id rfl
@[simp, go_sem] theorem s293 : backL c n (x :: vs) = bnd (backV c n x) fun v => bnd (backL c n vs) fun r => some (v :: r) := id rfl
@[simp, go_sem] theorem s294 : backBoxes c n [] [] s = some s := id rfl
@[simp, go_sem] theorem s295 (vss : List (List V)) (e : List (Nat × V)) (b : List (Nat × List V)) (t f : List (Nat × List (List D))) : backBoxes c n (p :: bs) (vs :: vss) ⟨e, b, t, f⟩ = bnd (backL c n vs) fun cs => backBoxes c n bs vss ⟨e, upd p cs b, t, f⟩ := id rfl
@[simp, go_sem] theorem s296 : addTrees c n [] s = some s := id rfl
@[simp, go_sem] theorem s297 (r : List (Nat × List (List D))) (e : List (Nat × V)) (b : List (Nat × List V)) (t f : List (Nat × List (List D))) : addTrees c n ((q, rows) :: r) ⟨e, b, t, f⟩ = if q < c.tree.length then addTrees c n r ⟨e, b, t, f⟩ else grd (fresh ⟨e, b, t, f⟩ (nameOf c n q) = true ∧ nameOf c n q < 1000000000) (addTrees c n r ⟨e, b, (nameOf c n q, rows) :: t, f⟩) := id rfl
@[simp, go_sem] theorem s298 : lentTrees s [] = some [] := id rfl
@[simp, go_sem] theorem s299 : lentTrees s (p :: ts) = bnd (look p s.tree) fun rows => bnd (lentTrees s ts) fun r => some (rows :: r) := id rfl
@[simp, go_sem] theorem s300 (l : List (Nat × List (List D))) : backTrees l [] n s = s := id rfl
@[simp, go_sem] theorem s301 (l : List (Nat × List (List D))) : backTrees l (p :: ts) n s = backTrees l ts (n + 1) (backOne s p (look n l)) := id rfl
@[simp, go_sem] theorem s302 (e : List (Nat × V)) (b : List (Nat × List V)) (t f : List (Nat × List (List D))) : backOne ⟨e, b, t, f⟩ p (some rows) = ⟨e, b, upd p rows t, f⟩ := id rfl
@[simp, go_sem] theorem s303 : backOne s p none = s.kill p := id rfl
@[simp, go_sem] theorem s304 (r : Res) : S.back s dst c r = bnd (backBoxes c (dst.getD 0) c.box r.box (backTrees r.tree c.tree 0 s)) fun s => bnd (addTrees c (dst.getD 0) r.tree s) fun s => bnd (backV c (dst.getD 0) r.val) fun v => some (s.put dst v) := id rfl
@[simp, go_sem] theorem s305 : lendOk c n = (noMix c && decide (c.box.length = n)) := id rfl
@[simp, go_sem] theorem s306 : noMix c = (c.tree.all fun p => c.src.all fun v => !mentions p v) := id rfl
@[simp, go_sem] theorem s307 : lendA true s c vs = lendM s c vs := id rfl
@[simp, go_sem] theorem s308 : lendA false s c vs = lendL s c vs := id rfl
@[simp, go_sem] theorem s309 : lendM s c [] = some ([], c) := id rfl
@[simp, go_sem] theorem s310 : lendM s c (.agg ws :: vs) = bnd (lendCells s c ws) fun x => bnd (lendM s x.2 vs) fun y => some (.agg x.1 :: y.1, y.2) := id rfl
@[simp, go_sem] theorem s311 (z : Value) : lendM s c (.v z :: vs) = bnd (lendCells s c [.v z]) fun x => bnd (lendM s x.2 vs) fun y => some (x.1 ++ y.1, y.2) := id rfl
@[simp, go_sem] theorem s312 : lendM s c (.nil :: vs) = bnd (lendCells s c [.nil]) fun x => bnd (lendM s x.2 vs) fun y => some (x.1 ++ y.1, y.2) := id rfl
@[simp, go_sem] theorem s313 (o : Option Nat) : lendM s c (.lst o rows :: vs) = bnd (lendCells s c [.lst o rows]) fun x => bnd (lendM s x.2 vs) fun y => some (x.1 ++ y.1, y.2) := id rfl
@[simp, go_sem] theorem s314 : lendM s c (.fz rows :: vs) = bnd (lendCells s c [.fz rows]) fun x => bnd (lendM s x.2 vs) fun y => some (x.1 ++ y.1, y.2) := id rfl
@[simp, go_sem] theorem s315 : lendM s c (.own p :: vs) = bnd (lendCells s c [.own p]) fun x => bnd (lendM s x.2 vs) fun y => some (x.1 ++ y.1, y.2) := id rfl
@[simp, go_sem] theorem s316 : lendM s c (.inn p n m q :: vs) = bnd (lendCells s c [.inn p n m q]) fun x => bnd (lendM s x.2 vs) fun y => some (x.1 ++ y.1, y.2) := id rfl
@[simp, go_sem] theorem s317 : lendM s c (.ref n m :: vs) = bnd (lendCells s c [.ref n m]) fun x => bnd (lendM s x.2 vs) fun y => some (x.1 ++ y.1, y.2) := id rfl
@[simp, go_sem] theorem s318 : lendM s c (.fn n ws :: vs) = bnd (lendCells s c [.fn n ws]) fun x => bnd (lendM s x.2 vs) fun y => some (x.1 ++ y.1, y.2) := id rfl
@[simp, go_sem] theorem s319 (mm : Bool) (M : Mean) : callV mm M s dst vs = bnd (lendA mm s ⟨[], [], []⟩ vs) fun x => bnd (lendBoxes s x.2 x.2.box) fun y => bnd (lentTrees s y.2.tree) fun ts => grd (lendOk y.2 y.1.length = true) (bnd (M x.1 y.1 ts) fun r => s.backX dst y.2 r) := id rfl
@[simp, go_sem] theorem s320 (cc : Lend) (rr : Res) : S.backX s dst cc rr = backNew s dst cc rr (isNew rr) := id rfl
@[simp, go_sem] theorem s321 (cc : Lend) (rr : Res) : backNew s dst cc rr none = s.back dst cc rr := id rfl
@[simp, go_sem] theorem s322 (cc : Lend) (rr : Res) : backNew s dst cc rr (some vs) = if (cc.box.isEmpty && cc.tree.isEmpty) = true then bnd (backL cc (dst.getD 0) vs) (newBox1 s dst) else s.back dst cc rr := id rfl
@[simp, go_sem] theorem s323 : isNew ⟨.ref 0 0, [vs], []⟩ = some vs := id rfl
@[simp, go_sem] theorem s324 (tr : List (Nat × List (List D))) : isNew ⟨x, [], tr⟩ = none := isNew_nil _ _
@[simp, go_sem] theorem s325 (bs : List (List V)) (tr : List (Nat × List (List D))) (z : Value) : isNew ⟨.v z, bs, tr⟩ = none := id rfl
@[simp, go_sem] theorem s326 (bs : List (List V)) (tr : List (Nat × List (List D)))  : isNew ⟨.own p, bs, tr⟩ = none := id rfl
@[simp, go_sem] theorem s327 (bs : List (List V)) (tr : List (Nat × List (List D)))  : isNew ⟨.agg ws, bs, tr⟩ = none := id rfl
@[simp, go_sem] theorem s328 (bs : List (List V)) (tr : List (Nat × List (List D)))  : isNew ⟨.tup ws, bs, tr⟩ = none := id rfl
@[simp, go_sem] theorem s329 (bs : List (List V)) (tr : List (Nat × List (List D)))  : isNew ⟨.nil, bs, tr⟩ = none := id rfl
@[simp, go_sem] theorem s330 (bs : List (List V)) (tr : List (Nat × List (List D)))  : isNew ⟨.dead, bs, tr⟩ = none := id rfl
@[simp, go_sem] theorem s331 (e : List (Nat × V)) (b : List (Nat × List V)) (t f : List (Nat × List (List D))) : newBox1 ⟨e, b, t, f⟩ (some n) vs = grd ((look n b).isNone = true) (some ⟨put n (.ref n 0) e, (n, vs) :: b, t, f⟩) := id rfl
end
section
variable (P : Program) (G : List (FuncId × Bool × Mean)) (s : S) (n m p q kk : Nat) (x y : V) (vs ws : List V) (rows : List (List D)) (dst : Option Nat) (ats : Array TypeId) (o o1 o2 : Operand)
@[simp, go_sem] theorem s332 (u : ByteArray) : builtinV P s dst .len ats [.v (.string u)] = bnd ats[0]? fun t => grd (strT P t = true) (some (s.put dst (.v (.int .i64 u.size)))) := id rfl
@[simp, go_sem] theorem s333 : builtinV P s dst .len ats [.nil] = bnd ats[0]? fun t => grd (lstT P t = true) (bnd (s.rows (.nil)) fun rows => some (s.put dst (.v (.int .i64 rows.length)))) := id rfl
@[simp, go_sem] theorem s334 (w : Option Nat) : builtinV P s dst .len ats [.lst w rows] = bnd ats[0]? fun t => grd (lstT P t = true) (bnd (s.rows (.lst w rows)) fun rows => some (s.put dst (.v (.int .i64 rows.length)))) := id rfl
@[simp, go_sem] theorem s335 : builtinV P s dst .len ats [.fz rows] = bnd ats[0]? fun t => grd (lstT P t = true) (bnd (s.rows (.fz rows)) fun rows => some (s.put dst (.v (.int .i64 rows.length)))) := id rfl
@[simp, go_sem] theorem s336 : builtinV P s dst .len ats [.own p] = bnd ats[0]? fun t => grd (lstT P t = true) (bnd (s.rows (.own p)) fun rows => some (s.put dst (.v (.int .i64 rows.length)))) := id rfl
@[simp, go_sem] theorem s337 : builtinV P s dst .len ats [.inn p n m q] = bnd ats[0]? fun t => grd (lstT P t = true) (bnd (s.rows (.inn p n m q)) fun rows => some (s.put dst (.v (.int .i64 rows.length)))) := id rfl
@[simp, go_sem] theorem s338 : builtinV P s dst .append ats [x, y] = bnd ats[0]? fun t => bnd ats[1]? fun t1 => grd (seqT P t1 = true) (appendV P s dst t x y) := id rfl
@[simp, go_sem] theorem s339 (a c : Int) : builtinV P s dst .max ats [.v (.int .i64 a), .v (.int .i64 c)] = some (s.put dst (.v (.int .i64 (max a c)))) := id rfl
@[simp, go_sem] theorem s340 (a c : Int) : builtinV P s dst .min ats [.v (.int .i64 a), .v (.int .i64 c)] = some (s.put dst (.v (.int .i64 (min a c)))) := id rfl
@[simp, go_sem] theorem s341 (a : Int) : bytesOfRow [.a (.int .u8 a)] = some (UInt8.ofNat a.toNat) := id rfl
@[simp, go_sem] theorem s342 (d0 : TypeDesc) : convS P s dst x d0 (.slice n) = bnd (P.underlying n) fun d => grd (isByteD d = true) (newBytes s dst x) := id rfl
@[simp, go_sem] theorem s343 (k : IntKind) (d0 : TypeDesc) : convS P s dst x d0 (.int k) = bnd (convD P s x d0 (.int k)) fun v => some (s.put dst v) := id rfl
@[simp, go_sem] theorem s344 (d0 : TypeDesc) : convS P s dst x d0 .string = bnd (convD P s x d0 .string) fun v => some (s.put dst v) := id rfl
@[simp, go_sem] theorem s345 (u : ByteArray) (e : List (Nat × V)) (b : List (Nat × List V)) (t f : List (Nat × List (List D))) : newBytes ⟨e, b, t, f⟩ (some n) (.v (.string u)) = grd (fresh ⟨e, b, t, f⟩ n = true ∧ u.size ≤ 4611686018427387904) (some ⟨put n (.fz (rowsOfStr u)) e, b, t, (n, []) :: f⟩) := id rfl
@[simp, go_sem] theorem s346 (k : IntKind) (d0 : TypeDesc) : convD P s x d0 (.int k) = bnd (idxOf x) fun n => some (.v (.int k (k.wrap n))) := id rfl
@[simp, go_sem] theorem s347 (u : ByteArray) (d0 : TypeDesc) : convD P s (.v (.string u)) d0 .string = some (.v (.string u)) := id rfl
@[simp, go_sem] theorem s348  (d0 : TypeDesc) : convD P s (.nil) d0 .string = bytesV P s (.nil) d0 := id rfl
@[simp, go_sem] theorem s349 (w : Option Nat) (d0 : TypeDesc) : convD P s (.lst w rows) d0 .string = bytesV P s (.lst w rows) d0 := id rfl
@[simp, go_sem] theorem s350  (d0 : TypeDesc) : convD P s (.fz rows) d0 .string = bytesV P s (.fz rows) d0 := id rfl
@[simp, go_sem] theorem s351  (d0 : TypeDesc) : convD P s (.own p) d0 .string = bytesV P s (.own p) d0 := id rfl
@[simp, go_sem] theorem s352  (d0 : TypeDesc) : convD P s (.inn p n m q) d0 .string = bytesV P s (.inn p n m q) d0 := id rfl
@[simp, go_sem] theorem s353 (d0 : TypeDesc) : bytesV P s x d0 = bnd (sliceElem d0) fun e => bnd (P.underlying e) fun d => grd (isByteD d = true) (bnd (s.rows x) fun rows => bnd (mapSome bytesOfRow rows) fun l => some (.v (.string ⟨l.toArray⟩))) := id rfl
@[simp, go_sem] theorem s354 : isByteD (.int .u8) = true := id rfl
@[simp, go_sem] theorem s355 (fs : Array Field) : placeP P (.flds fs) n = bnd fs[n]? fun f => some (f.offset, P.cellsOf f.type) := id rfl
@[simp, go_sem] theorem s356 : placeP P (.arr m) n = some (n * P.cellsOf m, P.cellsOf m) := id rfl
@[simp, go_sem] theorem s357 (fs : Parts) : fillRow P fs vs [] = some vs := id rfl
@[simp, go_sem] theorem s358 (fs : Parts) (r : List (Nat × V)) : fillRow P fs vs ((n, x) :: r) = bnd (placeP P fs n) fun f => grd (x.cells.length = f.2 ∧ f.1 + x.cells.length ≤ vs.length ∧ x.cells.all V.one = true) (fillRow P fs (setAt vs f.1 x.cells) r) := id rfl
@[simp, go_sem] theorem s359 (fs : Array Field) : structD (.struct fs) = some (.flds fs) := id rfl
@[simp, go_sem] theorem s360 : structD (.array n m) = some (.arr m) := id rfl
@[simp, go_sem] theorem s361 : evPair s (n, o) = bnd (s.ev o) fun v => some (n, v) := id rfl
@[simp, go_sem] theorem s362 : evOptOp s none = some none := id rfl
@[simp, go_sem] theorem s363 : evOptOp s (some o) = bnd (s.ev o) fun v => some (some v) := id rfl
@[simp, go_sem] theorem s364 : nilOk (.ref n m) = some (.ref n m) := id rfl
@[simp, go_sem] theorem s365 : nilOk (.pe x kk n m) = some (.pe x kk n m) := id rfl
@[simp, go_sem] theorem s366 : tupAt n (.tup vs) = vs[n]? := id rfl
@[simp, go_sem] theorem s367 : aggOf (.agg vs) = some vs := id rfl
@[simp, go_sem] theorem s368 : fnOf (.fn n vs) = some (n, vs) := id rfl
@[simp, go_sem] theorem s369 (e : List (Nat × V)) (b : List (Nat × List V)) (t f : List (Nat × List (List D))) : S.newBox ⟨e, b, t, f⟩ (some n) vs = grd ((look n b).isNone = true) (some ⟨put n (.ref n 0) e, (n, vs) :: b, t, f⟩) := id rfl
@[simp, go_sem] theorem s370 (z : Value) : plainV (.v z) = true := id rfl
@[simp, go_sem] theorem s371 (M : Mean) : callX false M s dst vs = callV false M s dst vs := by unfold callX; split; rw [if_neg (by simp)]; rfl
@[simp, go_sem] theorem s372 (M : Mean) : callX true M s dst [] = callV true M s dst [] := id rfl
@[simp, go_sem] theorem s373 (M : Mean) : callX true M s dst (.inn n m p q :: vs) = callI M s dst n m p q vs := id rfl
@[simp, go_sem] theorem s374 (M : Mean) (z : Value) : callX true M s dst (.v z :: vs) = callV true M s dst (.v z :: vs) := id rfl
@[simp, go_sem] theorem s375 (M : Mean)  : callX true M s dst (.nil :: vs) = callV true M s dst (.nil :: vs) := id rfl
@[simp, go_sem] theorem s376 (M : Mean) (o : Option Nat) : callX true M s dst (.lst o rows :: vs) = callV true M s dst (.lst o rows :: vs) := id rfl
@[simp, go_sem] theorem s377 (M : Mean)  : callX true M s dst (.fz rows :: vs) = callV true M s dst (.fz rows :: vs) := id rfl
@[simp, go_sem] theorem s378 (M : Mean)  : callX true M s dst (.own p :: vs) = callV true M s dst (.own p :: vs) := id rfl
@[simp, go_sem] theorem s379 (M : Mean)  : callX true M s dst (.agg ws :: vs) = callV true M s dst (.agg ws :: vs) := id rfl
@[simp, go_sem] theorem s380 (M : Mean)  : callX true M s dst (.ref n m :: vs) = callV true M s dst (.ref n m :: vs) := id rfl
@[simp, go_sem] theorem s381 (M : Mean)  : callX true M s dst (.fn n ws :: vs) = callV true M s dst (.fn n ws :: vs) := id rfl
@[simp, go_sem] theorem s382 (M : Mean) : callI M s dst p n m q vs = bnd (look p s.tree) fun rows => bnd rows[n]? fun r => bnd r[m]? fun d => bnd (rowsD d) fun rs => grd (r.length = q ∧ vs.all plainV = true) (bnd (M (.own 0 :: vs) [] [rs]) (innBack s dst p n m rows r)) := id rfl
@[simp, go_sem] theorem s383 (r : List D) (rs : List (List D)) (e : List (Nat × V)) (b : List (Nat × List V)) (t f : List (Nat × List (List D))) : innBack ⟨e, b, t, f⟩ dst p n m rows r ⟨x, [], [(0, rs)]⟩ = grd (plainV x = true) (some (S.put ⟨e, b, upd p (rows.set n (r.set m (.l rs))) t, f⟩ dst x)) := id rfl
@[simp, go_sem] theorem s384 (z : Builtin) : evCall P G s dst ats vs (.builtin z) = builtinV P s dst z ats vs := id rfl
@[simp, go_sem] theorem s385 : evCall P G s dst ats vs (.value o) = bnd (s.ev o) fun f => bnd (fnOf f) fun f => bnd (look f.1 G) fun M => callX M.1 M.2 s dst (vs ++ f.2) := id rfl
@[simp, go_sem] theorem s386 : evOp P G s dst (.move o) = bnd (s.ev o) fun v => some (s.put dst v) := id rfl
@[simp, go_sem] theorem s387 : evOp P G s dst (.assign o) = bnd (s.ev o) fun v => some (s.put dst v) := id rfl
@[simp, go_sem] theorem s388 : evOp P G s dst (.pick o o1 o2) = bnd (s.ev o) fun c => bnd (boolOf c) fun b => bnd (s.ev (if b then o1 else o2)) fun v => some (s.put dst v) := id rfl
@[simp, go_sem] theorem s389 : evOp P G s dst (.alloc n) = bnd (zeroV P n) fun cs => s.newBox dst cs := id rfl
@[simp, go_sem] theorem s390 : evOp P G s dst (.box n o) = bnd (s.ev o) fun v => grd (v.cells.length = P.cellsOf n ∧ v.cells.all V.one = true) (s.newBox dst v.cells) := id rfl
@[simp, go_sem] theorem s391 : evOp P G s dst (.load n o) = bnd (s.ev o) fun p => bnd (s.load P n p) fun v => some (s.put dst v) := id rfl
@[simp, go_sem] theorem s392 : evOp P G s dst (.store n o o1) = bnd (s.ev o) fun p => bnd (s.ev o1) fun v => bnd (s.store P n p v) fun s => some (s.skip dst) := id rfl
@[simp, go_sem] theorem s393 : evOp P G s dst (.nilCheck o) = bnd (s.ev o) fun v => bnd (nilOk v) fun v => some (s.put dst v) := id rfl
@[simp, go_sem] theorem s394 : evOp P G s dst (.fieldAddr n o m) = bnd (s.ev o) fun x => bnd (fieldOf P n m) fun f => bnd (addOff x f.1) fun v => some (s.put dst v) := id rfl
@[simp, go_sem] theorem s395 : evOp P G s dst (.field n o m) = bnd (s.ev o) fun x => bnd (aggOf x) fun cs => bnd (fieldOf P n m) fun f => bnd (aggT P f.2) fun g => bnd (span cs f.1 (P.cellsOf f.2) g) fun v => some (s.put dst v) := id rfl
@[simp, go_sem] theorem s396 : evOp P G s dst (.indexAddr n o o1) = bnd (s.ev o) fun x => bnd (s.ev o1) fun i => bnd (idxOf i) fun i => bnd (elemOfT P n) fun e => bnd (indexAddrV P s x i e.1 e.2) fun v => some (s.put dst v) := id rfl
@[simp, go_sem] theorem s397 : evOp P G s dst (.index n o o1) = bnd (s.ev o) fun x => bnd (s.ev o1) fun i => bnd (idxOf i) fun i => bnd (indexV P n x i) fun v => some (s.put dst v) := id rfl
@[simp, go_sem] theorem s398 : evOp P G s dst (.extract o n) = bnd (s.ev o) fun x => bnd (tupAt n x) fun v => some (s.put dst v) := id rfl
@[simp, go_sem] theorem s399 : evOp P G s dst (.convert n m o) = bnd (s.ev o) fun x => bnd (P.underlying n) fun d0 => bnd (P.underlying m) fun d => convS P s dst x d0 d := id rfl
@[simp, go_sem] theorem s400 (ps : Array (Nat × Operand)) : evOp P G s dst (.build n ps) = bnd (P.underlying n) fun d => bnd (structD d) fun fs => grd (fieldsOk P n = true) (bnd (zeroV P n) fun z => bnd (mapSome (evPair s) ps.toList) fun vs => bnd (fillRow P fs z vs) fun cs => some (s.put dst (.agg cs))) := id rfl
@[simp, go_sem] theorem s401 (ps : Array (Nat × Operand)) : evOp P G s dst (.buildSlice n m ps) = bnd (P.underlying n) fun d => bnd (sliceElem d) fun e => bnd (mapSome (evPair s) ps.toList) fun vs => grd ((zeroOk P e && decide (m * P.cellsOf e ≤ 16777216) && upto 0 m (vs.map (·.1)) && vs.all fun v => decide (v.2.cells.length = P.cellsOf e) && v.2.cells.all V.one) = true) (bnd (packRows s (vs.map (·.2))) fun x => x.2.newTree dst x.1) := id rfl
@[simp, go_sem] theorem s402 (z : BinOp) : evOp P G s dst (.binOp z n o o1 m) = bnd (s.ev o) fun x => bnd (s.ev o1) fun y => bnd (bin P n z x y) fun v => some (s.put dst v) := id rfl
@[simp, go_sem] theorem s403 (z : UnOp) : evOp P G s dst (.unOp z n o) = bnd (s.ev o) fun x => bnd (un z x) fun v => some (s.put dst v) := id rfl
@[simp, go_sem] theorem s404 (lo hi : Option Operand) : evOp P G s dst (.slice n o lo hi none) = bnd (s.ev o) fun x => bnd (evOptOp s lo) fun l => bnd (evOptOp s hi) fun h => bnd (P.underlying n) fun d => sliceS P s dst x l h d := id rfl
@[simp, go_sem] theorem s405 (ol oh : Option V) (dd : TypeDesc) : sliceS P s dst (.own p) ol oh dd = cutS P s dst p ol oh dd (look p s.fro) := id rfl
@[simp, go_sem] theorem s406 (ol oh : Option V) (dd : TypeDesc) : cutS P s dst p ol oh dd (some rows) = bnd (sliceV P s (.own p) ol oh dd) fun v => some (s.put dst v) := id rfl
@[simp, go_sem] theorem s407 (ol oh : Option V) (dd : TypeDesc) : cutS P s dst p ol oh dd none = cutT P s dst p ol oh dd (look p s.tree) := id rfl
@[simp, go_sem] theorem s408 (ol oh : Option V) (dd : TypeDesc) : cutT P s dst p ol oh dd (some rows) = cutP P s dst p rows ol oh dd := id rfl
@[simp, go_sem] theorem s409 (ol oh : Option V) : cutP P s dst p rows ol oh (.slice n) = grd (sizedT P n = true) (cutOwn s dst (P.cellsOf n) p rows ol oh) := id rfl
@[simp, go_sem] theorem s410 (ol oh : Option V) : cutOwn s dst kk p rows ol oh = bnd (bounds rows.length ol oh) fun q => grd (q.1 < q.2 ∧ wid kk rows = true) ((s.kill p).newTree dst ((rows.drop q.1).take (q.2 - q.1))) := id rfl
@[simp, go_sem] theorem s411 (ol oh : Option V) (dd : TypeDesc)  : sliceS P s dst (.nil) ol oh dd = bnd (sliceV P s (.nil) ol oh dd) fun v => some (s.put dst v) := id rfl
@[simp, go_sem] theorem s412 (ol oh : Option V) (dd : TypeDesc) (w : Option Nat) : sliceS P s dst (.lst w rows) ol oh dd = bnd (sliceV P s (.lst w rows) ol oh dd) fun v => some (s.put dst v) := id rfl
@[simp, go_sem] theorem s413 (ol oh : Option V) (dd : TypeDesc)  : sliceS P s dst (.fz rows) ol oh dd = bnd (sliceV P s (.fz rows) ol oh dd) fun v => some (s.put dst v) := id rfl
@[simp, go_sem] theorem s414 (ol oh : Option V) (dd : TypeDesc) (z : Value) : sliceS P s dst (.v z) ol oh dd = bnd (sliceV P s (.v z) ol oh dd) fun v => some (s.put dst v) := id rfl
@[simp, go_sem] theorem s415 : evOp P G s dst (.makeSlice n o o1) = bnd (s.ev o) fun n1 => bnd (s.ev o1) fun c => evMake P s dst n n1 c := id rfl
@[simp, go_sem] theorem s416 : evMake P s dst n x y = bnd (P.underlying n) fun d => bnd (sliceElem d) fun e => bnd (idxOf x) fun l => bnd (idxOf y) fun cc => grd (zeroOk P e = true ∧ 0 ≤ l ∧ l = cc ∧ l.toNat * P.bytesOf e ≤ 140737488355328 ∧ l ≤ 4611686018427387904) (bnd (zeroV P e) fun z => bnd (mapSome packV z) fun r => s.newTree dst (List.replicate l.toNat r)) := id rfl
@[simp, go_sem] theorem s417 (c : Call) : evOp P G s dst (.call c) = bnd (mapSome s.ev c.args.toList) fun args => evCall P G s dst c.argTypes args c.callee := id rfl
@[simp, go_sem] theorem s418 (ops : Array Oper) : S.wants ops s none = some true := id rfl
@[simp, go_sem] theorem s419 (ops : Array Oper) (g : Bool) : S.wants ops s (some (n, g)) = wantsAt s g ((ops[n]?).bind (·.dst)) := id rfl
@[simp, go_sem] theorem s420 (g : Bool) : wantsAt s g (some n) = wantsV g (look n s.env) := id rfl
@[simp, go_sem] theorem s421 (g : Bool) : wantsV g none = none := id rfl
@[simp, go_sem] theorem s422 (g : Bool) : wantsV g (some (.tup [])) = some false := id rfl
@[simp, go_sem] theorem s423 (g h : Bool) : wantsV g (some (.v (.bool h))) = some (h == g) := id rfl
end
section
variable (l : List Nat) (mp : List (Nat × Nat)) (n m p q kk : Nat) (x y : V) (vs ws : List V) (rows : List (List D))
@[simp, go_sem] theorem s424 : renV mp (.own p) = .own (ren mp p) := id rfl
@[simp, go_sem] theorem s425 : renV mp (.inn p n m q) = .inn (ren mp p) n m q := id rfl
@[simp, go_sem] theorem s426 : metV l (.inn p n m q) = if l.contains p then l else l ++ [p] := id rfl
@[simp, go_sem] theorem s427 : isFz (.inn p n m q) = false := id rfl
@[simp, go_sem] theorem s428 : ren mp p = (look p mp).getD p := id rfl
@[simp, go_sem] theorem s429 : renV mp (.pe x kk n m) = .pe (renV mp x) kk n m := id rfl
@[simp, go_sem] theorem s430 : renV mp (.agg vs) = .agg (renL mp vs) := id rfl
@[simp, go_sem] theorem s431 : renV mp (.tup vs) = .tup (renL mp vs) := id rfl
@[simp, go_sem] theorem s432 : renV mp (.fn n vs) = .fn n (renL mp vs) := id rfl
@[simp, go_sem] theorem s433 (z : Value) : renV mp (.v z) = .v z := id rfl
@[simp, go_sem] theorem s434 (z : Value) : metV l (.v z) = l := id rfl
@[simp, go_sem] theorem s435 (z : Value) : isFz (.v z) = false := id rfl
@[simp, go_sem] theorem s436 : renV mp (.nil) = .nil := id rfl
@[simp, go_sem] theorem s437 : metV l (.nil) = l := id rfl
@[simp, go_sem] theorem s438 : isFz (.nil) = false := id rfl
@[simp, go_sem] theorem s439 (em : List (Int × Int)) : renV mp (.mp em) = .mp em := id rfl
@[simp, go_sem] theorem s440 (em : List (Int × Int)) : metV l (.mp em) = l := id rfl
@[simp, go_sem] theorem s441 (em : List (Int × Int)) : isFz (.mp em) = false := id rfl
@[simp, go_sem] theorem s442 (o : Option Nat) : renV mp (.lst o rows) = .lst o rows := id rfl
@[simp, go_sem] theorem s443 (o : Option Nat) : metV l (.lst o rows) = l := id rfl
@[simp, go_sem] theorem s444 (o : Option Nat) : isFz (.lst o rows) = false := id rfl
@[simp, go_sem] theorem s445 : renV mp (.fz rows) = .fz rows := id rfl
@[simp, go_sem] theorem s446 : metV l (.fz rows) = l := id rfl
@[simp, go_sem] theorem s447 : isFz (.fz rows) = true := id rfl
@[simp, go_sem] theorem s448 : renV mp (.ref n m) = .ref n m := id rfl
@[simp, go_sem] theorem s449 : metV l (.ref n m) = l := id rfl
@[simp, go_sem] theorem s450 : isFz (.ref n m) = false := id rfl
@[simp, go_sem] theorem s451 : renV mp (.dead) = .dead := id rfl
@[simp, go_sem] theorem s452 : metV l (.dead) = l := id rfl
@[simp, go_sem] theorem s453 : isFz (.dead) = false := id rfl
@[simp, go_sem] theorem s454 : renL mp [] = [] := id rfl
@[simp, go_sem] theorem s455 : renL mp (x :: vs) = renV mp x :: renL mp vs := id rfl
@[simp, go_sem] theorem s456 : metV l (.own p) = if l.contains p then l else l ++ [p] := id rfl
@[simp, go_sem] theorem s457 : metV l (.pe x kk n m) = metV l x := id rfl
@[simp, go_sem] theorem s458 : metV l (.agg vs) = metL l vs := id rfl
@[simp, go_sem] theorem s459 : metV l (.tup vs) = metL l vs := id rfl
@[simp, go_sem] theorem s460 : metV l (.fn n vs) = metL l vs := id rfl
@[simp, go_sem] theorem s461 : metL l [] = l := id rfl
@[simp, go_sem] theorem s462 : metL l (x :: vs) = metL (metV l x) vs := id rfl
@[simp, go_sem] theorem s463 : ownNil n [] = ([], []) := id rfl
@[simp, go_sem] theorem s464 (e : List (Nat × V)) : ownNil n ((m, .nil) :: e) = ((m, .own n) :: (ownNil (n + 1) e).1, n :: (ownNil (n + 1) e).2) := id rfl
@[simp, go_sem] theorem s465 : ownNilL n [] = ([], []) := id rfl
@[simp, go_sem] theorem s466 : ownNilL n (.nil :: vs) = (.own n :: (ownNilL (n + 1) vs).1, n :: (ownNilL (n + 1) vs).2) := id rfl
@[simp, go_sem] theorem s467 (z : Value) (e : List (Nat × V)) : ownNil n ((m, .v z) :: e) = ((m, .v z) :: (ownNil n e).1, (ownNil n e).2) := id rfl
@[simp, go_sem] theorem s468 (z : Value) : ownNilL n (.v z :: vs) = (.v z :: (ownNilL n vs).1, (ownNilL n vs).2) := id rfl
@[simp, go_sem] theorem s469 (em : List (Int × Int)) (e : List (Nat × V)) : ownNil n ((m, .mp em) :: e) = ((m, .mp em) :: (ownNil n e).1, (ownNil n e).2) := id rfl
@[simp, go_sem] theorem s470 (em : List (Int × Int)) : ownNilL n (.mp em :: vs) = (.mp em :: (ownNilL n vs).1, (ownNilL n vs).2) := id rfl
@[simp, go_sem] theorem s471 (o : Option Nat) (e : List (Nat × V)) : ownNil n ((m, .lst o rows) :: e) = ((m, .lst o rows) :: (ownNil n e).1, (ownNil n e).2) := id rfl
@[simp, go_sem] theorem s472 (o : Option Nat) : ownNilL n (.lst o rows :: vs) = (.lst o rows :: (ownNilL n vs).1, (ownNilL n vs).2) := id rfl
@[simp, go_sem] theorem s473  (e : List (Nat × V)) : ownNil n ((m, .fz rows) :: e) = ((m, .fz rows) :: (ownNil n e).1, (ownNil n e).2) := id rfl
@[simp, go_sem] theorem s474 : ownNilL n (.fz rows :: vs) = (.fz rows :: (ownNilL n vs).1, (ownNilL n vs).2) := id rfl
@[simp, go_sem] theorem s475  (e : List (Nat × V)) : ownNil n ((m, .own p) :: e) = ((m, .own p) :: (ownNil n e).1, (ownNil n e).2) := id rfl
@[simp, go_sem] theorem s476 : ownNilL n (.own p :: vs) = (.own p :: (ownNilL n vs).1, (ownNilL n vs).2) := id rfl
@[simp, go_sem] theorem s477 (r0 : Nat) (e : List (Nat × V)) : ownNil n ((m, .inn p q kk r0) :: e) = ((m, .inn p q kk r0) :: (ownNil n e).1, (ownNil n e).2) := id rfl
@[simp, go_sem] theorem s478 (r0 : Nat) : ownNilL n (.inn p q kk r0 :: vs) = (.inn p q kk r0 :: (ownNilL n vs).1, (ownNilL n vs).2) := id rfl
@[simp, go_sem] theorem s479  (e : List (Nat × V)) : ownNil n ((m, .ref p q) :: e) = ((m, .ref p q) :: (ownNil n e).1, (ownNil n e).2) := id rfl
@[simp, go_sem] theorem s480 : ownNilL n (.ref p q :: vs) = (.ref p q :: (ownNilL n vs).1, (ownNilL n vs).2) := id rfl
@[simp, go_sem] theorem s481  (e : List (Nat × V)) : ownNil n ((m, .pe x kk p q) :: e) = ((m, .pe x kk p q) :: (ownNil n e).1, (ownNil n e).2) := id rfl
@[simp, go_sem] theorem s482 : ownNilL n (.pe x kk p q :: vs) = (.pe x kk p q :: (ownNilL n vs).1, (ownNilL n vs).2) := id rfl
@[simp, go_sem] theorem s483  (e : List (Nat × V)) : ownNil n ((m, .agg ws) :: e) = ((m, .agg ws) :: (ownNil n e).1, (ownNil n e).2) := id rfl
@[simp, go_sem] theorem s484 : ownNilL n (.agg ws :: vs) = (.agg ws :: (ownNilL n vs).1, (ownNilL n vs).2) := id rfl
@[simp, go_sem] theorem s485  (e : List (Nat × V)) : ownNil n ((m, .tup ws) :: e) = ((m, .tup ws) :: (ownNil n e).1, (ownNil n e).2) := id rfl
@[simp, go_sem] theorem s486 : ownNilL n (.tup ws :: vs) = (.tup ws :: (ownNilL n vs).1, (ownNilL n vs).2) := id rfl
@[simp, go_sem] theorem s487  (e : List (Nat × V)) : ownNil n ((m, .fn p ws) :: e) = ((m, .fn p ws) :: (ownNil n e).1, (ownNil n e).2) := id rfl
@[simp, go_sem] theorem s488 : ownNilL n (.fn p ws :: vs) = (.fn p ws :: (ownNilL n vs).1, (ownNilL n vs).2) := id rfl
@[simp, go_sem] theorem s489  (e : List (Nat × V)) : ownNil n ((m, .dead) :: e) = ((m, .dead) :: (ownNil n e).1, (ownNil n e).2) := id rfl
@[simp, go_sem] theorem s490 : ownNilL n (.dead :: vs) = (.dead :: (ownNilL n vs).1, (ownNilL n vs).2) := id rfl
@[simp, go_sem] theorem s491 : ownNilB n [] = ([], []) := id rfl
@[simp, go_sem] theorem s492 (b : List (Nat × List V)) : ownNilB n ((m, vs) :: b) = ((m, (ownNilL n vs).1) :: (ownNilB (n + (ownNilL n vs).2.length) b).1, (ownNilL n vs).2 ++ (ownNilB (n + (ownNilL n vs).2.length) b).2) := id rfl
@[simp, go_sem] theorem s493 (e : List (Nat × V)) : keepE l e = mapSome (fun t => bnd (look t e) fun v => some (t, v)) l := id rfl
@[simp, go_sem] theorem s494 (b : List (Nat × List V)) : keepB l b = mapSome (fun t => bnd (look t b) fun v => some (t, v)) l := id rfl
@[simp, go_sem] theorem s495 : refsOk l (.ref n m) = l.contains n := id rfl
@[simp, go_sem] theorem s496 : refsOk l (.pe x kk n m) = refsOk l x := id rfl
@[simp, go_sem] theorem s497 : refsOk l (.agg vs) = refsOk.go l vs := id rfl
@[simp, go_sem] theorem s498 : refsOk l (.tup vs) = refsOk.go l vs := id rfl
@[simp, go_sem] theorem s499 : refsOk l (.fn n vs) = refsOk.go l vs := id rfl
@[simp, go_sem] theorem s500 (z : Value) : refsOk l (.v z) = true := id rfl
@[simp, go_sem] theorem s501 : refsOk l (.nil) = true := id rfl
@[simp, go_sem] theorem s502 (em : List (Int × Int)) : refsOk l (.mp em) = true := id rfl
@[simp, go_sem] theorem s503 (o : Option Nat) : refsOk l (.lst o rows) = true := id rfl
@[simp, go_sem] theorem s504 : refsOk l (.fz rows) = true := id rfl
@[simp, go_sem] theorem s505 : refsOk l (.own n) = true := id rfl
@[simp, go_sem] theorem s506 : refsOk l (.inn n m p q) = true := id rfl
@[simp, go_sem] theorem s507 : refsOk l (.dead) = true := id rfl
@[simp, go_sem] theorem s508 : refsOk.go l [] = true := id rfl
@[simp, go_sem] theorem s509 : refsOk.go l (x :: vs) = (refsOk l x && refsOk.go l vs) := id rfl
@[simp, go_sem] theorem s510 (tr : List (Nat × List (List D))) : metIn tr [] n = [] := id rfl
@[simp, go_sem] theorem s511 (tr : List (Nat × List (List D))) : metIn tr (p :: l) n = metOne p n (metIn tr l) (look p tr) := id rfl
@[simp, go_sem] theorem s512 (k : Nat → List (Nat × Nat × List (List D))) : metOne p n k (some rows) = if 1000000000 ≤ p ∧ p < 2000000000 then (p, p, rows) :: k n else (p, 2000000000 + n, rows) :: k (n + 1) := id rfl
@[simp, go_sem] theorem s513 (k : Nat → List (Nat × Nat × List (List D))) : metOne p n k none = k n := id rfl
@[simp, go_sem] theorem s514 (e : List (Nat × V)) (b : List (Nat × List V)) (t f : List (Nat × List (List D))) : S.head1 e b t f = S.head2 (metIn t (metL (metL [] (e.map (·.2))) (b.flatMap (·.2))) (1000 * f.length)) e b f := id rfl
@[simp, go_sem] theorem s515 (mm : List (Nat × Nat × List (List D))) (e : List (Nat × V)) (b : List (Nat × List V)) (f : List (Nat × List (List D))) : S.head2 mm e b f = ⟨e.map fun x => (x.1, renV (mm.map fun x => (x.1, x.2.1)) x.2), b.map fun x => (x.1, renL (mm.map fun x => (x.1, x.2.1)) x.2), (mm.map (·.2)).reverse, f⟩ := id rfl
@[simp, go_sem] theorem s516 (ts bs : List Nat) (e : List (Nat × V)) (b : List (Nat × List V)) (t f : List (Nat × List (List D))) : S.head ts bs ⟨e, b, t, f⟩ = bnd (keepE ts e) fun env => bnd (keepB bs b) fun box => grd ((desc ts && desc bs && env.all (fun x => refsOk bs x.2) && box.all (fun x => x.2.all (refsOk bs)) && t.all (fun x => decide (x.1 < 3000000000)) && f.all (fun x => decide (x.1 < 2000000000 + 1000 * f.length)) && decide (f.length < 1000)) = true) (some (S.head1 (ownNil 3000000000 env).1 (ownNilB (3000000000 + (ownNil 3000000000 env).2.length) box).1 (t ++ ((ownNil 3000000000 env).2 ++ (ownNilB (3000000000 + (ownNil 3000000000 env).2.length) box).2).map fun p => (p, [])) f)) := id rfl
@[simp, go_sem] theorem s517 (hs : List (Nat × List Nat × List Nat)) (fs : List (Nat × List Nat)) (ds : List (Nat × List Nat × List (Nat × List Nat))) (ns : List (Nat × List Nat × List Nat)) (s : S) : Ghost.head ⟨hs, fs, ds, ns⟩ n s = headAt s (look n hs) := id rfl
@[simp, go_sem] theorem s518 (hs : List (Nat × List Nat × List Nat)) (fs : List (Nat × List Nat)) (ds : List (Nat × List Nat × List (Nat × List Nat))) (ns : List (Nat × List Nat × List Nat)) : Ghost.bars ⟨hs, fs, ds, ns⟩ n = barsAt (look n ds) := id rfl
@[simp, go_sem] theorem s519 (z : List Nat × List (Nat × List Nat)) : barsAt (some z) = z := id rfl
@[simp, go_sem] theorem s520 : barsAt none = ([], []) := id rfl
@[simp, go_sem] theorem s521 (s : S) (ts bs : List Nat) : headAt s (some (ts, bs)) = s.head ts bs := id rfl
@[simp, go_sem] theorem s522 (s : S) : headAt s none = some s := id rfl
@[simp, go_sem] theorem s523 (hs : List (Nat × List Nat × List Nat)) (fs : List (Nat × List Nat)) (ds : List (Nat × List Nat × List (Nat × List Nat))) (ns : List (Nat × List Nat × List Nat)) (s : S) : Ghost.reg ⟨hs, fs, ds, ns⟩ n s = bnd (headAt s (look n ns)) fun s => regAt s (look n fs) := id rfl
@[simp, go_sem] theorem s524 (s : S) : regAt s (some l) = freezeAll s l := id rfl
@[simp, go_sem] theorem s525 (s : S) : regAt s none = some s := id rfl
@[simp, go_sem] theorem s526 (s : S) : freezeAll s [] = some s := id rfl
@[simp, go_sem] theorem s527 (s : S) : freezeAll s (n :: l) = bnd (s.freeze n) fun s => freezeAll s l := id rfl
@[simp, go_sem] theorem s528 (s : S) : S.freeze s n = bnd (look n s.env) fun v => freezeV s v := id rfl
@[simp, go_sem] theorem s529 (s : S) : freezeV s (.own p) = freezeAt s p (look p s.tree) := id rfl
@[simp, go_sem] theorem s530 (q : Nat) (s : S) : freezeV s (.ref p q) = bnd (look p s.box) fun cs => freezeL s cs := id rfl
@[simp, go_sem] theorem s531 (s : S) : freezeL s [] = some s := id rfl
@[simp, go_sem] theorem s532 (s : S) (vs : List V) : freezeL s (.own p :: vs) = bnd (freezeAt s p (look p s.tree)) fun s => freezeL s vs := id rfl
@[simp, go_sem] theorem s533 (s : S) (vs : List V) (z : Value) : freezeL s (.v z :: vs) = freezeL s vs := id rfl
@[simp, go_sem] theorem s534 (s : S) (vs : List V)  : freezeL s (.nil :: vs) = freezeL s vs := id rfl
@[simp, go_sem] theorem s535 (s : S) (vs : List V) (em : List (Int × Int)) : freezeL s (.mp em :: vs) = freezeL s vs := id rfl
@[simp, go_sem] theorem s536 (s : S) (vs : List V) (o : Option Nat) (rows : List (List D)) : freezeL s (.lst o rows :: vs) = freezeL s vs := id rfl
@[simp, go_sem] theorem s537 (s : S) (vs : List V) (rows : List (List D)) : freezeL s (.fz rows :: vs) = freezeL s vs := id rfl
@[simp, go_sem] theorem s538 (s : S) (vs : List V)  : freezeL s (.dead :: vs) = freezeL s vs := id rfl
@[simp, go_sem] theorem s539 (s : S) (vs : List V) (q : Nat) : freezeL s (.ref p q :: vs) = freezeL s vs := id rfl
@[simp, go_sem] theorem s540 (e : List (Nat × V)) (b : List (Nat × List V)) (t f : List (Nat × List (List D))) : freezeAt ⟨e, b, t, f⟩ p (some rows) = some ⟨e, b, drop1 p t, (p, rows) :: f⟩ := id rfl
@[simp, go_sem] theorem s541 (s : S) : freezeAt s p none = some s := id rfl
end
section
variable (s : S) (n m p q kk : Nat) (x y : V) (vs ws : List V) (rows : List (List D)) (l : List (Nat × List (List D)))
@[simp, go_sem] theorem s542 : enterV (.ref n m) = .ref (1000000000 + n) m := id rfl
@[simp, go_sem] theorem s543 : enterV (.own n) = .own (1000000000 + n) := id rfl
@[simp, go_sem] theorem s544 : enterV (.inn n m p q) = .inn (1000000000 + n) m p q := id rfl
@[simp, go_sem] theorem s545 : enterV (.agg vs) = .agg (enterL vs) := id rfl
@[simp, go_sem] theorem s546 : enterV (.tup vs) = .tup (enterL vs) := id rfl
@[simp, go_sem] theorem s547 : enterV (.pe x kk n m) = .pe (enterV x) kk n m := id rfl
@[simp, go_sem] theorem s548 : enterV (.fn n vs) = .fn n (enterL vs) := id rfl
@[simp, go_sem] theorem s549 (z : Value) : enterV (.v z) = .v z := id rfl
@[simp, go_sem] theorem s550 : enterV (.nil) = .nil := id rfl
@[simp, go_sem] theorem s551 (em : List (Int × Int)) : enterV (.mp em) = .mp em := id rfl
@[simp, go_sem] theorem s552 (o : Option Nat) : enterV (.lst o rows) = .lst o rows := id rfl
@[simp, go_sem] theorem s553 : enterV (.fz rows) = .fz rows := id rfl
@[simp, go_sem] theorem s554 : enterV (.dead) = .dead := id rfl
@[simp, go_sem] theorem s555 : enterL [] = [] := id rfl
@[simp, go_sem] theorem s556 : enterL (x :: vs) = enterV x :: enterL vs := id rfl
@[simp, go_sem] theorem s557 (z : Value) : outV s n l (.v z) = some (.v z, l) := id rfl
@[simp, go_sem] theorem s558 : outV s n l .nil = some (.own (n + l.length), l ++ [(0, [])]) := id rfl
@[simp, go_sem] theorem s559 (o : Option Nat) : outV s n l (.lst o rows) = some (.lst o rows, l) := id rfl
@[simp, go_sem] theorem s560 : outV s n l (.agg vs) = bnd (outL s n l vs) fun x => some (.agg x.1, x.2) := id rfl
@[simp, go_sem] theorem s561 : outV s n l (.tup vs) = bnd (outL s n l vs) fun x => some (.tup x.1, x.2) := id rfl
@[simp, go_sem] theorem s562 : outV s n l (.ref p q) = grd (1000000000 ≤ p) (some (.ref (p - 1000000000) q, l)) := id rfl
@[simp, go_sem] theorem s563 : outV s n l (.own p) = if 1000000000 ≤ p ∧ p < 1000000000 + n then grd ((look p s.tree).isSome = true) (some (.own (p - 1000000000), l)) else bnd (s.rows (.own p)) fun rows => grd ((look p l).isNone = true) (some (.own (n + l.length), l ++ [(p, rows)])) := id rfl
@[simp, go_sem] theorem s564 : outV s n l .dead = some (.dead, l) := id rfl
@[simp, go_sem] theorem s565 : outL s n l [] = some ([], l) := id rfl
@[simp, go_sem] theorem s566 : outL s n l (x :: vs) = bnd (outV s n l x) fun x => bnd (outL s n x.2 vs) fun y => some (x.1 :: y.1, y.2) := id rfl
@[simp, go_sem] theorem s567 : outB s n l [] = some ([], l) := id rfl
@[simp, go_sem] theorem s568 (ps : List Nat) : outB s n l (p :: ps) = bnd (look (1000000000 + p) s.box) fun cs => bnd (outL s n l cs) fun x => bnd (outB s n x.2 ps) fun y => some (x.1 :: y.1, y.2) := id rfl
@[simp, go_sem] theorem s569 (P : Program) : resV P s (.tmp n) = look n s.env := id rfl
@[simp, go_sem] theorem s570 (P : Program) : resV P s (.cell n m) = bnd (look n s.env) fun p => s.load P m p := id rfl
@[simp, go_sem] theorem s571 : tupOf [x] = x := id rfl
@[simp, go_sem] theorem s572 : tupOf [] = .tup [] := id rfl
@[simp, go_sem] theorem s573 : tupOf (x :: y :: vs) = .tup (x :: y :: vs) := id rfl
@[simp, go_sem] theorem s574 : keptTrees s n 0 = [] := id rfl
@[simp, go_sem] theorem s575 : keptTrees s n (m + 1) = keptOne n (keptTrees s (n + 1) m) (look (1000000000 + n) s.tree) := id rfl
@[simp, go_sem] theorem s576 : keptOne n l (some rows) = (n, rows) :: l := id rfl
@[simp, go_sem] theorem s577 : keptOne n l none = l := id rfl
@[simp, go_sem] theorem s578 (P : Program) (rs : List ResultVar) : outRes P rs n m s = bnd (mapSome (resV P s) rs) fun vs => bnd (outV s m [] (tupOf vs)) fun x => bnd (outB s m x.2 (List.range' 0 n)) fun y => grd ((s.box.all fun x => decide (x.1 < 1000000000 + n)) = true) (some ⟨x.1, y.1, keptTrees s 0 m ++ numbered m y.2⟩) := id rfl
@[simp, go_sem] theorem s579 (P : Program) (fn : Func) : leaveV P fn n m (.normal, .on s) = outRes P fn.results.toList n m s := id rfl
@[simp, go_sem] theorem s580 (P : Program) (fn : Func) : leaveV P fn n m (.ret, .on s) = outRes P fn.results.toList n m s := id rfl
@[simp, go_sem] theorem s581 (z : Q) : blockV n (.exit m, z) = if m = n then some (.normal, z) else some (.exit m, z) := id rfl
@[simp, go_sem] theorem s582 (z : Q) : blockV n (.normal, z) = some (.normal, z) := id rfl
@[simp, go_sem] theorem s583 (z : Q) : blockV n (.ret, z) = some (.ret, z) := id rfl
@[simp, go_sem] theorem s584 (ops : Array Oper) (d : Bool) : Code.first (.region n ops d) = n := id rfl
@[simp, go_sem] theorem s585 (c d : Code) : Code.first (.seq c d) = Code.first c := id rfl
@[simp, go_sem] theorem s586 (c : Code) : Code.first (.block n c) = Code.first c := id rfl
@[simp, go_sem] theorem s587 (c : Code) : Code.first (.loop c) = Code.first c := id rfl
@[simp, go_sem] theorem s588 (c : Code) : Code.first (.scope c) = Code.first c := id rfl
@[simp, go_sem] theorem s589 (P : Program) (G : List (FuncId × Bool × Mean)) (gh : Ghost) (bs : List (List V)) (ts : List (List (List D))) : evFun P G gh n vs bs ts = bnd P.funcs[n]? fun fn => bnd fn.body fun c => grd (vs.length ≤ 1000 ∧ bs.length ≤ 1000 ∧ ts.length ≤ 1000) <| bnd (evC P G gh c (.on ⟨(withIdx 0 (vs.map enterV)).reverse, (withIdx 1000000000 (bs.map enterL)).reverse, (withIdx 1000000000 ts).reverse, []⟩)) (leaveV P fn bs.length ts.length) := id rfl
@[simp, go_sem] theorem s590 (P : Program) (G : List (FuncId × Bool × Mean)) (gh : Ghost) (bs : List (List V)) (ts : List (List (List D))) : evNew P G gh n vs bs ts = bnd P.funcs[n]? fun fn => bnd fn.body fun c => grd (vs.length ≤ 1000 ∧ bs.length = 0 ∧ ts.length = 0) <| bnd (evC P G gh c (.on ⟨(withIdx 0 (vs.map enterV)).reverse, [], [], []⟩)) (leaveN P fn) := id rfl
@[simp, go_sem] theorem s591 (P : Program) (fn : Func) (s : S) : leaveN P fn (.normal, .on s) = bnd (mapSome (resV P s) fn.results.toList) fun vs => newOut s (tupOf vs) := id rfl
@[simp, go_sem] theorem s592 (P : Program) (fn : Func) (s : S) : leaveN P fn (.ret, .on s) = bnd (mapSome (resV P s) fn.results.toList) fun vs => newOut s (tupOf vs) := id rfl
@[simp, go_sem] theorem s593 (s : S) : newOut s (.ref n 0) = bnd (look n s.box) fun cs => grd (cs.all plainC = true) (some ⟨.ref 0 0, [cs], []⟩) := id rfl
@[simp, go_sem] theorem s594 (z : Value) : plainC (.v z) = true := id rfl
@[simp, go_sem] theorem s595 (oo : Option Nat) : plainC (.lst oo rows) = true := id rfl
@[simp, go_sem] theorem s596 (o : Option (List (List D))) : orElse1 (some rows) o = some rows := id rfl
@[simp, go_sem] theorem s597 (o : Option (List (List D))) : orElse1 none o = o := id rfl
end
theorem eff_val (s : S) (d : Nat) (v : V) : grd ((freshAll s [] && freshBox s []) = true) (some (s.app (some d) ⟨v, [], []⟩)) = some (s.put (some d) v) := by rw [grd_pos _ (show (freshAll s [] && freshBox s []) = true from rfl)]; rfl
section
variable (P : Program) (G : List (FuncId × Bool × Mean)) (s : S) (n m p q kk d : Nat) (x y : V) (vs ws : List V) (rows : List (List D)) (ats : Array TypeId) (o o1 o2 : Operand)
@[simp, go_sem] theorem s598 : effAt P G s (some d) (.move o) = evOp P G s (some d) (.move o) := by simp only [effAt, effOp, valOp, evOp, bnd_some, bnd_assoc, bnd_grd, eff_val]
@[simp, go_sem] theorem s599 : effAt P G s (some d) (.assign o) = evOp P G s (some d) (.assign o) := by simp only [effAt, effOp, valOp, evOp, bnd_some, bnd_assoc, bnd_grd, eff_val]
@[simp, go_sem] theorem s600 : effAt P G s (some d) (.pick o o1 o2) = evOp P G s (some d) (.pick o o1 o2) := by simp only [effAt, effOp, valOp, evOp, bnd_some, bnd_assoc, bnd_grd, eff_val]
@[simp, go_sem] theorem s601 : effAt P G s (some d) (.load n o) = evOp P G s (some d) (.load n o) := by simp only [effAt, effOp, valOp, evOp, bnd_some, bnd_assoc, bnd_grd, eff_val]
@[simp, go_sem] theorem s602 : effAt P G s (some d) (.nilCheck o) = evOp P G s (some d) (.nilCheck o) := by simp only [effAt, effOp, valOp, evOp, bnd_some, bnd_assoc, bnd_grd, eff_val]
@[simp, go_sem] theorem s603 : effAt P G s (some d) (.fieldAddr n o m) = evOp P G s (some d) (.fieldAddr n o m) := by simp only [effAt, effOp, valOp, evOp, bnd_some, bnd_assoc, bnd_grd, eff_val]
@[simp, go_sem] theorem s604 : effAt P G s (some d) (.field n o m) = evOp P G s (some d) (.field n o m) := by simp only [effAt, effOp, valOp, evOp, bnd_some, bnd_assoc, bnd_grd, eff_val]
@[simp, go_sem] theorem s605 : effAt P G s (some d) (.indexAddr n o o1) = evOp P G s (some d) (.indexAddr n o o1) := by simp only [effAt, effOp, valOp, evOp, bnd_some, bnd_assoc, bnd_grd, eff_val]
@[simp, go_sem] theorem s606 : effAt P G s (some d) (.index n o o1) = evOp P G s (some d) (.index n o o1) := by simp only [effAt, effOp, valOp, evOp, bnd_some, bnd_assoc, bnd_grd, eff_val]
@[simp, go_sem] theorem s607 : effAt P G s (some d) (.extract o n) = evOp P G s (some d) (.extract o n) := by simp only [effAt, effOp, valOp, evOp, bnd_some, bnd_assoc, bnd_grd, eff_val]
@[simp, go_sem] theorem s608 (ps : Array (Nat × Operand)) : effAt P G s (some d) (.build n ps) = evOp P G s (some d) (.build n ps) := by simp only [effAt, effOp, valOp, evOp, bnd_some, bnd_assoc, bnd_grd, eff_val]
@[simp, go_sem] theorem s609 (z : BinOp) : effAt P G s (some d) (.binOp z n o o1 m) = evOp P G s (some d) (.binOp z n o o1 m) := by simp only [effAt, effOp, valOp, evOp, bnd_some, bnd_assoc, bnd_grd, eff_val]
@[simp, go_sem] theorem s610 (z : UnOp) : effAt P G s (some d) (.unOp z n o) = evOp P G s (some d) (.unOp z n o) := by simp only [effAt, effOp, valOp, evOp, bnd_some, bnd_assoc, bnd_grd, eff_val]
@[simp, go_sem] theorem s611 (z : Fn) (first ps : Array Operand) : effAt P G s (some d) (.makeFunc z first ps) = evOp P G s (some d) (.makeFunc z first ps) := by simp only [effAt, effOp, valOp, evOp, bnd_some, bnd_assoc, bnd_grd, eff_val]
@[simp, go_sem] theorem s612 (lo hi : Option Operand) : effAt P G s (some d) (.slice n o lo hi none) = bnd (s.ev o) fun x => bnd (evOptOp s lo) fun l => bnd (evOptOp s hi) fun h => bnd (P.underlying n) fun dd => bnd (sliceV P s x l h dd) fun v => some (s.put (some d) v) := by simp only [effAt, effOp, valOp, bnd_some, bnd_assoc, bnd_grd, eff_val]
@[simp, go_sem] theorem s613 : effAt P G s (some d) (.convert n m o) = bnd (s.ev o) fun x => bnd (P.underlying n) fun d0 => bnd (P.underlying m) fun dd => bnd (convD P s x d0 dd) fun v => some (s.put (some d) v) := by simp only [effAt, effOp, valOp, bnd_some, bnd_assoc, bnd_grd, eff_val]
@[simp, go_sem] theorem s614 : effAt P G s (some d) (.alloc n) = evOp P G s (some d) (.alloc n) := by simp only [effAt, effOp, evOp, bnd_some, bnd_assoc, S.newBox, freshAll, freshBox, Bool.and_true, Bool.true_and]; rfl
@[simp, go_sem] theorem s615 : effAt P G s (some d) (.box n o) = evOp P G s (some d) (.box n o) := by simp only [effAt, effOp, evOp, bnd_some, bnd_assoc, bnd_grd, S.newBox, freshAll, freshBox, Bool.and_true, Bool.true_and]; rfl
@[simp, go_sem] theorem s616 (c : Call) : effAt P G s (some d) (.call c) = bnd (bnd (mapSome s.ev c.args.toList) fun args => effCallee P G s d c.argTypes args c.callee) fun e => grd ((freshAll s e.tree && freshBox s e.box) = true) (some (s.app (some d) e)) := id rfl
@[simp, go_sem] theorem s617 (ps : Array (Nat × Operand)) : effAt P G s (some d) (.buildSlice n m ps) = bnd (bnd (P.underlying n) fun ds => bnd (sliceElem ds) fun e => bnd (mapSome (evPair s) ps.toList) fun vs => grd ((zeroOk P e && decide (m * P.cellsOf e ≤ 16777216) && upto 0 m (vs.map (·.1)) && vs.all fun v => decide (v.2.cells.length = P.cellsOf e) && v.2.cells.all V.one) = true) (bnd (mapSome (fun v : Nat × V => mapSome packV v.2.cells) vs) fun rows => some ⟨.own d, [(d, rows)], []⟩)) fun e : Eff => grd ((freshAll s e.tree && freshBox s e.box) = true) (some (s.app (some d) e)) := id rfl
@[simp, go_sem] theorem s618 (z : Builtin) : effCallee P G s d ats vs (.builtin z) = effB P s d z ats vs := id rfl
@[simp, go_sem] theorem s619 : effCallee P G s d ats vs (.value o) = bnd (s.ev o) fun f => bnd (fnOf f) fun f => bnd (look f.1 G) fun M => grd (M.1 = false) (effCall M.2 s d (vs ++ f.2)) := id rfl
@[simp, go_sem] theorem s620 : effB P s d .append ats [x, y] = bnd ats[0]? fun t => bnd ats[1]? fun t1 => grd (seqT P t1 = true) (bnd (P.underlying t) fun ds => bnd (sliceElem ds) fun e => bnd (flatRows s y) fun new => effNew P s d e new x) := id rfl
@[simp, go_sem] theorem s621 : effB P s d .len ats vs = bnd (valB P s .len ats vs) fun v => some ⟨v, [], []⟩ := id rfl
@[simp, go_sem] theorem s622 : effB P s d .max ats vs = bnd (valB P s .max ats vs) fun v => some ⟨v, [], []⟩ := id rfl
@[simp, go_sem] theorem s623 : effB P s d .min ats vs = bnd (valB P s .min ats vs) fun v => some ⟨v, [], []⟩ := id rfl
@[simp, go_sem] theorem s624 (u : ByteArray) : valB P s .len ats [.v (.string u)] = bnd ats[0]? fun t => grd (strT P t = true) (some (.v (.int .i64 u.size))) := id rfl
@[simp, go_sem] theorem s625 : valB P s .len ats [.nil] = bnd ats[0]? fun t => grd (lstT P t = true) (bnd (s.rows (.nil)) fun rows => some (.v (.int .i64 rows.length))) := id rfl
@[simp, go_sem] theorem s626 : flatRows s (.nil) = bnd (s.rows (.nil)) fun rows => grd (rowsFlat rows = true) (some rows) := id rfl
@[simp, go_sem] theorem s627 (w : Option Nat) : valB P s .len ats [.lst w rows] = bnd ats[0]? fun t => grd (lstT P t = true) (bnd (s.rows (.lst w rows)) fun rows => some (.v (.int .i64 rows.length))) := id rfl
@[simp, go_sem] theorem s628 (w : Option Nat) : flatRows s (.lst w rows) = bnd (s.rows (.lst w rows)) fun rows => grd (rowsFlat rows = true) (some rows) := id rfl
@[simp, go_sem] theorem s629 : valB P s .len ats [.fz rows] = bnd ats[0]? fun t => grd (lstT P t = true) (bnd (s.rows (.fz rows)) fun rows => some (.v (.int .i64 rows.length))) := id rfl
@[simp, go_sem] theorem s630 : flatRows s (.fz rows) = bnd (s.rows (.fz rows)) fun rows => grd (rowsFlat rows = true) (some rows) := id rfl
@[simp, go_sem] theorem s631 : valB P s .len ats [.own p] = bnd ats[0]? fun t => grd (lstT P t = true) (bnd (s.rows (.own p)) fun rows => some (.v (.int .i64 rows.length))) := id rfl
@[simp, go_sem] theorem s632 : flatRows s (.own p) = bnd (s.rows (.own p)) fun rows => grd (rowsFlat rows = true) (some rows) := id rfl
@[simp, go_sem] theorem s633 : valB P s .len ats [.inn p n m q] = bnd ats[0]? fun t => grd (lstT P t = true) (bnd (s.rows (.inn p n m q)) fun rows => some (.v (.int .i64 rows.length))) := id rfl
@[simp, go_sem] theorem s634 : flatRows s (.inn p n m q) = bnd (s.rows (.inn p n m q)) fun rows => grd (rowsFlat rows = true) (some rows) := id rfl
@[simp, go_sem] theorem s635 (u : ByteArray) : flatRows s (.v (.string u)) = some (u.toList.map fun c => [.a (.int .u8 (c.toNat : Int))]) := id rfl
@[simp, go_sem] theorem s636 (a c : Int) : valB P s .max ats [.v (.int .i64 a), .v (.int .i64 c)] = some (.v (.int .i64 (max a c))) := id rfl
@[simp, go_sem] theorem s637 (a c : Int) : valB P s .min ats [.v (.int .i64 a), .v (.int .i64 c)] = some (.v (.int .i64 (min a c))) := id rfl
@[simp, go_sem] theorem s638 : effNew P s d n rows .nil = grd (sizeOk P n rows.length = true ∧ wid (P.cellsOf n) rows = true) (some ⟨.own d, [(d, rows)], []⟩) := id rfl
@[simp, go_sem] theorem s639 : effNew P s d n rows (.own p) = bnd (look p s.tree) fun rs => grd (rs.isEmpty = true ∧ sizeOk P n rows.length = true ∧ wid (P.cellsOf n) rows = true) (some ⟨.own d, [(d, rows)], []⟩) := id rfl
@[simp, go_sem] theorem s640 (M : Mean) : effCall M s d vs = bnd (lendL s ⟨[], [], []⟩ vs) fun x => grd ((x.2.box.isEmpty && x.2.tree.isEmpty) = true) (bnd (M x.1 [] []) fun r => grd (r.box.isEmpty = true) (bnd (backV x.2 d r.val) fun v => some ⟨v, effTrees d r.tree, []⟩)) := id rfl
@[simp, go_sem] theorem s641 : effTrees n [] = [] := id rfl
@[simp, go_sem] theorem s642 (r : List (Nat × List (List D))) : effTrees n ((q, rows) :: r) = (1000 * (n + 1) + q, rows) :: effTrees n r := id rfl
@[simp, go_sem] theorem s643 : freshAll s [] = true := id rfl
@[simp, go_sem] theorem s644 (r : List (Nat × List (List D))) (e : List (Nat × V)) (b : List (Nat × List V)) (t f : List (Nat × List (List D))) : freshAll ⟨e, b, t, f⟩ ((q, rows) :: r) = (fresh ⟨e, b, t, f⟩ q && decide (q < 1000000000) && freshAll ⟨e, b, (q, rows) :: t, f⟩ r) := id rfl
@[simp, go_sem] theorem s645 : freshBox s [] = true := id rfl
@[simp, go_sem] theorem s646 (r : List (Nat × List V)) (e : List (Nat × V)) (b : List (Nat × List V)) (t f : List (Nat × List (List D))) : freshBox ⟨e, b, t, f⟩ ((q, vs) :: r) = ((look q b).isNone && freshBox ⟨e, (q, vs) :: b, t, f⟩ r) := id rfl
@[simp, go_sem] theorem s647 (tt : List (Nat × List (List D))) (bb : List (Nat × List V)) (e : List (Nat × V)) (b : List (Nat × List V)) (t f : List (Nat × List (List D))) : S.app ⟨e, b, t, f⟩ (some d) ⟨x, tt, bb⟩ = ⟨put d x e, bb ++ b, tt.reverse ++ t, f⟩ := id rfl
@[simp, go_sem] theorem s648 (w : Option Nat) : barEff P G s w (.store n o o1) = bnd (s.ev o) fun p => bnd (s.ev o1) fun v => grd (sizedT P n = true ∧ v.cells.length = P.cellsOf n ∧ w.isNone = true) (storeRef s v p) := id rfl
@[simp, go_sem] theorem s649 (w : Option Nat) (c : Call) : barEff P G s w (.call c) = bnd (mapSome s.ev c.args.toList) fun args => barCallee P G s w c.argTypes args c.callee := id rfl
@[simp, go_sem] theorem s650 (w : Option Nat) : barCallee P G s w ats vs (.value o) = bnd (s.ev o) fun f => bnd (fnOf f) fun f => bnd (look f.1 G) fun M => grd (M.1 = false) (callB M.2 s (w.getD 0) (vs ++ f.2)) := id rfl
@[simp, go_sem] theorem s651 (w : Option Nat) (z : Builtin) : barCallee P G s w ats vs (.builtin z) = barB P s w z ats vs := id rfl
@[simp, go_sem] theorem s652 (w : Option Nat) : barB P s w .append ats [x, y] = bnd ats[0]? fun t => bnd ats[1]? fun t1 => grd (seqT P t1 = true) (bnd (P.underlying t) fun ds => bnd (sliceElem ds) fun e => bnd (flatRows s y) fun new => barApp P s w e new x) := id rfl
@[simp, go_sem] theorem s653 (w : Option Nat) : barApp P s w n rows .nil = grd (sizeOk P n rows.length = true ∧ wid (P.cellsOf n) rows = true) (bnd w fun t => grd (fresh s t = true) (some ⟨.own t, s.box, (t, rows) :: s.tree, [], []⟩)) := id rfl
@[simp, go_sem] theorem s654 (w : Option Nat) : barApp P s w n rows (.own p) = bnd (look p s.tree) fun rs => grd (sizeOk P n (rs.length + rows.length) = true ∧ wid (P.cellsOf n) rs = true ∧ wid (P.cellsOf n) rows = true) (bnd w fun t => grd (fresh s t = true) (some ⟨.own t, killB p s.box, (t, rs ++ rows) :: drop1 p s.tree, [p], []⟩)) := id rfl
@[simp, go_sem] theorem s655 (z : Builtin) (ar : Array Operand) (at_ : Array TypeId) : isApp (.call ⟨.builtin z, ar, at_⟩) = true := id rfl
@[simp, go_sem] theorem s656 (ar : Array Operand) (at_ : Array TypeId) : isApp (.call ⟨.value o, ar, at_⟩) = false := id rfl
@[simp, go_sem] theorem s657 : isApp (.store n o o1) = false := id rfl
@[simp, go_sem] theorem s658 (ps : Array (Nat × Operand)) : isApp (.buildSlice n m ps) = false := id rfl
@[simp, go_sem] theorem s659 : freeV [] x = true := id rfl
@[simp, go_sem] theorem s660 (ks : List Nat) : freeV (p :: ks) x = (!mentions p x && freeV ks x) := id rfl
@[simp, go_sem] theorem s661 (ks : List Nat) : freeO ks s (.tmp n) = match look n s.env with | some v => freeV ks v | none => true := id rfl
@[simp, go_sem] theorem s662 (ks : List Nat) (z : Value) : freeO ks s (.const z) = true := id rfl
@[simp, go_sem] theorem s663 (ks : List Nat) (z : FuncId) : freeO ks s (.func z) = true := id rfl
@[simp, go_sem] theorem s664 (ks : List Nat) : opsFree ks s (.alloc n) = true := by simp [opsFree, Op.operands, Call.operands]
@[simp, go_sem] theorem s665 (ks : List Nat) : opsFree ks s (.move o) = freeO ks s o := by simp [opsFree, Op.operands, Call.operands]
@[simp, go_sem] theorem s666 (ks : List Nat) : opsFree ks s (.assign o) = freeO ks s o := by simp [opsFree, Op.operands, Call.operands]
@[simp, go_sem] theorem s667 (ks : List Nat) : opsFree ks s (.box n o) = freeO ks s o := by simp [opsFree, Op.operands, Call.operands]
@[simp, go_sem] theorem s668 (ks : List Nat) : opsFree ks s (.load n o) = freeO ks s o := by simp [opsFree, Op.operands, Call.operands]
@[simp, go_sem] theorem s669 (ks : List Nat) : opsFree ks s (.nilCheck o) = freeO ks s o := by simp [opsFree, Op.operands, Call.operands]
@[simp, go_sem] theorem s670 (ks : List Nat) : opsFree ks s (.fieldAddr n o m) = freeO ks s o := by simp [opsFree, Op.operands, Call.operands]
@[simp, go_sem] theorem s671 (ks : List Nat) : opsFree ks s (.field n o m) = freeO ks s o := by simp [opsFree, Op.operands, Call.operands]
@[simp, go_sem] theorem s672 (ks : List Nat) : opsFree ks s (.extract o n) = freeO ks s o := by simp [opsFree, Op.operands, Call.operands]
@[simp, go_sem] theorem s673 (ks : List Nat) (z : UnOp) : opsFree ks s (.unOp z n o) = freeO ks s o := by simp [opsFree, Op.operands, Call.operands]
@[simp, go_sem] theorem s674 (ks : List Nat) (o2 : Operand) : opsFree ks s (.pick o o1 o2) = (freeO ks s o && (freeO ks s o1 && freeO ks s o2)) := by simp [opsFree, Op.operands, Call.operands]
@[simp, go_sem] theorem s675 (ks : List Nat) (z : BinOp) : opsFree ks s (.binOp z n o o1 m) = (freeO ks s o && freeO ks s o1) := by simp [opsFree, Op.operands, Call.operands]
@[simp, go_sem] theorem s676 (ks : List Nat) : opsFree ks s (.indexAddr n o o1) = (freeO ks s o && freeO ks s o1) := by simp [opsFree, Op.operands, Call.operands]
@[simp, go_sem] theorem s677 (ks : List Nat) : opsFree ks s (.index n o o1) = (freeO ks s o && freeO ks s o1) := by simp [opsFree, Op.operands, Call.operands]
@[simp, go_sem] theorem s678 (ks : List Nat) : opsFree ks s (.slice n o none none none) = freeO ks s o := by simp [opsFree, Op.operands, Call.operands]
@[simp, go_sem] theorem s679 (ks : List Nat) : opsFree ks s (.slice n o (some o1) none none) = (freeO ks s o && freeO ks s o1) := by simp [opsFree, Op.operands, Call.operands]
@[simp, go_sem] theorem s680 (ks : List Nat) : opsFree ks s (.slice n o none (some o1) none) = (freeO ks s o && freeO ks s o1) := by simp [opsFree, Op.operands, Call.operands]
@[simp, go_sem] theorem s681 (ks : List Nat) (o2 : Operand) : opsFree ks s (.slice n o (some o1) (some o2) none) = (freeO ks s o && (freeO ks s o1 && freeO ks s o2)) := by simp [opsFree, Op.operands, Call.operands]
@[simp, go_sem] theorem s682 (ks : List Nat) (ps : Array (Nat × Operand)) : opsFree ks s (.buildSlice n m ps) = (ps.toList.all fun x => freeO ks s x.2) := by simp [opsFree, Op.operands, List.all_map, Function.comp_def]
@[simp, go_sem] theorem s683 (ks : List Nat) (ps : Array (Nat × Operand)) : opsFree ks s (.build n ps) = (ps.toList.all fun x => freeO ks s x.2) := by simp [opsFree, Op.operands, List.all_map, Function.comp_def]
@[simp, go_sem] theorem s684 (ks : List Nat) (z : Builtin) (ar : Array Operand) (at_ : Array TypeId) : opsFree ks s (.call ⟨.builtin z, ar, at_⟩) = (ar.toList.all fun x => freeO ks s x) := by simp [opsFree, Op.operands, Call.operands]
@[simp, go_sem] theorem s685 (ks : List Nat) (ar : Array Operand) (at_ : Array TypeId) : opsFree ks s (.call ⟨.value o, ar, at_⟩) = (freeO ks s o && ar.toList.all fun x => freeO ks s x) := by simp [opsFree, Op.operands, Call.operands]
@[simp, go_sem] theorem s686 (ks : List Nat) (os : Array Oper) : keepFl os s ks [] = some () := id rfl
@[simp, go_sem] theorem s687 (ks : List Nat) (os : Array Oper) (l : List Nat) : keepFl os s ks (n :: l) = bnd os[n]? fun o => bnd o.dst fun d => bnd (look d s.env) fun v => grd ((freeV ks v && opsFree ks s o.op) = true) (keepFl os s ks l) := id rfl
@[simp, go_sem] theorem s688 : storeRef s x (.ref n m) = bnd (look n s.box) fun cs => grd (m + x.cells.length ≤ cs.length ∧ x.cells.all V.one = true) (some ⟨.tup [], upd n (setAt cs m x.cells) s.box, s.tree, [], []⟩) := id rfl
@[simp, go_sem] theorem s689 (M : Mean) : callB M s d vs = bnd (lendL s ⟨[], [], []⟩ vs) fun x => bnd (lendBoxes s x.2 x.2.box) fun y => grd ((y.2.tree.isEmpty && lendOk y.2 y.1.length) = true) (bnd (M x.1 y.1 []) fun r => bnd (backBoxes y.2 d y.2.box r.box s) fun s => bnd (addTrees y.2 d r.tree s) fun s => bnd (backV y.2 d r.val) fun v => some ⟨v, s.box, s.tree, [], []⟩) := id rfl
@[simp, go_sem] theorem s690 (l li : List Nat) (tt : List (Nat × List (List D))) (bb : List (Nat × List V)) (e : List (Nat × V)) (b : List (Nat × List V)) (t f : List (Nat × List (List D))) : S.barred ⟨e, b, t, f⟩ none ⟨x, bb, tt, l, li⟩ = ⟨innEs li (killEs l e), bb, tt, f⟩ := id rfl
@[simp, go_sem] theorem s691 (l li : List Nat) (tt : List (Nat × List (List D))) (bb : List (Nat × List V)) (e : List (Nat × V)) (b : List (Nat × List V)) (t f : List (Nat × List (List D))) : S.barred ⟨e, b, t, f⟩ (some d) ⟨x, bb, tt, l, li⟩ = ⟨put d x (innEs li (killEs l e)), bb, tt, f⟩ := id rfl
@[simp, go_sem] theorem s692 (s0 : S) (os : Array Oper) : sameVals P os s0 s [] = some () := id rfl
@[simp, go_sem] theorem s693 (s0 : S) (os : Array Oper) (l : List Nat) : sameVals P os s0 s (n :: l) = bnd os[n]? fun o => bnd o.dst fun d => bnd (look d s.env) fun v => bnd (valOp P s o.op) fun u => grdEq u v (bnd (look d s0.env) fun v0 => grdEq v0 v (sameVals P os s0 s l)) := id rfl
@[simp, go_sem] theorem s694 (e : List (Nat × V)) : killEs [] e = e := id rfl
@[simp, go_sem] theorem s695 (e : List (Nat × V)) : innEs [] e = e := id rfl
@[simp, go_sem] theorem s696 (l : List Nat) (e : List (Nat × V)) : innEs (n :: l) e = innEs l (innE n e) := id rfl
@[simp, go_sem] theorem s697 (l : List Nat) (e : List (Nat × V)) : killEs (n :: l) e = killEs l (killE n e) := id rfl
@[simp, go_sem] theorem s698 : ownss [] = [] := id rfl
@[simp, go_sem] theorem s699 (l : List V) : ownss (x :: l) = owns x.cells ++ ownss l := id rfl
@[simp, go_sem] theorem s700 : owns [] = [] := id rfl
@[simp, go_sem] theorem s701 (l : List V) : owns (.own p :: l) = p :: owns l := id rfl
@[simp, go_sem] theorem s702 (l : List V)  : owns (.nil :: l) = owns l := id rfl
@[simp, go_sem] theorem s703 (l : List V) (w : Option Nat) : owns (.lst w rows :: l) = owns l := id rfl
@[simp, go_sem] theorem s704 (l : List V)  : owns (.fz rows :: l) = owns l := id rfl
@[simp, go_sem] theorem s705 (l : List V) (z : Value) : owns (.v z :: l) = owns l := id rfl
@[simp, go_sem] theorem s706 (l : List V)  : owns (.ref n m :: l) = owns l := id rfl
@[simp, go_sem] theorem s707 (l : List V)  : owns (.inn p n m q :: l) = owns l := id rfl
@[simp, go_sem] theorem s708 (l : List V)  : owns (.agg vs :: l) = owns l := id rfl
@[simp, go_sem] theorem s709 (l : List V)  : owns (.tup vs :: l) = owns l := id rfl
@[simp, go_sem] theorem s710 (w : Option Nat) : barTree w vs (rows, s) = bnd w fun t => grd (fresh s t = true) (some ⟨.own t, s.box, (t, rows) :: s.tree, ownss vs, []⟩) := id rfl
@[simp, go_sem] theorem s711 (w : Option Nat) (ps : Array (Nat × Operand)) : barEff P G s w (.buildSlice n m ps) = bnd (P.underlying n) fun dd => bnd (sliceElem dd) fun e => bnd (mapSome (evPair s) ps.toList) fun vs => grd ((zeroOk P e && decide (m * P.cellsOf e ≤ 16777216) && upto 0 m (vs.map (·.1)) && vs.all fun v => decide (v.2.cells.length = P.cellsOf e) && v.2.cells.all V.one) = true) (bnd (packRows s (vs.map (·.2))) fun x => barTree w (vs.map (·.2)) x) := id rfl
@[simp, go_sem] theorem s712 (first : Array Operand) : fnV vs first (.func n) = grd (first.isEmpty = true) (some (.fn n vs)) := id rfl
@[simp, go_sem] theorem s713 (dst : Option Nat) (z : Fn) (first ps : Array Operand) : evOp P G s dst (.makeFunc z first ps) = bnd (mapSome s.ev ps.toList) fun vs => bnd (fnV vs first z) fun v => some (s.put dst v) := id rfl
@[simp, go_sem] theorem s714 (z : Fn) (first ps : Array Operand) : valOp P s (.makeFunc z first ps) = bnd (mapSome s.ev ps.toList) fun vs => fnV vs first z := id rfl
@[simp, go_sem] theorem s715 : valOp P s (.move o) = s.ev o := id rfl
@[simp, go_sem] theorem s716 : valOp P s (.assign o) = s.ev o := id rfl
@[simp, go_sem] theorem s717 : valOp P s (.load n o) = bnd (s.ev o) fun p => s.load P n p := id rfl
@[simp, go_sem] theorem s718 : valOp P s (.nilCheck o) = bnd (s.ev o) fun v => nilOk v := id rfl
@[simp, go_sem] theorem s719 : valOp P s (.fieldAddr n o m) = bnd (s.ev o) fun x => bnd (fieldOf P n m) fun f => addOff x f.1 := id rfl
@[simp, go_sem] theorem s720 : valOp P s (.extract o n) = bnd (s.ev o) fun x => tupAt n x := id rfl
@[simp, go_sem] theorem s721 (z : BinOp) : valOp P s (.binOp z n o o1 m) = bnd (s.ev o) fun x => bnd (s.ev o1) fun y => bin P n z x y := id rfl
@[simp, go_sem] theorem s722 (z : UnOp) : valOp P s (.unOp z n o) = bnd (s.ev o) fun x => un z x := id rfl
@[simp, go_sem] theorem s723 : valOp P s (.field n o m) = bnd (s.ev o) fun x => bnd (aggOf x) fun cs => bnd (fieldOf P n m) fun f => bnd (aggT P f.2) fun g => span cs f.1 (P.cellsOf f.2) g := id rfl
@[simp, go_sem] theorem s724 : valOp P s (.indexAddr n o o1) = bnd (s.ev o) fun x => bnd (s.ev o1) fun i => bnd (idxOf i) fun i => bnd (elemOfT P n) fun e => indexAddrV P s x i e.1 e.2 := id rfl
@[simp, go_sem] theorem s725 : valOp P s (.index n o o1) = bnd (s.ev o) fun x => bnd (s.ev o1) fun i => bnd (idxOf i) fun i => indexV P n x i := id rfl
@[simp, go_sem] theorem s726 (dst : Option Nat) : evOp P G s dst (.lookup n o o1 true) = bnd (s.ev o) fun m => bnd (s.ev o1) fun k => bnd (mpOf m) fun es => bnd (key64 k) fun a => bnd (mapT P n) fun z => some (s.put dst (foundV z (lookM a es))) := id rfl
@[simp, go_sem] theorem s727 (em : List (Int × Int)) : mpOf (.mp em) = some em := id rfl
@[simp, go_sem] theorem s728 (a : Int) : key64 (.v (.int .i64 a)) = some a := id rfl
@[simp, go_sem] theorem s729 (a : Int) : lookM a [] = none := id rfl
@[simp, go_sem] theorem s730 (a b z : Int) (em : List (Int × Int)) : lookM a ((b, z) :: em) = if a = b then some z else lookM a em := id rfl
@[simp, go_sem] theorem s731 (z a : Int) : foundV z (some a) = .tup [.v (.int .i64 a), .v (.bool true)] := id rfl
@[simp, go_sem] theorem s732 (z : Int) : foundV z none = .tup [.v (.int .i64 z), .v (.bool false)] := id rfl
@[simp, go_sem] theorem s733 : apartK [] = true := id rfl
@[simp, go_sem] theorem s734 (a z : Int) (em : List (Int × Int)) : apartK ((a, z) :: em) = ((lookM a em).isNone && apartK em) := id rfl
@[simp, go_sem] theorem s735 (tt : TypeId) (pp : String) (af : Array Edge) (r : List Oper) : litOf (⟨some d, .makeMap n none, tt, pp, af, none⟩ :: r) = some (n, d, (litIns n d r []).1, (litIns n d r []).2) := id rfl
@[simp, go_sem] theorem s736 (em : List (Int × Int)) : litIns n d [] em = (em, []) := id rfl
@[simp, go_sem] theorem s737 (a z : Int) (em : List (Int × Int)) (tt : TypeId) (pp : String) (af : Array Edge) (r : List Oper) : litIns n d (⟨none, .insert m (.tmp p) (.const (.int .i64 a)) (.const (.int .i64 z)), tt, pp, af, none⟩ :: r) em = if m = n ∧ p = d then litIns n d r (em ++ [(a, z)]) else (em, ⟨none, .insert m (.tmp p) (.const (.int .i64 a)) (.const (.int .i64 z)), tt, pp, af, none⟩ :: r) := by simp only [litIns, insOf]; split <;> rfl
@[simp, go_sem] theorem s738 (op : Op) (gu : Option (Nat × Bool)) (em : List (Int × Int)) (tt : TypeId) (pp : String) (af : Array Edge) (r : List Oper) : litIns n d (⟨some p, op, tt, pp, af, gu⟩ :: r) em = (em, ⟨some p, op, tt, pp, af, gu⟩ :: r) := by simp only [litIns, insOf]; rfl
@[simp, go_sem] theorem s739 (e : List (Nat × V)) (b : List (Nat × List V)) (t f : List (Nat × List (List D))) (em : List (Int × Int)) : S.withMap ⟨e, b, t, f⟩ d em = ⟨put d (.mp em) e, b, t, (d, []) :: f⟩ := id rfl
@[simp, go_sem] theorem s740 (z : BinOp) : bin P n z (.agg vs) (.agg ws) = bnd (eqT P n) fun m => grd (vs.length = m) (bnd (intsEq vs ws) fun g => eqOp g z) := id rfl
@[simp, go_sem] theorem s741 (g : Bool) : eqOp g .eql = some (.v (.bool g)) := id rfl
@[simp, go_sem] theorem s742 (g : Bool) : eqOp g .neq = some (.v (.bool !g)) := id rfl
@[simp, go_sem] theorem s743 : intsEq [] [] = some true := id rfl
@[simp, go_sem] theorem s744 (a b : Int) : intsEq (.v (.int .i64 a) :: vs) (.v (.int .i64 b) :: ws) = bnd (intsEq vs ws) fun g => some (a == b && g) := id rfl
@[simp, go_sem] theorem s745 (c : Call) : valOp P s (.call c) = bnd (mapSome s.ev c.args.toList) fun vs => valCall vs c.callee := id rfl
@[simp, go_sem] theorem s746 (z : Builtin) : valCall vs (.builtin z) = valMM z vs := id rfl
@[simp, go_sem] theorem s747 (a b : Int) : valMM .max [.v (.int .i64 a), .v (.int .i64 b)] = some (.v (.int .i64 (max a b))) := id rfl
@[simp, go_sem] theorem s748 (a b : Int) : valMM .min [.v (.int .i64 a), .v (.int .i64 b)] = some (.v (.int .i64 (min a b))) := id rfl
@[simp, go_sem] theorem s749 (w : Option Nat) : barApp P s w n rows (.inn p m q kk) = bnd (s.rows (.inn p m q kk)) fun rs0 => grd (sizeOk P n (rs0.length + rows.length) = true ∧ wid (P.cellsOf n) rs0 = true ∧ wid (P.cellsOf n) rows = true) (bnd (look p s.tree) fun rs => bnd rs[m]? fun r => grd (¬ (1000000000 ≤ p ∧ p < 2000000000)) (bnd w fun t => grd (fresh s t = true) (some ⟨.own t, innB p s.box, (t, rs0 ++ rows) :: upd p (rs.set m (r.set q .gone)) s.tree, [], [p]⟩))) := id rfl
@[simp, go_sem] theorem s750 (os : Array Oper) (w : Option Nat) (l ks : List Nat) (b : List (Nat × List V)) (tt : List (Nat × List (List D))) : drwApp P os s w l ⟨x, b, tt, ks, []⟩ = grdEq b s.box (bnd (keepFl os s ks l) fun _ => some (s.barred w ⟨x, b, tt, ks, []⟩)) := id rfl
@[simp, go_sem] theorem s751 (os : Array Oper) (w : Option Nat) (l ks r : List Nat) (b : List (Nat × List V)) (tt : List (Nat × List (List D))) : drwApp P os s w l ⟨x, b, tt, ks, n :: r⟩ = grd (valsFl os l = true) (bnd (sameVals P os s (s.barred w ⟨x, b, tt, ks, n :: r⟩) l) fun _ => some (s.barred w ⟨x, b, tt, ks, n :: r⟩)) := id rfl
@[simp, go_sem] theorem s752 (os : Array Oper) : valsFl os [] = true := id rfl
@[simp, go_sem] theorem s753 (os : Array Oper) (l : List Nat) : valsFl os (n :: l) = (valAt os[n]? && valsFl os l) := id rfl
@[simp, go_sem] theorem s754 (w : Option Nat) (op : Op) (tt : TypeId) (pp : String) (af : Array Edge) (gu : Option (Nat × Bool)) : valAt (some ⟨w, op, tt, pp, af, gu⟩) = isVal op := id rfl
@[simp, go_sem] theorem s755 : isVal (.move o) = true := id rfl
@[simp, go_sem] theorem s756 : isVal (.load n o) = true := id rfl
@[simp, go_sem] theorem s757 : isVal (.fieldAddr n o m) = true := id rfl
@[simp, go_sem] theorem s758 : isVal (.indexAddr n o o1) = true := id rfl
@[simp, go_sem] theorem s759 : isVal (.extract o n) = true := id rfl
@[simp, go_sem] theorem s760 : isVal (.field n o m) = true := id rfl
@[simp, go_sem] theorem s761 : isVal (.index n o o1) = true := id rfl
@[simp, go_sem] theorem s762 (z : BinOp) : isVal (.binOp z n o o1 m) = true := id rfl
@[simp, go_sem] theorem s763 (z : UnOp) : isVal (.unOp z n o) = true := id rfl
@[simp, go_sem] theorem s764 : storeRef s x (.pe (.own q) kk p m) = storeAtom s q kk p m x.atom := id rfl
@[simp, go_sem] theorem s765 : storeAtom s q kk p m none = none := id rfl
@[simp, go_sem] theorem s766 (d1 : D) : storeAtom s q kk p m (some d1) = bnd (look q s.tree) fun rs => bnd rs[p]? fun r => bnd r[m]? fun d0 => grd (r.length = kk ∧ flatD d0 = true ∧ oneD d1 = true) (some ⟨.tup [], s.box, upd q (rs.set p (r.set m d1)) s.tree, [], []⟩) := id rfl
end
end Go.Proofs.YtjhdikdopdcfcaaGreatDoor
namespace Go.Proofs.YtjhdikdopdcfcaaGreatDoor
open Go.RowKit
@[simp, go_sem] theorem ts3 : sizedT Tryz.prog 3 = true := eqOf (by kernel_rfl)
@[simp, go_sem] theorem to3 : zeroOk Tryz.prog 3 = true := eqOf (by kernel_rfl)
@[simp, go_sem] theorem tc3 : Tryz.prog.cellsOf 3 = 1 := eqOf (by kernel_rfl)
@[simp, go_sem] theorem tb3 : Tryz.prog.bytesOf 3 = 8 := eqOf (by kernel_rfl)
@[simp, go_sem] theorem ta3 : aggT Tryz.prog 3 = some false := eqOf (by kernel_rfl)
@[simp, go_sem] theorem tz3 : zeroV Tryz.prog 3 = some [.v (.int .i64 0)] := eqOf (by kernel_rfl)
@[simp, go_sem] theorem ts4 : sizedT Tryz.prog 4 = true := eqOf (by kernel_rfl)
@[simp, go_sem] theorem to4 : zeroOk Tryz.prog 4 = true := eqOf (by kernel_rfl)
@[simp, go_sem] theorem tc4 : Tryz.prog.cellsOf 4 = 1 := eqOf (by kernel_rfl)
@[simp, go_sem] theorem tb4 : Tryz.prog.bytesOf 4 = 1 := eqOf (by kernel_rfl)
@[simp, go_sem] theorem ta4 : aggT Tryz.prog 4 = some false := eqOf (by kernel_rfl)
@[simp, go_sem] theorem tz4 : zeroV Tryz.prog 4 = some [.v (.bool false)] := eqOf (by kernel_rfl)
@[simp, go_sem] theorem ts5 : sizedT Tryz.prog 5 = true := eqOf (by kernel_rfl)
@[simp, go_sem] theorem to5 : zeroOk Tryz.prog 5 = true := eqOf (by kernel_rfl)
@[simp, go_sem] theorem tc5 : Tryz.prog.cellsOf 5 = 1 := eqOf (by kernel_rfl)
@[simp, go_sem] theorem tb5 : Tryz.prog.bytesOf 5 = 1 := eqOf (by kernel_rfl)
@[simp, go_sem] theorem ta5 : aggT Tryz.prog 5 = some false := eqOf (by kernel_rfl)
@[simp, go_sem] theorem tz5 : zeroV Tryz.prog 5 = some [.v (.int .u8 0)] := eqOf (by kernel_rfl)
@[simp, go_sem] theorem ts9 : sizedT Tryz.prog 9 = true := eqOf (by kernel_rfl)
@[simp, go_sem] theorem to9 : zeroOk Tryz.prog 9 = true := eqOf (by kernel_rfl)
@[simp, go_sem] theorem tc9 : Tryz.prog.cellsOf 9 = 1 := eqOf (by kernel_rfl)
@[simp, go_sem] theorem tb9 : Tryz.prog.bytesOf 9 = 16 := eqOf (by kernel_rfl)
@[simp, go_sem] theorem ta9 : aggT Tryz.prog 9 = some false := eqOf (by kernel_rfl)
@[simp, go_sem] theorem tz9 : zeroV Tryz.prog 9 = some [.v (.string ⟨#[]⟩)] := eqOf (by kernel_rfl)
@[simp, go_sem] theorem tw9 : seqT Tryz.prog 9 = true := eqOf (by kernel_rfl)
@[simp, go_sem] theorem tx9 : strT Tryz.prog 9 = true := eqOf (by kernel_rfl)
@[simp, go_sem] theorem ts21 : sizedT Tryz.prog 21 = true := eqOf (by kernel_rfl)
@[simp, go_sem] theorem to21 : zeroOk Tryz.prog 21 = true := eqOf (by kernel_rfl)
@[simp, go_sem] theorem tc21 : Tryz.prog.cellsOf 21 = 1 := eqOf (by kernel_rfl)
@[simp, go_sem] theorem tb21 : Tryz.prog.bytesOf 21 = 4 := eqOf (by kernel_rfl)
@[simp, go_sem] theorem ta21 : aggT Tryz.prog 21 = some false := eqOf (by kernel_rfl)
@[simp, go_sem] theorem tz21 : zeroV Tryz.prog 21 = some [.v (.int .i32 0)] := eqOf (by kernel_rfl)
@[simp, go_sem] theorem ts22 : sizedT Tryz.prog 22 = true := eqOf (by kernel_rfl)
@[simp, go_sem] theorem to22 : zeroOk Tryz.prog 22 = true := eqOf (by kernel_rfl)
@[simp, go_sem] theorem tc22 : Tryz.prog.cellsOf 22 = 1 := eqOf (by kernel_rfl)
@[simp, go_sem] theorem tb22 : Tryz.prog.bytesOf 22 = 24 := eqOf (by kernel_rfl)
@[simp, go_sem] theorem ta22 : aggT Tryz.prog 22 = some false := eqOf (by kernel_rfl)
@[simp, go_sem] theorem tz22 : zeroV Tryz.prog 22 = some [.nil] := eqOf (by kernel_rfl)
@[simp, go_sem] theorem te22 : elemOfT Tryz.prog 22 = some (5, none) := eqOf (by kernel_rfl)
@[simp, go_sem] theorem tw22 : seqT Tryz.prog 22 = true := eqOf (by kernel_rfl)
@[simp, go_sem] theorem tx22 : lstT Tryz.prog 22 = true := eqOf (by kernel_rfl)
@[simp, go_sem] theorem ts23 : sizedT Tryz.prog 23 = true := eqOf (by kernel_rfl)
@[simp, go_sem] theorem to23 : zeroOk Tryz.prog 23 = true := eqOf (by kernel_rfl)
@[simp, go_sem] theorem tc23 : Tryz.prog.cellsOf 23 = 1 := eqOf (by kernel_rfl)
@[simp, go_sem] theorem tb23 : Tryz.prog.bytesOf 23 = 24 := eqOf (by kernel_rfl)
@[simp, go_sem] theorem ta23 : aggT Tryz.prog 23 = some false := eqOf (by kernel_rfl)
@[simp, go_sem] theorem tz23 : zeroV Tryz.prog 23 = some [.nil] := eqOf (by kernel_rfl)
@[simp, go_sem] theorem te23 : elemOfT Tryz.prog 23 = some (3, none) := eqOf (by kernel_rfl)
@[simp, go_sem] theorem tw23 : seqT Tryz.prog 23 = true := eqOf (by kernel_rfl)
@[simp, go_sem] theorem tx23 : lstT Tryz.prog 23 = true := eqOf (by kernel_rfl)
@[simp, go_sem] theorem ts25 : sizedT Tryz.prog 25 = true := eqOf (by kernel_rfl)
@[simp, go_sem] theorem to25 : zeroOk Tryz.prog 25 = true := eqOf (by kernel_rfl)
@[simp, go_sem] theorem tc25 : Tryz.prog.cellsOf 25 = 2 := eqOf (by kernel_rfl)
@[simp, go_sem] theorem tb25 : Tryz.prog.bytesOf 25 = 32 := eqOf (by kernel_rfl)
@[simp, go_sem] theorem ta25 : aggT Tryz.prog 25 = some true := eqOf (by kernel_rfl)
@[simp, go_sem] theorem tz25 : zeroV Tryz.prog 25 = some [.nil, .v (.int .i64 0)] := eqOf (by kernel_rfl)
@[simp, go_sem] theorem tr25 : fieldsOk Tryz.prog 25 = true := eqOf (by kernel_rfl)
@[simp, go_sem] theorem tf25_0 : fieldOf Tryz.prog 25 0 = some (0, 23) := eqOf (by kernel_rfl)
@[simp, go_sem] theorem tf25_1 : fieldOf Tryz.prog 25 1 = some (1, 3) := eqOf (by kernel_rfl)
@[simp, go_sem] theorem ts26 : sizedT Tryz.prog 26 = true := eqOf (by kernel_rfl)
@[simp, go_sem] theorem to26 : zeroOk Tryz.prog 26 = true := eqOf (by kernel_rfl)
@[simp, go_sem] theorem tc26 : Tryz.prog.cellsOf 26 = 1 := eqOf (by kernel_rfl)
@[simp, go_sem] theorem tb26 : Tryz.prog.bytesOf 26 = 24 := eqOf (by kernel_rfl)
@[simp, go_sem] theorem ta26 : aggT Tryz.prog 26 = some false := eqOf (by kernel_rfl)
@[simp, go_sem] theorem tz26 : zeroV Tryz.prog 26 = some [.nil] := eqOf (by kernel_rfl)
@[simp, go_sem] theorem te26 : elemOfT Tryz.prog 26 = some (92, none) := eqOf (by kernel_rfl)
@[simp, go_sem] theorem tw26 : seqT Tryz.prog 26 = true := eqOf (by kernel_rfl)
@[simp, go_sem] theorem tx26 : lstT Tryz.prog 26 = true := eqOf (by kernel_rfl)
@[simp, go_sem] theorem ts28 : sizedT Tryz.prog 28 = true := eqOf (by kernel_rfl)
@[simp, go_sem] theorem to28 : zeroOk Tryz.prog 28 = true := eqOf (by kernel_rfl)
@[simp, go_sem] theorem tc28 : Tryz.prog.cellsOf 28 = 1 := eqOf (by kernel_rfl)
@[simp, go_sem] theorem tb28 : Tryz.prog.bytesOf 28 = 24 := eqOf (by kernel_rfl)
@[simp, go_sem] theorem ta28 : aggT Tryz.prog 28 = some true := eqOf (by kernel_rfl)
@[simp, go_sem] theorem tz28 : zeroV Tryz.prog 28 = some [.nil] := eqOf (by kernel_rfl)
@[simp, go_sem] theorem tr28 : fieldsOk Tryz.prog 28 = true := eqOf (by kernel_rfl)
@[simp, go_sem] theorem tf28_0 : fieldOf Tryz.prog 28 0 = some (0, 26) := eqOf (by kernel_rfl)
@[simp, go_sem] theorem ts29 : sizedT Tryz.prog 29 = true := eqOf (by kernel_rfl)
@[simp, go_sem] theorem to29 : zeroOk Tryz.prog 29 = true := eqOf (by kernel_rfl)
@[simp, go_sem] theorem tc29 : Tryz.prog.cellsOf 29 = 1 := eqOf (by kernel_rfl)
@[simp, go_sem] theorem tb29 : Tryz.prog.bytesOf 29 = 24 := eqOf (by kernel_rfl)
@[simp, go_sem] theorem ta29 : aggT Tryz.prog 29 = some false := eqOf (by kernel_rfl)
@[simp, go_sem] theorem tz29 : zeroV Tryz.prog 29 = some [.nil] := eqOf (by kernel_rfl)
@[simp, go_sem] theorem te29 : elemOfT Tryz.prog 29 = some (25, none) := eqOf (by kernel_rfl)
@[simp, go_sem] theorem tw29 : seqT Tryz.prog 29 = true := eqOf (by kernel_rfl)
@[simp, go_sem] theorem tx29 : lstT Tryz.prog 29 = true := eqOf (by kernel_rfl)
@[simp, go_sem] theorem ts31 : sizedT Tryz.prog 31 = true := eqOf (by kernel_rfl)
@[simp, go_sem] theorem to31 : zeroOk Tryz.prog 31 = true := eqOf (by kernel_rfl)
@[simp, go_sem] theorem tc31 : Tryz.prog.cellsOf 31 = 1 := eqOf (by kernel_rfl)
@[simp, go_sem] theorem tb31 : Tryz.prog.bytesOf 31 = 24 := eqOf (by kernel_rfl)
@[simp, go_sem] theorem ta31 : aggT Tryz.prog 31 = some true := eqOf (by kernel_rfl)
@[simp, go_sem] theorem tz31 : zeroV Tryz.prog 31 = some [.nil] := eqOf (by kernel_rfl)
@[simp, go_sem] theorem tr31 : fieldsOk Tryz.prog 31 = true := eqOf (by kernel_rfl)
@[simp, go_sem] theorem tf31_0 : fieldOf Tryz.prog 31 0 = some (0, 29) := eqOf (by kernel_rfl)
@[simp, go_sem] theorem ts33 : sizedT Tryz.prog 33 = true := eqOf (by kernel_rfl)
@[simp, go_sem] theorem to33 : zeroOk Tryz.prog 33 = true := eqOf (by kernel_rfl)
@[simp, go_sem] theorem tc33 : Tryz.prog.cellsOf 33 = 20 := eqOf (by kernel_rfl)
@[simp, go_sem] theorem tb33 : Tryz.prog.bytesOf 33 = 256 := eqOf (by kernel_rfl)
@[simp, go_sem] theorem ta33 : aggT Tryz.prog 33 = some true := eqOf (by kernel_rfl)
@[simp, go_sem] theorem tz33 : zeroV Tryz.prog 33 = some [.v (.bool false), .v (.int .i64 0), .nil, .v (.int .i64 0), .v (.int .i64 0), .v (.int .i64 0), .v (.int .i64 0), .v (.int .i64 0), .v (.int .i64 0), .v (.int .i64 0), .v (.int .i64 0), .nil, .nil, .v (.int .i64 0), .nil, .v (.int .i64 0), .nil, .v (.int .i64 0), .nil, .v (.int .i64 0)] := eqOf (by kernel_rfl)
@[simp, go_sem] theorem tr33 : fieldsOk Tryz.prog 33 = true := eqOf (by kernel_rfl)
@[simp, go_sem] theorem tf33_0 : fieldOf Tryz.prog 33 0 = some (0, 4) := eqOf (by kernel_rfl)
@[simp, go_sem] theorem tf33_1 : fieldOf Tryz.prog 33 1 = some (1, 3) := eqOf (by kernel_rfl)
@[simp, go_sem] theorem tf33_2 : fieldOf Tryz.prog 33 2 = some (2, 25) := eqOf (by kernel_rfl)
@[simp, go_sem] theorem tf33_3 : fieldOf Tryz.prog 33 3 = some (4, 3) := eqOf (by kernel_rfl)
@[simp, go_sem] theorem tf33_4 : fieldOf Tryz.prog 33 4 = some (5, 3) := eqOf (by kernel_rfl)
@[simp, go_sem] theorem tf33_5 : fieldOf Tryz.prog 33 5 = some (6, 3) := eqOf (by kernel_rfl)
@[simp, go_sem] theorem tf33_6 : fieldOf Tryz.prog 33 6 = some (7, 3) := eqOf (by kernel_rfl)
@[simp, go_sem] theorem tf33_7 : fieldOf Tryz.prog 33 7 = some (8, 3) := eqOf (by kernel_rfl)
@[simp, go_sem] theorem tf33_8 : fieldOf Tryz.prog 33 8 = some (9, 3) := eqOf (by kernel_rfl)
@[simp, go_sem] theorem tf33_9 : fieldOf Tryz.prog 33 9 = some (10, 3) := eqOf (by kernel_rfl)
@[simp, go_sem] theorem tf33_10 : fieldOf Tryz.prog 33 10 = some (11, 28) := eqOf (by kernel_rfl)
@[simp, go_sem] theorem tf33_11 : fieldOf Tryz.prog 33 11 = some (12, 31) := eqOf (by kernel_rfl)
@[simp, go_sem] theorem tf33_12 : fieldOf Tryz.prog 33 12 = some (13, 3) := eqOf (by kernel_rfl)
@[simp, go_sem] theorem tf33_13 : fieldOf Tryz.prog 33 13 = some (14, 25) := eqOf (by kernel_rfl)
@[simp, go_sem] theorem tf33_14 : fieldOf Tryz.prog 33 14 = some (16, 23) := eqOf (by kernel_rfl)
@[simp, go_sem] theorem tf33_15 : fieldOf Tryz.prog 33 15 = some (17, 3) := eqOf (by kernel_rfl)
@[simp, go_sem] theorem tf33_16 : fieldOf Tryz.prog 33 16 = some (18, 25) := eqOf (by kernel_rfl)
@[simp, go_sem] theorem ts34 : sizedT Tryz.prog 34 = true := eqOf (by kernel_rfl)
@[simp, go_sem] theorem to34 : zeroOk Tryz.prog 34 = true := eqOf (by kernel_rfl)
@[simp, go_sem] theorem tc34 : Tryz.prog.cellsOf 34 = 1 := eqOf (by kernel_rfl)
@[simp, go_sem] theorem tb34 : Tryz.prog.bytesOf 34 = 24 := eqOf (by kernel_rfl)
@[simp, go_sem] theorem ta34 : aggT Tryz.prog 34 = some false := eqOf (by kernel_rfl)
@[simp, go_sem] theorem tz34 : zeroV Tryz.prog 34 = some [.nil] := eqOf (by kernel_rfl)
@[simp, go_sem] theorem te34 : elemOfT Tryz.prog 34 = some (9, none) := eqOf (by kernel_rfl)
@[simp, go_sem] theorem tw34 : seqT Tryz.prog 34 = true := eqOf (by kernel_rfl)
@[simp, go_sem] theorem tx34 : lstT Tryz.prog 34 = true := eqOf (by kernel_rfl)
@[simp, go_sem] theorem ts36 : sizedT Tryz.prog 36 = true := eqOf (by kernel_rfl)
@[simp, go_sem] theorem to36 : zeroOk Tryz.prog 36 = true := eqOf (by kernel_rfl)
@[simp, go_sem] theorem tc36 : Tryz.prog.cellsOf 36 = 2 := eqOf (by kernel_rfl)
@[simp, go_sem] theorem tb36 : Tryz.prog.bytesOf 36 = 32 := eqOf (by kernel_rfl)
@[simp, go_sem] theorem ta36 : aggT Tryz.prog 36 = some true := eqOf (by kernel_rfl)
@[simp, go_sem] theorem tz36 : zeroV Tryz.prog 36 = some [.v (.int .i64 0), .nil] := eqOf (by kernel_rfl)
@[simp, go_sem] theorem tr36 : fieldsOk Tryz.prog 36 = true := eqOf (by kernel_rfl)
@[simp, go_sem] theorem tf36_0 : fieldOf Tryz.prog 36 0 = some (0, 3) := eqOf (by kernel_rfl)
@[simp, go_sem] theorem tf36_1 : fieldOf Tryz.prog 36 1 = some (1, 34) := eqOf (by kernel_rfl)
@[simp, go_sem] theorem ts58 : sizedT Tryz.prog 58 = true := eqOf (by kernel_rfl)
@[simp, go_sem] theorem to58 : zeroOk Tryz.prog 58 = true := eqOf (by kernel_rfl)
@[simp, go_sem] theorem tc58 : Tryz.prog.cellsOf 58 = 3 := eqOf (by kernel_rfl)
@[simp, go_sem] theorem tb58 : Tryz.prog.bytesOf 58 = 40 := eqOf (by kernel_rfl)
@[simp, go_sem] theorem ta58 : aggT Tryz.prog 58 = some true := eqOf (by kernel_rfl)
@[simp, go_sem] theorem tz58 : zeroV Tryz.prog 58 = some [.nil, .v (.int .i64 0), .v (.int .i64 0)] := eqOf (by kernel_rfl)
@[simp, go_sem] theorem tr58 : fieldsOk Tryz.prog 58 = true := eqOf (by kernel_rfl)
@[simp, go_sem] theorem tf58_0 : fieldOf Tryz.prog 58 0 = some (0, 22) := eqOf (by kernel_rfl)
@[simp, go_sem] theorem tf58_1 : fieldOf Tryz.prog 58 1 = some (1, 3) := eqOf (by kernel_rfl)
@[simp, go_sem] theorem tf58_2 : fieldOf Tryz.prog 58 2 = some (2, 3) := eqOf (by kernel_rfl)
@[simp, go_sem] theorem ts59 : sizedT Tryz.prog 59 = true := eqOf (by kernel_rfl)
@[simp, go_sem] theorem to59 : zeroOk Tryz.prog 59 = true := eqOf (by kernel_rfl)
@[simp, go_sem] theorem tc59 : Tryz.prog.cellsOf 59 = 1 := eqOf (by kernel_rfl)
@[simp, go_sem] theorem tb59 : Tryz.prog.bytesOf 59 = 24 := eqOf (by kernel_rfl)
@[simp, go_sem] theorem ta59 : aggT Tryz.prog 59 = some false := eqOf (by kernel_rfl)
@[simp, go_sem] theorem tz59 : zeroV Tryz.prog 59 = some [.nil] := eqOf (by kernel_rfl)
@[simp, go_sem] theorem te59 : elemOfT Tryz.prog 59 = some (62, none) := eqOf (by kernel_rfl)
@[simp, go_sem] theorem tw59 : seqT Tryz.prog 59 = true := eqOf (by kernel_rfl)
@[simp, go_sem] theorem tx59 : lstT Tryz.prog 59 = true := eqOf (by kernel_rfl)
@[simp, go_sem] theorem ts62 : sizedT Tryz.prog 62 = true := eqOf (by kernel_rfl)
@[simp, go_sem] theorem to62 : zeroOk Tryz.prog 62 = true := eqOf (by kernel_rfl)
@[simp, go_sem] theorem tc62 : Tryz.prog.cellsOf 62 = 2 := eqOf (by kernel_rfl)
@[simp, go_sem] theorem tb62 : Tryz.prog.bytesOf 62 = 16 := eqOf (by kernel_rfl)
@[simp, go_sem] theorem ta62 : aggT Tryz.prog 62 = some true := eqOf (by kernel_rfl)
@[simp, go_sem] theorem tz62 : zeroV Tryz.prog 62 = some [.v (.int .i64 0), .v (.int .i64 0)] := eqOf (by kernel_rfl)
@[simp, go_sem] theorem tq62 : eqT Tryz.prog 62 = some 2 := eqOf (by kernel_rfl)
@[simp, go_sem] theorem tr62 : fieldsOk Tryz.prog 62 = true := eqOf (by kernel_rfl)
@[simp, go_sem] theorem tf62_0 : fieldOf Tryz.prog 62 0 = some (0, 3) := eqOf (by kernel_rfl)
@[simp, go_sem] theorem tf62_1 : fieldOf Tryz.prog 62 1 = some (1, 3) := eqOf (by kernel_rfl)
@[simp, go_sem] theorem ts92 : sizedT Tryz.prog 92 = true := eqOf (by kernel_rfl)
@[simp, go_sem] theorem to92 : zeroOk Tryz.prog 92 = true := eqOf (by kernel_rfl)
@[simp, go_sem] theorem tc92 : Tryz.prog.cellsOf 92 = 1 := eqOf (by kernel_rfl)
@[simp, go_sem] theorem tb92 : Tryz.prog.bytesOf 92 = 24 := eqOf (by kernel_rfl)
@[simp, go_sem] theorem ta92 : aggT Tryz.prog 92 = some true := eqOf (by kernel_rfl)
@[simp, go_sem] theorem tz92 : zeroV Tryz.prog 92 = some [.nil] := eqOf (by kernel_rfl)
@[simp, go_sem] theorem tr92 : fieldsOk Tryz.prog 92 = true := eqOf (by kernel_rfl)
@[simp, go_sem] theorem tf92_0 : fieldOf Tryz.prog 92 0 = some (0, 23) := eqOf (by kernel_rfl)
@[simp, go_sem] theorem ts129 : sizedT Tryz.prog 129 = true := eqOf (by kernel_rfl)
@[simp, go_sem] theorem to129 : zeroOk Tryz.prog 129 = true := eqOf (by kernel_rfl)
@[simp, go_sem] theorem tc129 : Tryz.prog.cellsOf 129 = 1 := eqOf (by kernel_rfl)
@[simp, go_sem] theorem tb129 : Tryz.prog.bytesOf 129 = 8 := eqOf (by kernel_rfl)
@[simp, go_sem] theorem ta129 : aggT Tryz.prog 129 = some false := eqOf (by kernel_rfl)
@[simp, go_sem] theorem tm129 : mapT Tryz.prog 129 = some 0 := eqOf (by kernel_rfl)
@[simp, go_sem] theorem ts146 : sizedT Tryz.prog 146 = true := eqOf (by kernel_rfl)
@[simp, go_sem] theorem to146 : zeroOk Tryz.prog 146 = true := eqOf (by kernel_rfl)
@[simp, go_sem] theorem tc146 : Tryz.prog.cellsOf 146 = 1 := eqOf (by kernel_rfl)
@[simp, go_sem] theorem tb146 : Tryz.prog.bytesOf 146 = 4 := eqOf (by kernel_rfl)
@[simp, go_sem] theorem ta146 : aggT Tryz.prog 146 = some false := eqOf (by kernel_rfl)
@[simp, go_sem] theorem tz146 : zeroV Tryz.prog 146 = some [.v (.int .u32 0)] := eqOf (by kernel_rfl)
@[simp, go_sem] theorem ts161 : sizedT Tryz.prog 161 = true := eqOf (by kernel_rfl)
@[simp, go_sem] theorem to161 : zeroOk Tryz.prog 161 = true := eqOf (by kernel_rfl)
@[simp, go_sem] theorem tc161 : Tryz.prog.cellsOf 161 = 256 := eqOf (by kernel_rfl)
@[simp, go_sem] theorem tb161 : Tryz.prog.bytesOf 161 = 256 := eqOf (by kernel_rfl)
@[simp, go_sem] theorem ta161 : aggT Tryz.prog 161 = some true := eqOf (by kernel_rfl)
@[simp, go_sem] theorem tz161 : zeroV Tryz.prog 161 = some [.v (.int .u8 0), .v (.int .u8 0), .v (.int .u8 0), .v (.int .u8 0), .v (.int .u8 0), .v (.int .u8 0), .v (.int .u8 0), .v (.int .u8 0), .v (.int .u8 0), .v (.int .u8 0), .v (.int .u8 0), .v (.int .u8 0), .v (.int .u8 0), .v (.int .u8 0), .v (.int .u8 0), .v (.int .u8 0), .v (.int .u8 0), .v (.int .u8 0), .v (.int .u8 0), .v (.int .u8 0), .v (.int .u8 0), .v (.int .u8 0), .v (.int .u8 0), .v (.int .u8 0), .v (.int .u8 0), .v (.int .u8 0), .v (.int .u8 0), .v (.int .u8 0), .v (.int .u8 0), .v (.int .u8 0), .v (.int .u8 0), .v (.int .u8 0), .v (.int .u8 0), .v (.int .u8 0), .v (.int .u8 0), .v (.int .u8 0), .v (.int .u8 0), .v (.int .u8 0), .v (.int .u8 0), .v (.int .u8 0), .v (.int .u8 0), .v (.int .u8 0), .v (.int .u8 0), .v (.int .u8 0), .v (.int .u8 0), .v (.int .u8 0), .v (.int .u8 0), .v (.int .u8 0), .v (.int .u8 0), .v (.int .u8 0), .v (.int .u8 0), .v (.int .u8 0), .v (.int .u8 0), .v (.int .u8 0), .v (.int .u8 0), .v (.int .u8 0), .v (.int .u8 0), .v (.int .u8 0), .v (.int .u8 0), .v (.int .u8 0), .v (.int .u8 0), .v (.int .u8 0), .v (.int .u8 0), .v (.int .u8 0), .v (.int .u8 0), .v (.int .u8 0), .v (.int .u8 0), .v (.int .u8 0), .v (.int .u8 0), .v (.int .u8 0), .v (.int .u8 0), .v (.int .u8 0), .v (.int .u8 0), .v (.int .u8 0), .v (.int .u8 0), .v (.int .u8 0), .v (.int .u8 0), .v (.int .u8 0), .v (.int .u8 0), .v (.int .u8 0), .v (.int .u8 0), .v (.int .u8 0), .v (.int .u8 0), .v (.int .u8 0), .v (.int .u8 0), .v (.int .u8 0), .v (.int .u8 0), .v (.int .u8 0), .v (.int .u8 0), .v (.int .u8 0), .v (.int .u8 0), .v (.int .u8 0), .v (.int .u8 0), .v (.int .u8 0), .v (.int .u8 0), .v (.int .u8 0), .v (.int .u8 0), .v (.int .u8 0), .v (.int .u8 0), .v (.int .u8 0), .v (.int .u8 0), .v (.int .u8 0), .v (.int .u8 0), .v (.int .u8 0), .v (.int .u8 0), .v (.int .u8 0), .v (.int .u8 0), .v (.int .u8 0), .v (.int .u8 0), .v (.int .u8 0), .v (.int .u8 0), .v (.int .u8 0), .v (.int .u8 0), .v (.int .u8 0), .v (.int .u8 0), .v (.int .u8 0), .v (.int .u8 0), .v (.int .u8 0), .v (.int .u8 0), .v (.int .u8 0), .v (.int .u8 0), .v (.int .u8 0), .v (.int .u8 0), .v (.int .u8 0), .v (.int .u8 0), .v (.int .u8 0), .v (.int .u8 0), .v (.int .u8 0), .v (.int .u8 0), .v (.int .u8 0), .v (.int .u8 0), .v (.int .u8 0), .v (.int .u8 0), .v (.int .u8 0), .v (.int .u8 0), .v (.int .u8 0), .v (.int .u8 0), .v (.int .u8 0), .v (.int .u8 0), .v (.int .u8 0), .v (.int .u8 0), .v (.int .u8 0), .v (.int .u8 0), .v (.int .u8 0), .v (.int .u8 0), .v (.int .u8 0), .v (.int .u8 0), .v (.int .u8 0), .v (.int .u8 0), .v (.int .u8 0), .v (.int .u8 0), .v (.int .u8 0), .v (.int .u8 0), .v (.int .u8 0), .v (.int .u8 0), .v (.int .u8 0), .v (.int .u8 0), .v (.int .u8 0), .v (.int .u8 0), .v (.int .u8 0), .v (.int .u8 0), .v (.int .u8 0), .v (.int .u8 0), .v (.int .u8 0), .v (.int .u8 0), .v (.int .u8 0), .v (.int .u8 0), .v (.int .u8 0), .v (.int .u8 0), .v (.int .u8 0), .v (.int .u8 0), .v (.int .u8 0), .v (.int .u8 0), .v (.int .u8 0), .v (.int .u8 0), .v (.int .u8 0), .v (.int .u8 0), .v (.int .u8 0), .v (.int .u8 0), .v (.int .u8 0), .v (.int .u8 0), .v (.int .u8 0), .v (.int .u8 0), .v (.int .u8 0), .v (.int .u8 0), .v (.int .u8 0), .v (.int .u8 0), .v (.int .u8 0), .v (.int .u8 0), .v (.int .u8 0), .v (.int .u8 0), .v (.int .u8 0), .v (.int .u8 0), .v (.int .u8 0), .v (.int .u8 0), .v (.int .u8 0), .v (.int .u8 0), .v (.int .u8 0), .v (.int .u8 0), .v (.int .u8 0), .v (.int .u8 0), .v (.int .u8 0), .v (.int .u8 0), .v (.int .u8 0), .v (.int .u8 0), .v (.int .u8 0), .v (.int .u8 0), .v (.int .u8 0), .v (.int .u8 0), .v (.int .u8 0), .v (.int .u8 0), .v (.int .u8 0), .v (.int .u8 0), .v (.int .u8 0), .v (.int .u8 0), .v (.int .u8 0), .v (.int .u8 0), .v (.int .u8 0), .v (.int .u8 0), .v (.int .u8 0), .v (.int .u8 0), .v (.int .u8 0), .v (.int .u8 0), .v (.int .u8 0), .v (.int .u8 0), .v (.int .u8 0), .v (.int .u8 0), .v (.int .u8 0), .v (.int .u8 0), .v (.int .u8 0), .v (.int .u8 0), .v (.int .u8 0), .v (.int .u8 0), .v (.int .u8 0), .v (.int .u8 0), .v (.int .u8 0), .v (.int .u8 0), .v (.int .u8 0), .v (.int .u8 0), .v (.int .u8 0), .v (.int .u8 0), .v (.int .u8 0), .v (.int .u8 0), .v (.int .u8 0), .v (.int .u8 0), .v (.int .u8 0), .v (.int .u8 0), .v (.int .u8 0), .v (.int .u8 0), .v (.int .u8 0), .v (.int .u8 0), .v (.int .u8 0), .v (.int .u8 0), .v (.int .u8 0), .v (.int .u8 0), .v (.int .u8 0)] := eqOf (by kernel_rfl)
@[simp, go_sem] theorem te161 : elemOfT Tryz.prog 161 = some (5, some 256) := eqOf (by kernel_rfl)
@[simp, go_sem] theorem tr161 : fieldsOk Tryz.prog 161 = true := eqOf (by kernel_rfl)
@[simp, go_sem] theorem ts163 : sizedT Tryz.prog 163 = true := eqOf (by kernel_rfl)
@[simp, go_sem] theorem to163 : zeroOk Tryz.prog 163 = true := eqOf (by kernel_rfl)
@[simp, go_sem] theorem tc163 : Tryz.prog.cellsOf 163 = 2 := eqOf (by kernel_rfl)
@[simp, go_sem] theorem tb163 : Tryz.prog.bytesOf 163 = 2 := eqOf (by kernel_rfl)
@[simp, go_sem] theorem ta163 : aggT Tryz.prog 163 = some true := eqOf (by kernel_rfl)
@[simp, go_sem] theorem tz163 : zeroV Tryz.prog 163 = some [.v (.int .u8 0), .v (.int .u8 0)] := eqOf (by kernel_rfl)
@[simp, go_sem] theorem tr163 : fieldsOk Tryz.prog 163 = true := eqOf (by kernel_rfl)
@[simp, go_sem] theorem tf163_0 : fieldOf Tryz.prog 163 0 = some (0, 5) := eqOf (by kernel_rfl)
@[simp, go_sem] theorem tf163_1 : fieldOf Tryz.prog 163 1 = some (1, 5) := eqOf (by kernel_rfl)
@[simp, go_sem] theorem ts164 : sizedT Tryz.prog 164 = true := eqOf (by kernel_rfl)
@[simp, go_sem] theorem to164 : zeroOk Tryz.prog 164 = true := eqOf (by kernel_rfl)
@[simp, go_sem] theorem tc164 : Tryz.prog.cellsOf 164 = 32 := eqOf (by kernel_rfl)
@[simp, go_sem] theorem tb164 : Tryz.prog.bytesOf 164 = 32 := eqOf (by kernel_rfl)
@[simp, go_sem] theorem ta164 : aggT Tryz.prog 164 = some true := eqOf (by kernel_rfl)
@[simp, go_sem] theorem tz164 : zeroV Tryz.prog 164 = some [.v (.int .u8 0), .v (.int .u8 0), .v (.int .u8 0), .v (.int .u8 0), .v (.int .u8 0), .v (.int .u8 0), .v (.int .u8 0), .v (.int .u8 0), .v (.int .u8 0), .v (.int .u8 0), .v (.int .u8 0), .v (.int .u8 0), .v (.int .u8 0), .v (.int .u8 0), .v (.int .u8 0), .v (.int .u8 0), .v (.int .u8 0), .v (.int .u8 0), .v (.int .u8 0), .v (.int .u8 0), .v (.int .u8 0), .v (.int .u8 0), .v (.int .u8 0), .v (.int .u8 0), .v (.int .u8 0), .v (.int .u8 0), .v (.int .u8 0), .v (.int .u8 0), .v (.int .u8 0), .v (.int .u8 0), .v (.int .u8 0), .v (.int .u8 0)] := eqOf (by kernel_rfl)
@[simp, go_sem] theorem te164 : elemOfT Tryz.prog 164 = some (163, some 16) := eqOf (by kernel_rfl)
@[simp, go_sem] theorem tr164 : fieldsOk Tryz.prog 164 = true := eqOf (by kernel_rfl)
end Go.Proofs.YtjhdikdopdcfcaaGreatDoor
namespace Go.Proofs.YtjhdikdopdcfcaaGreatDoor
open Go.RowKit
noncomputable def nextV (f : Q → Option (Ex × Q)) : Option (Ex × Q) → Option (Ex × Q)
  | some (.normal, s) => loopV f s
  | some (.exit i, s) => some (.exit i, s)
  | some (.ret, s) => some (.ret, s)
  | none => none
section
variable (f : Q → Option (Ex × Q)) (s : Q)
@[simp ↓, go_sem ↓] theorem nextV_normal : nextV f (some (.normal, s)) = loopV f s := id rfl
@[simp ↓, go_sem ↓] theorem nextV_exit (i : Nat) : nextV f (some (.exit i, s)) = some (.exit i, s) := id rfl
@[simp ↓, go_sem ↓] theorem nextV_ret : nextV f (some (.ret, s)) = some (.ret, s) := id rfl
@[simp ↓, go_sem ↓] theorem nextV_none : nextV f none = none := id rfl
end
@[congr] theorem nextV_congr {r r' : Option (Ex × Q)} (f : Q → Option (Ex × Q)) (h : r = r') : nextV f r = nextV f r' := by rw [h]
theorem loopV_unf (f : Q → Option (Ex × Q)) (s : Q) : loopV f s = nextV f (f s) := by
  cases hl : loopV f s with
  | some r =>
    obtain ⟨n, hn⟩ := loopV_some hl
    cases n with
    | zero => cases hn
    | succ n =>
      unfold rounds at hn
      split at hn
      · rename_i s' e; rw [e, nextV_normal]; exact (loopV_of hn).symm
      · rw [hn]
        obtain ⟨e, q⟩ := r
        cases e
        · exact absurd hn (by rename_i h; exact h _)
        · rfl
        · rfl
  | none =>
    cases e : f s with
    | none => rfl
    | some r =>
      obtain ⟨ex, q⟩ := r
      cases ex with
      | normal =>
        rw [nextV_normal]
        cases h2 : loopV f q with
        | none => rfl
        | some r2 =>
          obtain ⟨n, hn⟩ := loopV_some h2
          have : rounds f (n + 1) s = some r2 := by unfold rounds; rw [e]; exact hn
          rw [loopV_of this] at hl; cases hl
      | exit i =>
        have : rounds f 1 s = some (.exit i, q) := by unfold rounds; rw [e]
        rw [loopV_of this] at hl; cases hl
      | ret =>
        have : rounds f 1 s = some (.ret, q) := by unfold rounds; rw [e]
        rw [loopV_of this] at hl; cases hl
theorem loopV_go {f : Q → Option (Ex × Q)} {s : Q} (st : Nat → Q) (n : Nat) (h0 : s = st 0) (hs : ∀ j, j < n → f (st j) = some (.normal, st (j + 1))) : loopV f s = nextV f (f (st n)) := by
  rw [h0, ← loopV_unf]
  have : ∀ k, k ≤ n → loopV f (st 0) = loopV f (st k) := by
    intro k; induction k with
    | zero => intro _; rfl
    | succ k ih =>
      intro h
      rw [ih (by omega), loopV_unf, hs k (by omega), nextV_normal]
  exact this n (Nat.le_refl _)
theorem w64 (n : Int) (h : -9223372036854775808 ≤ n ∧ n ≤ 9223372036854775807) : IntKind.i64.wrap n = n := IntWalk.i64_in n h
def R64 (n : Int) : Prop := -9223372036854775808 ≤ n ∧ n ≤ 9223372036854775807
theorem R64.wrap {n : Int} (h : R64 n) : IntKind.i64.wrap n = n := IntWalk.i64_in n h
def inR (x a b : Int) : Bool := decide (a ≤ x) && decide (x ≤ b)
theorem inR_iff {x a b : Int} : inR x a b = true ↔ a ≤ x ∧ x ≤ b := by simp [inR]
theorem inR_of {x a b : Int} (h : inR x a b = true) : a ≤ x ∧ x ≤ b := inR_iff.1 h
theorem inR_no {x a b : Int} (h : ¬ (inR x a b = true)) : inR x a b = false := by simpa using h
@[simp] theorem w64_n0 : IntKind.i64.wrap 0 = 0 := w64 0 (by omega)
@[simp] theorem w64_n1 : IntKind.i64.wrap 1 = 1 := w64 1 (by omega)
@[simp] theorem w64_n2 : IntKind.i64.wrap 2 = 2 := w64 2 (by omega)
@[simp] theorem w64_n3 : IntKind.i64.wrap 3 = 3 := w64 3 (by omega)
@[simp] theorem w64_n4 : IntKind.i64.wrap 4 = 4 := w64 4 (by omega)
@[simp] theorem w64_n5 : IntKind.i64.wrap 5 = 5 := w64 5 (by omega)
@[simp] theorem w64_n6 : IntKind.i64.wrap 6 = 6 := w64 6 (by omega)
@[simp] theorem w64_n7 : IntKind.i64.wrap 7 = 7 := w64 7 (by omega)
@[simp] theorem w64_n8 : IntKind.i64.wrap 8 = 8 := w64 8 (by omega)
@[simp] theorem w64_n9 : IntKind.i64.wrap 9 = 9 := w64 9 (by omega)
end Go.Proofs.YtjhdikdopdcfcaaGreatDoor
