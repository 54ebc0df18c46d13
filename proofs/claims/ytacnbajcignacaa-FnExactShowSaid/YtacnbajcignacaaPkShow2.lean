/- Part 2 of a proof in several texts (an abstract evaluator, what the functions compute). -/
import Derived.Test.YtacnbajcignacaaPkShow1
import Derived.Test.YtacnbajcignacaaRows
namespace Go.Proofs.Ytacnbajcignacaa
open Go.RowKit
set_option linter.unusedSimpArgs false
set_option linter.unusedVariables false
section
variable {α β : Type} (k j : Nat) (x y : α) (r : List (Nat × α))
@[simp, go_sem] theorem s1 : look k ([] : List (Nat × α)) = none := id rfl
@[simp, go_sem] theorem s2 : look k ((j, x) :: r) = if k = j then some x else look k r := id rfl
@[simp, go_sem] theorem s3 : put k x [] = [(k, x)] := id rfl
@[simp, go_sem] theorem s4 : put k x ((j, y) :: r) = if k = j then (k, x) :: r else if j < k then (k, x) :: (j, y) :: r else (j, y) :: put k x r := id rfl
@[simp, go_sem] theorem s5 : drop1 k ([] : List (Nat × α)) = [] := id rfl
@[simp, go_sem] theorem s6 : drop1 k ((j, y) :: r) = if k = j then drop1 k r else (j, y) :: drop1 k r := id rfl
@[simp, go_sem] theorem s7 : upd k x ([] : List (Nat × α)) = [] := id rfl
@[simp, go_sem] theorem s8 : upd k x ((j, y) :: r) = if k = j then (k, x) :: r else (j, y) :: upd k x r := id rfl
@[simp, go_sem] theorem s9 : withIdx k ([] : List α) = [] := id rfl
@[simp, go_sem] theorem s10 (l : List α) : withIdx k (x :: l) = (k, x) :: withIdx (k + 1) l := id rfl
@[simp, go_sem] theorem s11 : numbered k ([] : List (Nat × α)) = [] := id rfl
@[simp, go_sem] theorem s12 : numbered k ((j, x) :: r) = (k, x) :: numbered (k + 1) r := id rfl
@[simp, go_sem] theorem s13 (f : α → Option β) : mapSome f [] = some [] := id rfl
@[simp, go_sem] theorem s14 (f : α → Option β) (l : List α) : mapSome f (x :: l) = bnd (f x) fun y => bnd (mapSome f l) fun l => some (y :: l) := id rfl
@[simp, go_sem] theorem s15 : desc [] = true := id rfl
@[simp, go_sem] theorem s16 : desc [k] = true := id rfl
@[simp, go_sem] theorem s17 (l : List Nat) : desc (k :: j :: l) = (decide (j < k) && desc (j :: l)) := id rfl
@[simp, go_sem] theorem s18 (n : Nat) : pos k [] n = none := id rfl
@[simp, go_sem] theorem s19 (l : List Nat) (n : Nat) : pos k (j :: l) n = if k = j then some n else pos k l (n + 1) := id rfl
end
section
variable (P : Program) (G : List (FuncId × Bool × Mean)) (e : List (Nat × V)) (b : List (Nat × List V)) (t f : List (Nat × List (List D))) (s : S) (n m p q kk : Nat) (x y : V) (vs : List V) (rows : List (List D))
@[simp, go_sem] theorem s20 : S.put ⟨e, b, t, f⟩ (some n) x = ⟨put n x e, b, t, f⟩ := id rfl
@[simp, go_sem] theorem s21 : S.put s none x = s := id rfl
@[simp, go_sem] theorem s22 : S.skip ⟨e, b, t, f⟩ (some n) = ⟨drop1 n e, b, t, f⟩ := id rfl
@[simp, go_sem] theorem s23 : S.skip s none = s := id rfl
@[simp, go_sem] theorem s24 (z : Bool) : constV (.bool z) = some (.v (.bool z)) := id rfl
@[simp, go_sem] theorem s25 (k : IntKind) (z : Int) : constV (.int k z) = some (.v (.int k z)) := id rfl
@[simp, go_sem] theorem s26 (z : ByteArray) : constV (.string z) = some (.v (.string z)) := id rfl
@[simp, go_sem] theorem s27 : constV (.slice none 0 0) = some .nil := id rfl
@[simp, go_sem] theorem s28 : constV (.pointer none) = some (.v (.pointer none)) := id rfl
@[simp, go_sem] theorem s29 : constV (.agg #[]) = some (.agg []) := id rfl
@[simp, go_sem] theorem s30 : constC (.slice none 0 0) = .nil := id rfl
@[simp, go_sem] theorem s31 (z : Bool) : constC (.bool z) = .v (.bool z) := id rfl
@[simp, go_sem] theorem s32 (k : IntKind) (z : Int) : constC (.int k z) = .v (.int k z) := id rfl
@[simp, go_sem] theorem s33 (z : ByteArray) : constC (.string z) = .v (.string z) := id rfl
@[simp, go_sem] theorem s34 : constC (.pointer none) = .v (.pointer none) := id rfl
@[simp, go_sem] theorem s35 (cs : Array Value) : constV (.agg cs) = some (.agg (cs.toList.map constC)) := id rfl
@[simp, go_sem] theorem s36 : s.ev (.tmp n) = look n s.env := id rfl
@[simp, go_sem] theorem s37 (c : Value) : s.ev (.const c) = constV c := id rfl
@[simp, go_sem] theorem s38 : s.ev (.func n) = some (.fn n []) := id rfl
@[simp, go_sem] theorem s39 : V.cells (.agg vs) = vs := id rfl
@[simp, go_sem] theorem s40 (z : Value) : V.cells (.v z) = [.v z] := id rfl
@[simp, go_sem] theorem s41 : V.cells (.nil) = [.nil] := id rfl
@[simp, go_sem] theorem s42 (o : Option Nat) : V.cells (.lst o rows) = [.lst o rows] := id rfl
@[simp, go_sem] theorem s43 : V.cells (.own n) = [.own n] := id rfl
@[simp, go_sem] theorem s44 : V.cells (.fz rows) = [.fz rows] := id rfl
@[simp, go_sem] theorem s45 : V.cells (.ref n m) = [.ref n m] := id rfl
@[simp, go_sem] theorem s46 : V.cells (.pe x kk n m) = [.pe x kk n m] := id rfl
@[simp, go_sem] theorem s47 : V.cells (.fn n vs) = [.fn n vs] := id rfl
@[simp, go_sem] theorem s48 : s.rows .nil = some [] := id rfl
@[simp, go_sem] theorem s49 (o : Option Nat) : s.rows (.lst o rows) = some rows := id rfl
@[simp, go_sem] theorem s50 : s.rows (.fz rows) = some rows := id rfl
@[simp, go_sem] theorem s51 : s.rows (.own p) = orElse1 (look p s.tree) (look p s.fro) := id rfl
@[simp, go_sem] theorem s52 (z : Value) : s.under x n m q (.a z) = some (.v z) := id rfl
@[simp, go_sem] theorem s53 (o : Option Nat) (rs : List (List D)) : s.under (.lst o rs) n m q (.l rows) = some (.lst none rows) := id rfl
@[simp, go_sem] theorem s54 (rs : List (List D)) : s.under (.fz rs) n m q (.l rows) = some (.fz rows) := id rfl
@[simp, go_sem] theorem s55 : s.under (.own p) n m q (.l rows) = underOwn p m q n rows (look p s.fro) := id rfl
@[simp, go_sem] theorem s56 (rs : List (List D)) : underOwn p m q n rows (some rs) = some (.fz rows) := id rfl
@[simp, go_sem] theorem s57 : underOwn p m q n rows none = some (.inn p m q n) := id rfl
@[simp, go_sem] theorem s58 : underL s x n m q [] = some [] := id rfl
@[simp, go_sem] theorem s59 (d : D) (l : List D) : underL s x n m q (d :: l) = bnd (s.under x n m q d) fun v => bnd (underL s x n m (q + 1) l) fun l => some (v :: l) := id rfl
@[simp, go_sem] theorem s60 : s.rows (.inn p m q n) = bnd (look p s.tree) fun rows => bnd rows[m]? fun r => grd (r.length = n) (bnd r[q]? rowsD) := id rfl
@[simp, go_sem] theorem s61 : rowsD (.l rows) = some rows := id rfl
@[simp, go_sem] theorem s62 : V.cells (.inn p m q n) = [.inn p m q n] := id rfl
@[simp, go_sem] theorem s63 : V.one (.inn p m q n) = true := id rfl
@[simp, go_sem] theorem s64 : flatD .gone = false := id rfl
@[simp, go_sem] theorem s65 : oneD .gone = true := id rfl
@[simp, go_sem] theorem s66 (z : Array Field) : isAggD (.struct z) = true := id rfl
@[simp, go_sem] theorem s67 : isAggD (.array n m) = true := id rfl
@[simp, go_sem] theorem s68 : isAggD (.bool) = false := id rfl
@[simp, go_sem] theorem s69 (k : IntKind) : isAggD (.int k) = false := id rfl
@[simp, go_sem] theorem s70 : isAggD (.string) = false := id rfl
@[simp, go_sem] theorem s71 : isAggD (.slice n) = false := id rfl
@[simp, go_sem] theorem s72 : isAggD (.pointer n) = false := id rfl
@[simp, go_sem] theorem s73 (a c : Array TypeId) (d : Bool) : isAggD (.func a c d) = false := id rfl
@[simp, go_sem] theorem s74 (z : Array (String × TypeId)) : isAggD (.interface z) = false := id rfl
@[simp, go_sem] theorem s75 : isAggD (.map n m) = false := id rfl
@[simp, go_sem] theorem s76 : span vs n m true = grd (n + m ≤ vs.length) (some (.agg ((vs.drop n).take m))) := id rfl
@[simp, go_sem] theorem s77 : span vs n m false = vs[n]? := id rfl
@[simp, go_sem] theorem s78 : s.load P n (.ref p m) = bnd (aggT P n) fun g => bnd (look p s.box) fun cs => span cs m (P.cellsOf n) g := id rfl
@[simp, go_sem] theorem s79 : s.load P n (.pe x kk p m) = bnd (aggT P n) fun g => bnd (s.rows x) fun rows => bnd rows[p]? fun r => grd (r.length = kk) (s.loadRow x kk p r m (P.cellsOf n) g) := id rfl
@[simp, go_sem] theorem s80 (r : List D) : s.loadRow x kk p r n m true = grd (n + m ≤ r.length) (bnd (underL s x kk p n ((r.drop n).take m)) fun cs => some (.agg cs)) := id rfl
@[simp, go_sem] theorem s81 (r : List D) : s.loadRow x kk p r n m false = bnd r[n]? (s.under x kk p n) := id rfl
@[simp, go_sem] theorem s82 : setAt vs n [] = vs := id rfl
@[simp, go_sem] theorem s83 (ws : List V) : setAt vs n (x :: ws) = setAt (vs.set n x) (n + 1) ws := id rfl
@[simp, go_sem] theorem s84 : oneD (.l rows) = true := id rfl
@[simp, go_sem] theorem s85 (z : Value) : oneD (.a z) = z.oneCell' := id rfl
@[simp, go_sem] theorem s86 (z : Value) : V.one (.v z) = z.oneCell' := id rfl
@[simp, go_sem] theorem s87 : V.one .nil = true := id rfl
@[simp, go_sem] theorem s88 (o : Option Nat) : V.one (.lst o rows) = true := id rfl
@[simp, go_sem] theorem s89 : V.one (.fz rows) = true := id rfl
@[simp, go_sem] theorem s90 : V.one (.own p) = true := id rfl
@[simp, go_sem] theorem s91 : V.one (.ref n m) = true := id rfl
@[simp, go_sem] theorem s92 : V.one (.pe x kk n m) = true := id rfl
@[simp, go_sem] theorem s93 : V.one (.fn n vs) = true := id rfl
@[simp, go_sem] theorem s94 (k : IntKind) (a : Int) : Value.oneCell' (.int k a) = true := id rfl
@[simp, go_sem] theorem s95 (g : Bool) : Value.oneCell' (.bool g) = true := id rfl
@[simp, go_sem] theorem s96 (u : ByteArray) : Value.oneCell' (.string u) = true := id rfl
@[simp, go_sem] theorem s97 (o : Option Addr) : Value.oneCell' (.pointer o) = true := id rfl
@[simp, go_sem] theorem s98 (z : Value) : Value.oneCell' (.iface n z) = true := id rfl
@[simp, go_sem] theorem s99 : Value.oneCell' (.nilIface) = true := id rfl
@[simp, go_sem] theorem s100 : Value.oneCell' (.nilFunc) = true := id rfl
@[simp, go_sem] theorem s101 (z : Value) : V.atom (.v z) = some (.a z) := id rfl
@[simp, go_sem] theorem s102 (z : Value) : flatD (.a z) = true := id rfl
@[simp, go_sem] theorem s103 : flatD (.l rows) = false := id rfl
@[simp, go_sem] theorem s104 : S.store P ⟨e, b, t, f⟩ n (.ref p m) x = grd (sizedT P n = true ∧ x.cells.length = P.cellsOf n) (bnd (look p b) fun cs => grd (m + x.cells.length ≤ cs.length ∧ x.cells.all V.one = true) (some ⟨e, upd p (setAt cs m x.cells) b, t, f⟩)) := id rfl
@[simp, go_sem] theorem s105 : S.store P s n (.pe (.own q) kk p m) x = grd (sizedT P n = true ∧ x.cells.length = P.cellsOf n) (storeOwn s q kk p m x x.atom) := id rfl
@[simp, go_sem] theorem s106 (d : D) : storeOwn ⟨e, b, t, f⟩ q kk p m x (some d) = bnd (look q t) fun rows => bnd rows[p]? fun r => bnd r[m]? fun d0 => grd (r.length = kk ∧ flatD d0 = true ∧ oneD d = true) (some ⟨e, b, upd q (rows.set p (r.set m d)) t, f⟩) := id rfl
@[simp, go_sem] theorem s107 : storeOwn s q kk p m x none = bnd (packRow s x.cells) fun z => bnd (look q z.2.tree) fun rows => bnd rows[p]? fun r => grd (r.length = kk ∧ m + z.1.length ≤ r.length ∧ x.cells.all V.one = true ∧ ¬ (1000000000 ≤ q ∧ q < 2000000000)) (some (z.2.turned q (rows.set p (setD r m z.1)))) := id rfl
@[simp, go_sem] theorem s108 (i0 j0 k0 : Nat) : S.store P s n (.pe (.inn q i0 j0 k0) kk p m) x = grd (sizedT P n = true ∧ x.cells.length = P.cellsOf n) (storeInn s q i0 j0 k0 kk p m x.atom) := id rfl
@[simp, go_sem] theorem s109 (i0 j0 k0 : Nat) (d : D) : storeInn ⟨e, b, t, f⟩ q i0 j0 k0 kk p m (some d) = bnd (look q t) fun rows => bnd rows[i0]? fun r => bnd r[j0]? fun c => bnd (rowsD c) fun rs => bnd rs[p]? fun r1 => bnd r1[m]? fun d0 => grd (r.length = k0 ∧ r1.length = kk ∧ flatD d0 = true ∧ oneD d = true) (some ⟨e, b, upd q (rows.set i0 (r.set j0 (.l (rs.set p (r1.set m d))))) t, f⟩) := id rfl
@[simp, go_sem] theorem s110 : V.atom (.own q) = none := id rfl
@[simp, go_sem] theorem s111 : V.atom (.nil) = none := id rfl
@[simp, go_sem] theorem s112 : V.atom (.agg vs) = none := id rfl
@[simp, go_sem] theorem s113 (r : List D) : setD r m [] = r := id rfl
@[simp, go_sem] theorem s114 (r ds : List D) (d : D) : setD r m (d :: ds) = setD (r.set m d) (m + 1) ds := id rfl
@[simp, go_sem] theorem s115 : S.turned ⟨e, b, t, f⟩ p rows = ⟨innE p e, innB p b, upd p rows t, f⟩ := id rfl
@[simp, go_sem] theorem s116 : innE p [] = [] := id rfl
@[simp, go_sem] theorem s117 : innE p ((n, x) :: e) = (n, if innOf p x = true then .dead else x) :: innE p e := id rfl
@[simp, go_sem] theorem s118 : innC p [] = [] := id rfl
@[simp, go_sem] theorem s119 : innC p (x :: vs) = (if innOf p x = true then .dead else x) :: innC p vs := id rfl
@[simp, go_sem] theorem s120 : innB p [] = [] := id rfl
@[simp, go_sem] theorem s121 : innB p ((n, vs) :: b) = (n, innC p vs) :: innB p b := id rfl
@[simp, go_sem] theorem s122 (z : Value) : innOf p (.v z) = false := id rfl
@[simp, go_sem] theorem s123 : innOf p .nil = false := id rfl
@[simp, go_sem] theorem s124 (o : Option Nat) : innOf p (.lst o rows) = false := id rfl
@[simp, go_sem] theorem s125 : innOf p (.fz rows) = false := id rfl
@[simp, go_sem] theorem s126 : innOf p (.own q) = false := id rfl
@[simp, go_sem] theorem s127 : innOf p (.inn q n m kk) = decide (p = q) := id rfl
@[simp, go_sem] theorem s128 : innOf p (.ref n m) = false := id rfl
@[simp, go_sem] theorem s129 : innOf p (.pe x kk n m) = innOf p x := id rfl
@[simp, go_sem] theorem s130 : innOf p (.agg vs) = innOf.any p vs := id rfl
@[simp, go_sem] theorem s131 : innOf p (.tup vs) = innOf.any p vs := id rfl
@[simp, go_sem] theorem s132 : innOf p (.fn n vs) = innOf.any p vs := id rfl
@[simp, go_sem] theorem s133 : innOf p .dead = false := id rfl
@[simp, go_sem] theorem s134 : innOf.any p [] = false := id rfl
@[simp, go_sem] theorem s135 : innOf.any p (x :: vs) = (innOf p x || innOf.any p vs) := id rfl
end
section
variable (P : Program) (t : TypeId) (k k2 : IntKind) (a c : Int) (u v : ByteArray) (g h : Bool)
@[simp, go_sem] theorem s136 : bin P t .add (.v (.int k a)) (.v (.int k2 c)) = bnd (grd (k = k2) (some (.int k (k.wrap (a + c))))) fun v => some (.v v) := id rfl
@[simp, go_sem] theorem s137 : bin P t .sub (.v (.int k a)) (.v (.int k2 c)) = bnd (grd (k = k2) (some (.int k (k.wrap (a - c))))) fun v => some (.v v) := id rfl
@[simp, go_sem] theorem s138 : bin P t .mul (.v (.int k a)) (.v (.int k2 c)) = bnd (grd (k = k2) (some (.int k (k.wrap (a * c))))) fun v => some (.v v) := id rfl
@[simp, go_sem] theorem s139 : bin P t .quo (.v (.int k a)) (.v (.int k2 c)) = bnd (grd (k = k2) (grd (c ≠ 0) (some (.int k (k.wrap (a.tdiv c)))))) fun v => some (.v v) := id rfl
@[simp, go_sem] theorem s140 : bin P t .rem (.v (.int k a)) (.v (.int k2 c)) = bnd (grd (k = k2) (grd (c ≠ 0) (some (.int k (a.tmod c))))) fun v => some (.v v) := id rfl
@[simp, go_sem] theorem s141 : bin P t .and (.v (.int k a)) (.v (.int k2 c)) = bnd (grd (k = k2) (some (.int k (k.wrap (BitVec.ofInt k.bits a &&& BitVec.ofInt k.bits c).toNat)))) fun v => some (.v v) := id rfl
@[simp, go_sem] theorem s142 : bin P t .or (.v (.int k a)) (.v (.int k2 c)) = bnd (grd (k = k2) (some (.int k (k.wrap (BitVec.ofInt k.bits a ||| BitVec.ofInt k.bits c).toNat)))) fun v => some (.v v) := id rfl
@[simp, go_sem] theorem s143 : bin P t .xor (.v (.int k a)) (.v (.int k2 c)) = bnd (grd (k = k2) (some (.int k (k.wrap (BitVec.ofInt k.bits a ^^^ BitVec.ofInt k.bits c).toNat)))) fun v => some (.v v) := id rfl
@[simp, go_sem] theorem s144 : bin P t .eql (.v (.int k a)) (.v (.int k2 c)) = bnd (grd (k = k2) (some (.bool (a == c)))) fun v => some (.v v) := id rfl
@[simp, go_sem] theorem s145 : bin P t .neq (.v (.int k a)) (.v (.int k2 c)) = bnd (grd (k = k2) (some (.bool (a != c)))) fun v => some (.v v) := id rfl
@[simp, go_sem] theorem s146 : bin P t .lss (.v (.int k a)) (.v (.int k2 c)) = bnd (grd (k = k2) (some (.bool (decide (a < c))))) fun v => some (.v v) := id rfl
@[simp, go_sem] theorem s147 : bin P t .leq (.v (.int k a)) (.v (.int k2 c)) = bnd (grd (k = k2) (some (.bool (decide (a ≤ c))))) fun v => some (.v v) := id rfl
@[simp, go_sem] theorem s148 : bin P t .gtr (.v (.int k a)) (.v (.int k2 c)) = bnd (grd (k = k2) (some (.bool (decide (c < a))))) fun v => some (.v v) := id rfl
@[simp, go_sem] theorem s149 : bin P t .geq (.v (.int k a)) (.v (.int k2 c)) = bnd (grd (k = k2) (some (.bool (decide (c ≤ a))))) fun v => some (.v v) := id rfl
@[simp, go_sem] theorem s150 : bin P t .shl (.v (.int k a)) (.v (.int k2 c)) = bnd (grd (0 ≤ c) (some (.int k (k.wrap (a * 2 ^ (min c.toNat k.bits)))))) fun v => some (.v v) := id rfl
@[simp, go_sem] theorem s151 : bin P t .shr (.v (.int k a)) (.v (.int k2 c)) = bnd (grd (0 ≤ c) (some (.int k (a.fdiv (2 ^ (min c.toNat k.bits)))))) fun v => some (.v v) := id rfl
@[simp, go_sem] theorem s152 : bin P t .add (.v (.string u)) (.v (.string v)) = bnd (grd (u.size + v.size ≤ 9223372036854775807) (some (.string (u ++ v)))) fun v => some (.v v) := id rfl
@[simp, go_sem] theorem s153 : bin P t .eql (.v (.string u)) (.v (.string v)) = bnd (some (.bool (u.toList == v.toList))) fun v => some (.v v) := id rfl
@[simp, go_sem] theorem s154 : bin P t .neq (.v (.string u)) (.v (.string v)) = bnd (some (.bool (!(u.toList == v.toList)))) fun v => some (.v v) := id rfl
@[simp, go_sem] theorem s155 : bin P t .lss (.v (.string u)) (.v (.string v)) = bnd (some (.bool (Op.bytesLess u.toList v.toList))) fun v => some (.v v) := id rfl
@[simp, go_sem] theorem s156 : bin P t .leq (.v (.string u)) (.v (.string v)) = bnd (some (.bool (Op.bytesLess u.toList v.toList || u.toList == v.toList))) fun v => some (.v v) := id rfl
@[simp, go_sem] theorem s157 : bin P t .gtr (.v (.string u)) (.v (.string v)) = bnd (some (.bool (!(Op.bytesLess u.toList v.toList || u.toList == v.toList)))) fun v => some (.v v) := id rfl
@[simp, go_sem] theorem s158 : bin P t .geq (.v (.string u)) (.v (.string v)) = bnd (some (.bool (!(Op.bytesLess u.toList v.toList)))) fun v => some (.v v) := id rfl
@[simp, go_sem] theorem s159 : bin P t .eql (.v (.bool g)) (.v (.bool h)) = bnd (P.underlying t) fun d => bnd (binB .eql g h d) fun v => some (.v v) := id rfl
@[simp, go_sem] theorem s160 : binB .eql g h .bool = some (.bool (g == h)) := id rfl
@[simp, go_sem] theorem s161 (n m : Nat) : bin P t .eql (.ref n m) (.v (.pointer none)) = bnd (P.underlying t) fun d => bnd (binP .eql d) fun v => some (.v v) := id rfl
@[simp, go_sem] theorem s162 (n : Nat) : binP .eql (.pointer n) = some (.bool false) := id rfl
@[simp, go_sem] theorem s163 : bin P t .neq (.v (.bool g)) (.v (.bool h)) = bnd (P.underlying t) fun d => bnd (binB .neq g h d) fun v => some (.v v) := id rfl
@[simp, go_sem] theorem s164 : binB .neq g h .bool = some (.bool (g != h)) := id rfl
@[simp, go_sem] theorem s165 (n m : Nat) : bin P t .neq (.ref n m) (.v (.pointer none)) = bnd (P.underlying t) fun d => bnd (binP .neq d) fun v => some (.v v) := id rfl
@[simp, go_sem] theorem s166 (n : Nat) : binP .neq (.pointer n) = some (.bool true) := id rfl
@[simp, go_sem] theorem s167 : un .neg (.v (.int k a)) = some (.v (.int k (k.wrap (0 - a)))) := id rfl
@[simp, go_sem] theorem s168 : un .not (.v (.bool g)) = some (.v (.bool !g)) := id rfl
@[simp, go_sem] theorem s169 : idxOf (.v (.int k a)) = some a := id rfl
@[simp, go_sem] theorem s170 : boolOf (.v (.bool g)) = some g := id rfl
@[simp, go_sem] theorem s171 : optV a none = some a := id rfl
@[simp, go_sem] theorem s172 (x : V) : optV a (some x) = idxOf x := id rfl
@[simp, go_sem] theorem s173 (n : Nat) (lo hi : Option V) : bounds n lo hi = bnd (optV 0 lo) fun l => bnd (optV n hi) fun h => grd (0 ≤ l ∧ l ≤ h ∧ h ≤ n) (some (l.toNat, h.toNat)) := id rfl
end
section
variable (P : Program) (G : List (FuncId × Bool × Mean)) (e : List (Nat × V)) (b : List (Nat × List V)) (t f : List (Nat × List (List D))) (s : S) (n m p q kk : Nat) (x y : V) (vs ws : List V) (rows : List (List D)) (dst : Option Nat)
@[simp, go_sem] theorem s174 (lo hi : Option V) : sliceV P s x lo hi .string = sliceStr x lo hi := id rfl
@[simp, go_sem] theorem s175 (u : ByteArray) (lo hi : Option V) : sliceStr (.v (.string u)) lo hi = bnd (bounds u.size lo hi) fun p => some (.v (.string (u.extract p.1 p.2))) := id rfl
@[simp, go_sem] theorem s176 (lo hi : Option V) : sliceV P s x lo hi (.slice n) = grd (sizedT P n = true) (sliceL (P.cellsOf n) s x lo hi) := id rfl
@[simp, go_sem] theorem s177 (lo hi : Option V) : sliceL n s .nil lo hi = bnd (bounds 0 lo hi) fun _ => some .nil := id rfl
@[simp, go_sem] theorem s178 (o : Option Nat) (lo hi : Option V) : sliceL n s (.lst o rows) lo hi = cutV n rows lo hi (.lst none) := id rfl
@[simp, go_sem] theorem s179 (lo hi : Option V) : sliceL n s (.fz rows) lo hi = cutV n rows lo hi .fz := id rfl
@[simp, go_sem] theorem s180 (lo hi : Option V) : sliceL n s (.own p) lo hi = bnd (look p s.fro) fun rows => cutV n rows lo hi .fz := id rfl
@[simp, go_sem] theorem s181 (lo hi : Option V) (g : List (List D) → V) : cutV n rows lo hi g = bnd (bounds rows.length lo hi) fun p => grd (wid n rows = true) (some (g ((rows.drop p.1).take (p.2 - p.1)))) := id rfl
@[simp, go_sem] theorem s182 : wid n [] = true := id rfl
@[simp, go_sem] theorem s183 (r : List D) : wid n (r :: rows) = (decide (r.length = n) && r.all oneD && wid n rows) := id rfl
@[simp, go_sem] theorem s184 (fs : Array Field) : fieldD P n (.struct fs) = bnd fs[n]? fun d => grd (P.cellsOf d.type ≠ 0) (some (d.offset, d.type)) := id rfl
@[simp, go_sem] theorem s185 : addOff (.ref n m) p = some (.ref n (m + p)) := id rfl
@[simp, go_sem] theorem s186 : addOff (.pe x kk n m) p = some (.pe x kk n (m + p)) := id rfl
@[simp, go_sem] theorem s187 : elemD (.slice n) = some (n, none) := id rfl
@[simp, go_sem] theorem s188 : elemD (.array n m) = some (m, some n) := id rfl
@[simp, go_sem] theorem s189 (i : Int) : indexAddrV P s x i n (some m) = grd (sizedT P n = true ∧ 0 ≤ i ∧ i < m) (addOff x (i.toNat * P.cellsOf n)) := id rfl
@[simp, go_sem] theorem s190 (i : Int) : indexAddrV P s x i n none = bnd (s.rows x) fun rows => grd (sizedT P n = true ∧ 0 ≤ i ∧ i < rows.length) (some (.pe x (P.cellsOf n) i.toNat 0)) := id rfl
@[simp, go_sem] theorem s191 (u : ByteArray) (i : Int) : indexV P n (.v (.string u)) i = bnd (P.underlying n) fun d => grd (isStrD d = true ∧ 0 ≤ i ∧ i < u.size) (some (.v (.int .u8 ((u.toList[i.toNat]?.getD 0).toNat : Int)))) := id rfl
@[simp, go_sem] theorem s192 : isStrD .string = true := id rfl
@[simp, go_sem] theorem s193 (i : Int) : indexV P n (.agg vs) i = bnd (elemOfT P n) fun e => bnd e.2 fun n => grd (sizedT P e.1 = true ∧ 0 ≤ i ∧ i < n) (bnd (aggT P e.1) fun g => span vs (i.toNat * P.cellsOf e.1) (P.cellsOf e.1) g) := id rfl
@[simp, go_sem] theorem s194 (z : Value) : packV (.v z) = some (.a z) := id rfl
@[simp, go_sem] theorem s195 : packV .nil = some (.l []) := id rfl
@[simp, go_sem] theorem s196 (z : Value) : mentions p (.v z) = false := id rfl
@[simp, go_sem] theorem s197 : mentions p .nil = false := id rfl
@[simp, go_sem] theorem s198 (o : Option Nat) : mentions p (.lst o rows) = false := id rfl
@[simp, go_sem] theorem s199 : mentions p (.fz rows) = false := id rfl
@[simp, go_sem] theorem s200 : mentions p (.own q) = decide (p = q) := id rfl
@[simp, go_sem] theorem s201 : mentions p (.inn q n m kk) = decide (p = q) := id rfl
@[simp, go_sem] theorem s202 : mentions p (.ref n m) = false := id rfl
@[simp, go_sem] theorem s203 : mentions p (.pe x kk n m) = mentions p x := id rfl
@[simp, go_sem] theorem s204 : mentions p (.agg vs) = mentions.any p vs := id rfl
@[simp, go_sem] theorem s205 : mentions p (.tup vs) = mentions.any p vs := id rfl
@[simp, go_sem] theorem s206 : mentions p (.fn n vs) = mentions.any p vs := id rfl
@[simp, go_sem] theorem s207 : mentions p .dead = false := id rfl
@[simp, go_sem] theorem s208 : mentions.any p [] = false := id rfl
@[simp, go_sem] theorem s209 : mentions.any p (x :: vs) = (mentions p x || mentions.any p vs) := id rfl
@[simp, go_sem] theorem s210 : killE p [] = [] := id rfl
@[simp, go_sem] theorem s211 : killE p ((n, x) :: e) = (n, if mentions p x = true then .dead else x) :: killE p e := id rfl
@[simp, go_sem] theorem s212 : killC p [] = [] := id rfl
@[simp, go_sem] theorem s213 : killC p (x :: vs) = (if mentions p x = true then .dead else x) :: killC p vs := id rfl
@[simp, go_sem] theorem s214 : killB p [] = [] := id rfl
@[simp, go_sem] theorem s215 : killB p ((n, vs) :: b) = (n, killC p vs) :: killB p b := id rfl
@[simp, go_sem] theorem s216 : S.kill ⟨e, b, t, f⟩ p = ⟨killE p e, killB p b, drop1 p t, f⟩ := id rfl
@[simp, go_sem] theorem s217 : packRow s [] = some ([], s) := id rfl
@[simp, go_sem] theorem s218 : packRow s (.own p :: vs) = bnd (look p s.tree) fun rows => bnd (packRow (s.kill p) vs) fun x => some (.l rows :: x.1, x.2) := id rfl
@[simp, go_sem] theorem s219 (z : Value) : packRow s (.v z :: vs) = bnd (packRow s vs) fun x => some (.a z :: x.1, x.2) := id rfl
@[simp, go_sem] theorem s220 : packRow s (.nil :: vs) = bnd (packRow s vs) fun x => some (.l [] :: x.1, x.2) := id rfl
@[simp, go_sem] theorem s221 : packRows s [] = some ([], s) := id rfl
@[simp, go_sem] theorem s222 : packRows s (x :: vs) = bnd (packRow s x.cells) fun x => bnd (packRows x.2 vs) fun y => some (x.1 :: y.1, y.2) := id rfl
@[simp, go_sem] theorem s223 : fresh ⟨e, b, t, f⟩ n = ((look n t).isNone && (look n f).isNone) := id rfl
@[simp, go_sem] theorem s224 : S.newTree ⟨e, b, t, f⟩ (some n) rows = grd (fresh ⟨e, b, t, f⟩ n = true) (some ⟨put n (.own n) e, b, (n, rows) :: t, f⟩) := id rfl
@[simp, go_sem] theorem s225 : upto n m [] = decide (n = m) := id rfl
@[simp, go_sem] theorem s226 (r : List Nat) : upto n m (p :: r) = (decide (p = n) && upto (n + 1) m r) := id rfl
@[simp, go_sem] theorem s227 : rowsFlat [] = true := id rfl
@[simp, go_sem] theorem s228 (r : List D) : rowsFlat (r :: rows) = (r.all flatD && rowsFlat rows) := id rfl
@[simp, go_sem] theorem s229 (u : ByteArray) : srcV s (.v (.string u)) = some (u.toList.map fun c => [.a (.int .u8 (c.toNat : Int))], s) := id rfl
@[simp, go_sem] theorem s230 : srcV s .nil = some ([], s) := id rfl
@[simp, go_sem] theorem s231 (o : Option Nat) : srcV s (.lst o rows) = grd (rowsFlat rows = true) (some (rows, s)) := id rfl
@[simp, go_sem] theorem s232 : srcV s (.fz rows) = grd (rowsFlat rows = true) (some (rows, s)) := id rfl
@[simp, go_sem] theorem s233 : srcV s (.own q) = srcOwn s q (look q s.tree) := id rfl
@[simp, go_sem] theorem s234 : srcV s (.inn p q n m) = bnd (s.rows (.inn p q n m)) fun rows => grd (rowsFlat rows = true) (some (rows, s)) := id rfl
@[simp, go_sem] theorem s235 : srcOwn s q (some rows) = some (rows, if rowsFlat rows = true then s else s.kill q) := id rfl
@[simp, go_sem] theorem s236 : srcOwn s q none = bnd (look q s.fro) fun rows => grd (rowsFlat rows = true) (some (rows, s)) := id rfl
@[simp, go_sem] theorem s237 : sizeOk P n m = (zeroOk P n && decide (m * P.bytesOf n ≤ 140737488355328) && decide (m ≤ 4611686018427387904)) := id rfl
@[simp, go_sem] theorem s238 : appendTo P s dst n rows .nil = grd (sizeOk P n rows.length = true ∧ wid (P.cellsOf n) rows = true) (s.newTree dst rows) := id rfl
@[simp, go_sem] theorem s239 : appendTo P s dst n rows (.own p) = bnd (look p s.tree) fun rows1 => grd (sizeOk P n (rows1.length + rows.length) = true ∧ wid (P.cellsOf n) rows1 = true ∧ wid (P.cellsOf n) rows = true) ((s.kill p).newTree dst (rows1 ++ rows)) := id rfl
@[simp, go_sem] theorem s240 : appendTo P s dst n rows (.inn p q m kk) = bnd (s.rows (.inn p q m kk)) fun rows1 => grd (sizeOk P n (rows1.length + rows.length) = true ∧ wid (P.cellsOf n) rows1 = true ∧ wid (P.cellsOf n) rows = true) (bnd (s.takeInn p q m) fun s => s.newTree dst (rows1 ++ rows)) := id rfl
@[simp, go_sem] theorem s241 : s.takeInn p q m = bnd (look p s.tree) fun rows => bnd rows[q]? fun r => grd (¬ (1000000000 ≤ p ∧ p < 2000000000)) (some (s.turned p (rows.set q (r.set m .gone)))) := id rfl
@[simp, go_sem] theorem s242 : sliceElem (.slice n) = some n := id rfl
@[simp, go_sem] theorem s243 : appendV P s dst n x y = bnd (P.underlying n) fun d => bnd (sliceElem d) fun e => bnd (srcV s y) fun z => appendTo P z.2 dst e z.1 x := id rfl
end
section
variable (s : S) (c : Lend) (src : List V) (bs ts : List Nat) (n m p q kk : Nat) (x y : V) (vs ws : List V) (rows : List (List D)) (dst : Option Nat)
@[simp, go_sem] theorem s244 (z : Value) : lendV s c (.v z) = some (.v z, c) := id rfl
@[simp, go_sem] theorem s245 : lendV s ⟨src, bs, ts⟩ (.ref n m) = lendRef src bs ts n m (pos n bs 0) := id rfl
@[simp, go_sem] theorem s246 : lendRef src bs ts n m (some p) = some (.ref p m, ⟨src, bs, ts⟩) := id rfl
@[simp, go_sem] theorem s247 : lendRef src bs ts n m none = some (.ref bs.length m, ⟨src, bs ++ [n], ts⟩) := id rfl
@[simp, go_sem] theorem s248 : lendV s c (.agg vs) = bnd (lendL s c vs) fun x => some (.agg x.1, x.2) := id rfl
@[simp, go_sem] theorem s249 : lendV s c (.fn n vs) = bnd (lendL s c vs) fun x => some (.fn n x.1, x.2) := id rfl
@[simp, go_sem] theorem s250 : lendV s ⟨src, bs, ts⟩ .nil = some (.lst (some src.length) [], ⟨src ++ [.nil], bs, ts⟩) := id rfl
@[simp, go_sem] theorem s251 (o : Option Nat) : lendV s ⟨src, bs, ts⟩ (.lst o rows) = some (.lst (some src.length) rows, ⟨src ++ [.lst o rows], bs, ts⟩) := id rfl
@[simp, go_sem] theorem s252 : lendV s ⟨src, bs, ts⟩ (.fz rows) = some (.lst (some src.length) rows, ⟨src ++ [.fz rows], bs, ts⟩) := id rfl
@[simp, go_sem] theorem s253 : lendV s ⟨src, bs, ts⟩ (.own p) = bnd (s.rows (.own p)) fun rows => some (.lst (some src.length) rows, ⟨src ++ [.own p], bs, ts⟩) := id rfl
@[simp, go_sem] theorem s254 : lendV s ⟨src, bs, ts⟩ (.inn p q n m) = bnd (s.rows (.inn p q n m)) fun rows => some (.lst (some src.length) rows, ⟨src ++ [.inn p q n m], bs, ts⟩) := id rfl
@[simp, go_sem] theorem s255 : lendL s c [] = some ([], c) := id rfl
@[simp, go_sem] theorem s256 : lendL s c (x :: vs) = bnd (lendV s c x) fun x => bnd (lendL s x.2 vs) fun y => some (x.1 :: y.1, y.2) := id rfl
@[simp, go_sem] theorem s257 : lendCells s c [] = some ([], c) := id rfl
@[simp, go_sem] theorem s258 : lendCells s ⟨src, bs, ts⟩ (.own p :: vs) = lendOwn src bs ts p (fun c => lendCells s c vs) (pos p ts 0) (look p s.fro) := id rfl
@[simp, go_sem] theorem s259 (k : Lend → Option (List V × Lend)) : lendOwn src bs ts p k none (some rows) = bnd (k ⟨src ++ [.own p], bs, ts⟩) fun x => some (.lst (some src.length) rows :: x.1, x.2) := id rfl
@[simp, go_sem] theorem s260 (k : Lend → Option (List V × Lend)) : lendOwn src bs ts p k none none = bnd (k ⟨src, bs, ts ++ [p]⟩) fun x => some (.own ts.length :: x.1, x.2) := id rfl
@[simp, go_sem] theorem s261 : lendCells s c (.dead :: vs) = bnd (lendCells s c vs) fun x => some (.dead :: x.1, x.2) := id rfl
@[simp, go_sem] theorem s262 (z : Value) : lendCells s c (.v z :: vs) = bnd (lendV s c (.v z)) fun x => bnd (lendCells s x.2 vs) fun y => some (x.1 :: y.1, y.2) := id rfl
@[simp, go_sem] theorem s263 : lendCells s c (.nil :: vs) = bnd (lendV s c (.nil)) fun x => bnd (lendCells s x.2 vs) fun y => some (x.1 :: y.1, y.2) := id rfl
@[simp, go_sem] theorem s264 (o : Option Nat) : lendCells s c (.lst o rows :: vs) = bnd (lendV s c (.lst o rows)) fun x => bnd (lendCells s x.2 vs) fun y => some (x.1 :: y.1, y.2) := id rfl
@[simp, go_sem] theorem s265 : lendCells s c (.fz rows :: vs) = bnd (lendV s c (.fz rows)) fun x => bnd (lendCells s x.2 vs) fun y => some (x.1 :: y.1, y.2) := id rfl
@[simp, go_sem] theorem s266 : lendCells s c (.inn p n m q :: vs) = bnd (lendV s c (.inn p n m q)) fun x => bnd (lendCells s x.2 vs) fun y => some (x.1 :: y.1, y.2) := id rfl
@[simp, go_sem] theorem s267 : lendCells s c (.ref n m :: vs) = bnd (lendV s c (.ref n m)) fun x => bnd (lendCells s x.2 vs) fun y => some (x.1 :: y.1, y.2) := id rfl
@[simp, go_sem] theorem s268 : lendCells s c (.fn n ws :: vs) = bnd (lendV s c (.fn n ws)) fun x => bnd (lendCells s x.2 vs) fun y => some (x.1 :: y.1, y.2) := id rfl
@[simp, go_sem] theorem s269 : lendBoxes s c [] = some ([], c) := id rfl
@[simp, go_sem] theorem s270 : lendBoxes s c (n :: bs) = bnd (look n s.box) fun cs => bnd (lendCells s c cs) fun x => bnd (lendBoxes s x.2 bs) fun y => some (x.1 :: y.1, y.2) := id rfl
@[simp, go_sem] theorem s271 : stable .nil = true := id rfl
@[simp, go_sem] theorem s272 (o : Option Nat) : stable (.lst o rows) = true := id rfl
@[simp, go_sem] theorem s273 : stable (.own p) = false := id rfl
@[simp, go_sem] theorem s274 : stable (.inn p n m q) = false := id rfl
@[simp, go_sem] theorem s275 : stable (.fz rows) = false := id rfl
@[simp, go_sem] theorem s276 : nameOf c n q = nameIn n q c.tree[q]? := id rfl
@[simp, go_sem] theorem s277 : nameIn n q (some p) = p := id rfl
@[simp, go_sem] theorem s278 : nameIn n q none = 1000 * (n + 1) + q := id rfl
@[simp, go_sem] theorem s279 (z : Value) : backV c n (.v z) = some (.v z) := id rfl
@[simp, go_sem] theorem s280 : backV c n .nil = some .nil := id rfl
@[simp, go_sem] theorem s281 : backV c n (.lst (some m) rows) = c.src[m]? := id rfl
@[simp, go_sem] theorem s282 : backV c n (.lst none rows) = grd (c.src.all stable = true) (some (.lst none rows)) := id rfl
@[simp, go_sem] theorem s283 : backV c n (.own q) = some (.own (nameOf c n q)) := id rfl
@[simp, go_sem] theorem s284 : backV c n (.ref p m) = bnd c.box[p]? fun b => some (.ref b m) := id rfl
@[simp, go_sem] theorem s285 : backV c n (.agg vs) = bnd (backL c n vs) fun cs => some (.agg cs) := id rfl
@[simp, go_sem] theorem s286 : backV c n (.tup vs) = bnd (backL c n vs) fun cs => some (.tup cs) := id rfl
@[simp, go_sem] theorem s287 : backV c n .dead = some .dead := id rfl
@[simp, go_sem] theorem s288 : backL c n [] = some [] := id rfl
@[simp, go_sem] theorem s289 : backL c n (x :: vs) = bnd (backV c n x) fun v => bnd (backL c n vs) fun r => some (v :: r) := id rfl
@[simp, go_sem] theorem s290 : backBoxes c n [] [] s = some s := id rfl
@[simp, go_sem] theorem s291 (vss : List (List V)) (e : List (Nat × V)) (b : List (Nat × List V)) (t f : List (Nat × List (List D))) : backBoxes c n (p :: bs) (vs :: vss) ⟨e, b, t, f⟩ = bnd (backL c n vs) fun cs => backBoxes c n bs vss ⟨e, upd p cs b, t, f⟩ := id rfl
@[simp, go_sem] theorem s292 : addTrees c n [] s = some s := id rfl
@[simp, go_sem] theorem s293 (r : List (Nat × List (List D))) (e : List (Nat × V)) (b : List (Nat × List V)) (t f : List (Nat × List (List D))) : addTrees c n ((q, rows) :: r) ⟨e, b, t, f⟩ = if q < c.tree.length then addTrees c n r ⟨e, b, t, f⟩ else grd (fresh ⟨e, b, t, f⟩ (nameOf c n q) = true ∧ nameOf c n q < 1000000000) (addTrees c n r ⟨e, b, (nameOf c n q, rows) :: t, f⟩) := id rfl
@[simp, go_sem] theorem s294 : lentTrees s [] = some [] := id rfl
@[simp, go_sem] theorem s295 : lentTrees s (p :: ts) = bnd (look p s.tree) fun rows => bnd (lentTrees s ts) fun r => some (rows :: r) := id rfl
@[simp, go_sem] theorem s296 (l : List (Nat × List (List D))) : backTrees l [] n s = s := id rfl
@[simp, go_sem] theorem s297 (l : List (Nat × List (List D))) : backTrees l (p :: ts) n s = backTrees l ts (n + 1) (backOne s p (look n l)) := id rfl
@[simp, go_sem] theorem s298 (e : List (Nat × V)) (b : List (Nat × List V)) (t f : List (Nat × List (List D))) : backOne ⟨e, b, t, f⟩ p (some rows) = ⟨e, b, upd p rows t, f⟩ := id rfl
@[simp, go_sem] theorem s299 : backOne s p none = s.kill p := id rfl
@[simp, go_sem] theorem s300 (r : Res) : S.back s dst c r = bnd (backBoxes c (dst.getD 0) c.box r.box (backTrees r.tree c.tree 0 s)) fun s => bnd (addTrees c (dst.getD 0) r.tree s) fun s => bnd (backV c (dst.getD 0) r.val) fun v => some (s.put dst v) := id rfl
@[simp, go_sem] theorem s301 : lendOk c n = (noMix c && decide (c.box.length = n)) := id rfl
@[simp, go_sem] theorem s302 : noMix c = (c.tree.all fun p => c.src.all fun v => !mentions p v) := id rfl
@[simp, go_sem] theorem s303 : lendA true s c vs = lendM s c vs := id rfl
@[simp, go_sem] theorem s304 : lendA false s c vs = lendL s c vs := id rfl
@[simp, go_sem] theorem s305 : lendM s c [] = some ([], c) := id rfl
@[simp, go_sem] theorem s306 : lendM s c (.agg ws :: vs) = bnd (lendCells s c ws) fun x => bnd (lendM s x.2 vs) fun y => some (.agg x.1 :: y.1, y.2) := id rfl
@[simp, go_sem] theorem s307 (z : Value) : lendM s c (.v z :: vs) = bnd (lendCells s c [.v z]) fun x => bnd (lendM s x.2 vs) fun y => some (x.1 ++ y.1, y.2) := id rfl
@[simp, go_sem] theorem s308 : lendM s c (.nil :: vs) = bnd (lendCells s c [.nil]) fun x => bnd (lendM s x.2 vs) fun y => some (x.1 ++ y.1, y.2) := id rfl
@[simp, go_sem] theorem s309 (o : Option Nat) : lendM s c (.lst o rows :: vs) = bnd (lendCells s c [.lst o rows]) fun x => bnd (lendM s x.2 vs) fun y => some (x.1 ++ y.1, y.2) := id rfl
@[simp, go_sem] theorem s310 : lendM s c (.fz rows :: vs) = bnd (lendCells s c [.fz rows]) fun x => bnd (lendM s x.2 vs) fun y => some (x.1 ++ y.1, y.2) := id rfl
@[simp, go_sem] theorem s311 : lendM s c (.own p :: vs) = bnd (lendCells s c [.own p]) fun x => bnd (lendM s x.2 vs) fun y => some (x.1 ++ y.1, y.2) := id rfl
@[simp, go_sem] theorem s312 : lendM s c (.inn p n m q :: vs) = bnd (lendCells s c [.inn p n m q]) fun x => bnd (lendM s x.2 vs) fun y => some (x.1 ++ y.1, y.2) := id rfl
@[simp, go_sem] theorem s313 : lendM s c (.ref n m :: vs) = bnd (lendCells s c [.ref n m]) fun x => bnd (lendM s x.2 vs) fun y => some (x.1 ++ y.1, y.2) := id rfl
@[simp, go_sem] theorem s314 : lendM s c (.fn n ws :: vs) = bnd (lendCells s c [.fn n ws]) fun x => bnd (lendM s x.2 vs) fun y => some (x.1 ++ y.1, y.2) := id rfl
@[simp, go_sem] theorem s315 (mm : Bool) (M : Mean) : callV mm M s dst vs = bnd (lendA mm s ⟨[], [], []⟩ vs) fun x => bnd (lendBoxes s x.2 x.2.box) fun y => bnd (lentTrees s y.2.tree) fun ts => grd (lendOk y.2 y.1.length = true) (bnd (M x.1 y.1 ts) fun r => s.back dst y.2 r) := id rfl
end
section
variable (P : Program) (G : List (FuncId × Bool × Mean)) (s : S) (n m p q kk : Nat) (x y : V) (vs ws : List V) (rows : List (List D)) (dst : Option Nat) (ats : Array TypeId) (o o1 o2 : Operand)
@[simp, go_sem] theorem s316 (u : ByteArray) : builtinV P s dst .len ats [.v (.string u)] = bnd ats[0]? fun t => grd (strT P t = true) (some (s.put dst (.v (.int .i64 u.size)))) := id rfl
@[simp, go_sem] theorem s317 : builtinV P s dst .len ats [.nil] = bnd ats[0]? fun t => grd (lstT P t = true) (bnd (s.rows (.nil)) fun rows => some (s.put dst (.v (.int .i64 rows.length)))) := id rfl
@[simp, go_sem] theorem s318 (w : Option Nat) : builtinV P s dst .len ats [.lst w rows] = bnd ats[0]? fun t => grd (lstT P t = true) (bnd (s.rows (.lst w rows)) fun rows => some (s.put dst (.v (.int .i64 rows.length)))) := id rfl
@[simp, go_sem] theorem s319 : builtinV P s dst .len ats [.fz rows] = bnd ats[0]? fun t => grd (lstT P t = true) (bnd (s.rows (.fz rows)) fun rows => some (s.put dst (.v (.int .i64 rows.length)))) := id rfl
@[simp, go_sem] theorem s320 : builtinV P s dst .len ats [.own p] = bnd ats[0]? fun t => grd (lstT P t = true) (bnd (s.rows (.own p)) fun rows => some (s.put dst (.v (.int .i64 rows.length)))) := id rfl
@[simp, go_sem] theorem s321 : builtinV P s dst .len ats [.inn p n m q] = bnd ats[0]? fun t => grd (lstT P t = true) (bnd (s.rows (.inn p n m q)) fun rows => some (s.put dst (.v (.int .i64 rows.length)))) := id rfl
@[simp, go_sem] theorem s322 : builtinV P s dst .append ats [x, y] = bnd ats[0]? fun t => bnd ats[1]? fun t1 => grd (seqT P t1 = true) (appendV P s dst t x y) := id rfl
@[simp, go_sem] theorem s323 (a c : Int) : builtinV P s dst .max ats [.v (.int .i64 a), .v (.int .i64 c)] = some (s.put dst (.v (.int .i64 (max a c)))) := id rfl
@[simp, go_sem] theorem s324 (a c : Int) : builtinV P s dst .min ats [.v (.int .i64 a), .v (.int .i64 c)] = some (s.put dst (.v (.int .i64 (min a c)))) := id rfl
@[simp, go_sem] theorem s325 (a : Int) : bytesOfRow [.a (.int .u8 a)] = some (UInt8.ofNat a.toNat) := id rfl
@[simp, go_sem] theorem s326 (d0 : TypeDesc) : convS P s dst x d0 (.slice n) = bnd (P.underlying n) fun d => grd (isByteD d = true) (newBytes s dst x) := id rfl
@[simp, go_sem] theorem s327 (k : IntKind) (d0 : TypeDesc) : convS P s dst x d0 (.int k) = bnd (convD P s x d0 (.int k)) fun v => some (s.put dst v) := id rfl
@[simp, go_sem] theorem s328 (d0 : TypeDesc) : convS P s dst x d0 .string = bnd (convD P s x d0 .string) fun v => some (s.put dst v) := id rfl
@[simp, go_sem] theorem s329 (u : ByteArray) (e : List (Nat × V)) (b : List (Nat × List V)) (t f : List (Nat × List (List D))) : newBytes ⟨e, b, t, f⟩ (some n) (.v (.string u)) = grd (fresh ⟨e, b, t, f⟩ n = true ∧ u.size ≤ 4611686018427387904) (some ⟨put n (.fz (rowsOfStr u)) e, b, t, (n, []) :: f⟩) := id rfl
@[simp, go_sem] theorem s330 (k : IntKind) (d0 : TypeDesc) : convD P s x d0 (.int k) = bnd (idxOf x) fun n => some (.v (.int k (k.wrap n))) := id rfl
@[simp, go_sem] theorem s331 (u : ByteArray) (d0 : TypeDesc) : convD P s (.v (.string u)) d0 .string = some (.v (.string u)) := id rfl
@[simp, go_sem] theorem s332  (d0 : TypeDesc) : convD P s (.nil) d0 .string = bytesV P s (.nil) d0 := id rfl
@[simp, go_sem] theorem s333 (w : Option Nat) (d0 : TypeDesc) : convD P s (.lst w rows) d0 .string = bytesV P s (.lst w rows) d0 := id rfl
@[simp, go_sem] theorem s334  (d0 : TypeDesc) : convD P s (.fz rows) d0 .string = bytesV P s (.fz rows) d0 := id rfl
@[simp, go_sem] theorem s335  (d0 : TypeDesc) : convD P s (.own p) d0 .string = bytesV P s (.own p) d0 := id rfl
@[simp, go_sem] theorem s336  (d0 : TypeDesc) : convD P s (.inn p n m q) d0 .string = bytesV P s (.inn p n m q) d0 := id rfl
@[simp, go_sem] theorem s337 (d0 : TypeDesc) : bytesV P s x d0 = bnd (sliceElem d0) fun e => bnd (P.underlying e) fun d => grd (isByteD d = true) (bnd (s.rows x) fun rows => bnd (mapSome bytesOfRow rows) fun l => some (.v (.string ⟨l.toArray⟩))) := id rfl
@[simp, go_sem] theorem s338 : isByteD (.int .u8) = true := id rfl
@[simp, go_sem] theorem s339 (fs : Array Field) : placeP P (.flds fs) n = bnd fs[n]? fun f => some (f.offset, P.cellsOf f.type) := id rfl
@[simp, go_sem] theorem s340 : placeP P (.arr m) n = some (n * P.cellsOf m, P.cellsOf m) := id rfl
@[simp, go_sem] theorem s341 (fs : Parts) : fillRow P fs vs [] = some vs := id rfl
@[simp, go_sem] theorem s342 (fs : Parts) (r : List (Nat × V)) : fillRow P fs vs ((n, x) :: r) = bnd (placeP P fs n) fun f => grd (x.cells.length = f.2 ∧ f.1 + x.cells.length ≤ vs.length ∧ x.cells.all V.one = true) (fillRow P fs (setAt vs f.1 x.cells) r) := id rfl
@[simp, go_sem] theorem s343 (fs : Array Field) : structD (.struct fs) = some (.flds fs) := id rfl
@[simp, go_sem] theorem s344 : structD (.array n m) = some (.arr m) := id rfl
@[simp, go_sem] theorem s345 : evPair s (n, o) = bnd (s.ev o) fun v => some (n, v) := id rfl
@[simp, go_sem] theorem s346 : evOptOp s none = some none := id rfl
@[simp, go_sem] theorem s347 : evOptOp s (some o) = bnd (s.ev o) fun v => some (some v) := id rfl
@[simp, go_sem] theorem s348 : nilOk (.ref n m) = some (.ref n m) := id rfl
@[simp, go_sem] theorem s349 : nilOk (.pe x kk n m) = some (.pe x kk n m) := id rfl
@[simp, go_sem] theorem s350 : tupAt n (.tup vs) = vs[n]? := id rfl
@[simp, go_sem] theorem s351 : aggOf (.agg vs) = some vs := id rfl
@[simp, go_sem] theorem s352 : fnOf (.fn n vs) = some (n, vs) := id rfl
@[simp, go_sem] theorem s353 (e : List (Nat × V)) (b : List (Nat × List V)) (t f : List (Nat × List (List D))) : S.newBox ⟨e, b, t, f⟩ (some n) vs = grd ((look n b).isNone = true) (some ⟨put n (.ref n 0) e, (n, vs) :: b, t, f⟩) := id rfl
@[simp, go_sem] theorem s354 (z : Value) : plainV (.v z) = true := id rfl
@[simp, go_sem] theorem s355 (M : Mean) : callX false M s dst vs = callV false M s dst vs := by unfold callX; split; rw [if_neg (by simp)]; rfl
@[simp, go_sem] theorem s356 (M : Mean) : callX true M s dst [] = callV true M s dst [] := id rfl
@[simp, go_sem] theorem s357 (M : Mean) : callX true M s dst (.inn n m p q :: vs) = callI M s dst n m p q vs := id rfl
@[simp, go_sem] theorem s358 (M : Mean) (z : Value) : callX true M s dst (.v z :: vs) = callV true M s dst (.v z :: vs) := id rfl
@[simp, go_sem] theorem s359 (M : Mean)  : callX true M s dst (.nil :: vs) = callV true M s dst (.nil :: vs) := id rfl
@[simp, go_sem] theorem s360 (M : Mean) (o : Option Nat) : callX true M s dst (.lst o rows :: vs) = callV true M s dst (.lst o rows :: vs) := id rfl
@[simp, go_sem] theorem s361 (M : Mean)  : callX true M s dst (.fz rows :: vs) = callV true M s dst (.fz rows :: vs) := id rfl
@[simp, go_sem] theorem s362 (M : Mean)  : callX true M s dst (.own p :: vs) = callV true M s dst (.own p :: vs) := id rfl
@[simp, go_sem] theorem s363 (M : Mean)  : callX true M s dst (.agg ws :: vs) = callV true M s dst (.agg ws :: vs) := id rfl
@[simp, go_sem] theorem s364 (M : Mean)  : callX true M s dst (.ref n m :: vs) = callV true M s dst (.ref n m :: vs) := id rfl
@[simp, go_sem] theorem s365 (M : Mean)  : callX true M s dst (.fn n ws :: vs) = callV true M s dst (.fn n ws :: vs) := id rfl
@[simp, go_sem] theorem s366 (M : Mean) : callI M s dst p n m q vs = bnd (look p s.tree) fun rows => bnd rows[n]? fun r => bnd r[m]? fun d => bnd (rowsD d) fun rs => grd (r.length = q ∧ vs.all plainV = true) (bnd (M (.own 0 :: vs) [] [rs]) (innBack s dst p n m rows r)) := id rfl
@[simp, go_sem] theorem s367 (r : List D) (rs : List (List D)) (e : List (Nat × V)) (b : List (Nat × List V)) (t f : List (Nat × List (List D))) : innBack ⟨e, b, t, f⟩ dst p n m rows r ⟨x, [], [(0, rs)]⟩ = grd (plainV x = true) (some (S.put ⟨e, b, upd p (rows.set n (r.set m (.l rs))) t, f⟩ dst x)) := id rfl
@[simp, go_sem] theorem s368 (z : Builtin) : evCall P G s dst ats vs (.builtin z) = builtinV P s dst z ats vs := id rfl
@[simp, go_sem] theorem s369 : evCall P G s dst ats vs (.value o) = bnd (s.ev o) fun f => bnd (fnOf f) fun f => bnd (look f.1 G) fun M => callX M.1 M.2 s dst (vs ++ f.2) := id rfl
@[simp, go_sem] theorem s370 : evOp P G s dst (.move o) = bnd (s.ev o) fun v => some (s.put dst v) := id rfl
@[simp, go_sem] theorem s371 : evOp P G s dst (.assign o) = bnd (s.ev o) fun v => some (s.put dst v) := id rfl
@[simp, go_sem] theorem s372 : evOp P G s dst (.pick o o1 o2) = bnd (s.ev o) fun c => bnd (boolOf c) fun b => bnd (s.ev (if b then o1 else o2)) fun v => some (s.put dst v) := id rfl
@[simp, go_sem] theorem s373 : evOp P G s dst (.alloc n) = bnd (zeroV P n) fun cs => s.newBox dst cs := id rfl
@[simp, go_sem] theorem s374 : evOp P G s dst (.box n o) = bnd (s.ev o) fun v => grd (v.cells.length = P.cellsOf n ∧ v.cells.all V.one = true) (s.newBox dst v.cells) := id rfl
@[simp, go_sem] theorem s375 : evOp P G s dst (.load n o) = bnd (s.ev o) fun p => bnd (s.load P n p) fun v => some (s.put dst v) := id rfl
@[simp, go_sem] theorem s376 : evOp P G s dst (.store n o o1) = bnd (s.ev o) fun p => bnd (s.ev o1) fun v => bnd (s.store P n p v) fun s => some (s.skip dst) := id rfl
@[simp, go_sem] theorem s377 : evOp P G s dst (.nilCheck o) = bnd (s.ev o) fun v => bnd (nilOk v) fun v => some (s.put dst v) := id rfl
@[simp, go_sem] theorem s378 : evOp P G s dst (.fieldAddr n o m) = bnd (s.ev o) fun x => bnd (fieldOf P n m) fun f => bnd (addOff x f.1) fun v => some (s.put dst v) := id rfl
@[simp, go_sem] theorem s379 : evOp P G s dst (.field n o m) = bnd (s.ev o) fun x => bnd (aggOf x) fun cs => bnd (fieldOf P n m) fun f => bnd (aggT P f.2) fun g => bnd (span cs f.1 (P.cellsOf f.2) g) fun v => some (s.put dst v) := id rfl
@[simp, go_sem] theorem s380 : evOp P G s dst (.indexAddr n o o1) = bnd (s.ev o) fun x => bnd (s.ev o1) fun i => bnd (idxOf i) fun i => bnd (elemOfT P n) fun e => bnd (indexAddrV P s x i e.1 e.2) fun v => some (s.put dst v) := id rfl
@[simp, go_sem] theorem s381 : evOp P G s dst (.index n o o1) = bnd (s.ev o) fun x => bnd (s.ev o1) fun i => bnd (idxOf i) fun i => bnd (indexV P n x i) fun v => some (s.put dst v) := id rfl
@[simp, go_sem] theorem s382 : evOp P G s dst (.extract o n) = bnd (s.ev o) fun x => bnd (tupAt n x) fun v => some (s.put dst v) := id rfl
@[simp, go_sem] theorem s383 : evOp P G s dst (.convert n m o) = bnd (s.ev o) fun x => bnd (P.underlying n) fun d0 => bnd (P.underlying m) fun d => convS P s dst x d0 d := id rfl
@[simp, go_sem] theorem s384 (ps : Array (Nat × Operand)) : evOp P G s dst (.build n ps) = bnd (P.underlying n) fun d => bnd (structD d) fun fs => grd (fieldsOk P n = true) (bnd (zeroV P n) fun z => bnd (mapSome (evPair s) ps.toList) fun vs => bnd (fillRow P fs z vs) fun cs => some (s.put dst (.agg cs))) := id rfl
@[simp, go_sem] theorem s385 (ps : Array (Nat × Operand)) : evOp P G s dst (.buildSlice n m ps) = bnd (P.underlying n) fun d => bnd (sliceElem d) fun e => bnd (mapSome (evPair s) ps.toList) fun vs => grd ((zeroOk P e && decide (m * P.cellsOf e ≤ 16777216) && upto 0 m (vs.map (·.1)) && vs.all fun v => decide (v.2.cells.length = P.cellsOf e) && v.2.cells.all V.one) = true) (bnd (packRows s (vs.map (·.2))) fun x => x.2.newTree dst x.1) := id rfl
@[simp, go_sem] theorem s386 (z : BinOp) : evOp P G s dst (.binOp z n o o1 m) = bnd (s.ev o) fun x => bnd (s.ev o1) fun y => bnd (bin P n z x y) fun v => some (s.put dst v) := id rfl
@[simp, go_sem] theorem s387 (z : UnOp) : evOp P G s dst (.unOp z n o) = bnd (s.ev o) fun x => bnd (un z x) fun v => some (s.put dst v) := id rfl
@[simp, go_sem] theorem s388 (lo hi : Option Operand) : evOp P G s dst (.slice n o lo hi none) = bnd (s.ev o) fun x => bnd (evOptOp s lo) fun l => bnd (evOptOp s hi) fun h => bnd (P.underlying n) fun d => bnd (sliceV P s x l h d) fun v => some (s.put dst v) := id rfl
@[simp, go_sem] theorem s389 : evOp P G s dst (.makeSlice n o o1) = bnd (s.ev o) fun n1 => bnd (s.ev o1) fun c => evMake P s dst n n1 c := id rfl
@[simp, go_sem] theorem s390 : evMake P s dst n x y = bnd (P.underlying n) fun d => bnd (sliceElem d) fun e => bnd (idxOf x) fun l => bnd (idxOf y) fun cc => grd (zeroOk P e = true ∧ 0 ≤ l ∧ l = cc ∧ l.toNat * P.bytesOf e ≤ 140737488355328 ∧ l ≤ 4611686018427387904) (bnd (zeroV P e) fun z => bnd (mapSome packV z) fun r => s.newTree dst (List.replicate l.toNat r)) := id rfl
@[simp, go_sem] theorem s391 (c : Call) : evOp P G s dst (.call c) = bnd (mapSome s.ev c.args.toList) fun args => evCall P G s dst c.argTypes args c.callee := id rfl
@[simp, go_sem] theorem s392 (ops : Array Oper) : S.wants ops s none = some true := id rfl
@[simp, go_sem] theorem s393 (ops : Array Oper) (g : Bool) : S.wants ops s (some (n, g)) = wantsAt s g ((ops[n]?).bind (·.dst)) := id rfl
@[simp, go_sem] theorem s394 (g : Bool) : wantsAt s g (some n) = wantsV g (look n s.env) := id rfl
@[simp, go_sem] theorem s395 (g : Bool) : wantsV g none = none := id rfl
@[simp, go_sem] theorem s396 (g : Bool) : wantsV g (some (.tup [])) = some false := id rfl
@[simp, go_sem] theorem s397 (g h : Bool) : wantsV g (some (.v (.bool h))) = some (h == g) := id rfl
end
section
variable (l : List Nat) (mp : List (Nat × Nat)) (n m p q kk : Nat) (x y : V) (vs ws : List V) (rows : List (List D))
@[simp, go_sem] theorem s398 : renV mp (.own p) = .own (ren mp p) := id rfl
@[simp, go_sem] theorem s399 : renV mp (.inn p n m q) = .inn (ren mp p) n m q := id rfl
@[simp, go_sem] theorem s400 : metV l (.inn p n m q) = if l.contains p then l else l ++ [p] := id rfl
@[simp, go_sem] theorem s401 : isFz (.inn p n m q) = false := id rfl
@[simp, go_sem] theorem s402 : ren mp p = (look p mp).getD p := id rfl
@[simp, go_sem] theorem s403 : renV mp (.pe x kk n m) = .pe (renV mp x) kk n m := id rfl
@[simp, go_sem] theorem s404 : renV mp (.agg vs) = .agg (renL mp vs) := id rfl
@[simp, go_sem] theorem s405 : renV mp (.tup vs) = .tup (renL mp vs) := id rfl
@[simp, go_sem] theorem s406 : renV mp (.fn n vs) = .fn n (renL mp vs) := id rfl
@[simp, go_sem] theorem s407 (z : Value) : renV mp (.v z) = .v z := id rfl
@[simp, go_sem] theorem s408 (z : Value) : metV l (.v z) = l := id rfl
@[simp, go_sem] theorem s409 (z : Value) : isFz (.v z) = false := id rfl
@[simp, go_sem] theorem s410 : renV mp (.nil) = .nil := id rfl
@[simp, go_sem] theorem s411 : metV l (.nil) = l := id rfl
@[simp, go_sem] theorem s412 : isFz (.nil) = false := id rfl
@[simp, go_sem] theorem s413 (o : Option Nat) : renV mp (.lst o rows) = .lst o rows := id rfl
@[simp, go_sem] theorem s414 (o : Option Nat) : metV l (.lst o rows) = l := id rfl
@[simp, go_sem] theorem s415 (o : Option Nat) : isFz (.lst o rows) = false := id rfl
@[simp, go_sem] theorem s416 : renV mp (.fz rows) = .fz rows := id rfl
@[simp, go_sem] theorem s417 : metV l (.fz rows) = l := id rfl
@[simp, go_sem] theorem s418 : isFz (.fz rows) = true := id rfl
@[simp, go_sem] theorem s419 : renV mp (.ref n m) = .ref n m := id rfl
@[simp, go_sem] theorem s420 : metV l (.ref n m) = l := id rfl
@[simp, go_sem] theorem s421 : isFz (.ref n m) = false := id rfl
@[simp, go_sem] theorem s422 : renV mp (.dead) = .dead := id rfl
@[simp, go_sem] theorem s423 : metV l (.dead) = l := id rfl
@[simp, go_sem] theorem s424 : isFz (.dead) = false := id rfl
@[simp, go_sem] theorem s425 : renL mp [] = [] := id rfl
@[simp, go_sem] theorem s426 : renL mp (x :: vs) = renV mp x :: renL mp vs := id rfl
@[simp, go_sem] theorem s427 : metV l (.own p) = if l.contains p then l else l ++ [p] := id rfl
@[simp, go_sem] theorem s428 : metV l (.pe x kk n m) = metV l x := id rfl
@[simp, go_sem] theorem s429 : metV l (.agg vs) = metL l vs := id rfl
@[simp, go_sem] theorem s430 : metV l (.tup vs) = metL l vs := id rfl
@[simp, go_sem] theorem s431 : metV l (.fn n vs) = metL l vs := id rfl
@[simp, go_sem] theorem s432 : metL l [] = l := id rfl
@[simp, go_sem] theorem s433 : metL l (x :: vs) = metL (metV l x) vs := id rfl
@[simp, go_sem] theorem s434 : ownNil n [] = ([], []) := id rfl
@[simp, go_sem] theorem s435 (e : List (Nat × V)) : ownNil n ((m, .nil) :: e) = ((m, .own n) :: (ownNil (n + 1) e).1, n :: (ownNil (n + 1) e).2) := id rfl
@[simp, go_sem] theorem s436 : ownNilL n [] = ([], []) := id rfl
@[simp, go_sem] theorem s437 : ownNilL n (.nil :: vs) = (.own n :: (ownNilL (n + 1) vs).1, n :: (ownNilL (n + 1) vs).2) := id rfl
@[simp, go_sem] theorem s438 (z : Value) (e : List (Nat × V)) : ownNil n ((m, .v z) :: e) = ((m, .v z) :: (ownNil n e).1, (ownNil n e).2) := id rfl
@[simp, go_sem] theorem s439 (z : Value) : ownNilL n (.v z :: vs) = (.v z :: (ownNilL n vs).1, (ownNilL n vs).2) := id rfl
@[simp, go_sem] theorem s440 (o : Option Nat) (e : List (Nat × V)) : ownNil n ((m, .lst o rows) :: e) = ((m, .lst o rows) :: (ownNil n e).1, (ownNil n e).2) := id rfl
@[simp, go_sem] theorem s441 (o : Option Nat) : ownNilL n (.lst o rows :: vs) = (.lst o rows :: (ownNilL n vs).1, (ownNilL n vs).2) := id rfl
@[simp, go_sem] theorem s442  (e : List (Nat × V)) : ownNil n ((m, .fz rows) :: e) = ((m, .fz rows) :: (ownNil n e).1, (ownNil n e).2) := id rfl
@[simp, go_sem] theorem s443 : ownNilL n (.fz rows :: vs) = (.fz rows :: (ownNilL n vs).1, (ownNilL n vs).2) := id rfl
@[simp, go_sem] theorem s444  (e : List (Nat × V)) : ownNil n ((m, .own p) :: e) = ((m, .own p) :: (ownNil n e).1, (ownNil n e).2) := id rfl
@[simp, go_sem] theorem s445 : ownNilL n (.own p :: vs) = (.own p :: (ownNilL n vs).1, (ownNilL n vs).2) := id rfl
@[simp, go_sem] theorem s446 (r0 : Nat) (e : List (Nat × V)) : ownNil n ((m, .inn p q kk r0) :: e) = ((m, .inn p q kk r0) :: (ownNil n e).1, (ownNil n e).2) := id rfl
@[simp, go_sem] theorem s447 (r0 : Nat) : ownNilL n (.inn p q kk r0 :: vs) = (.inn p q kk r0 :: (ownNilL n vs).1, (ownNilL n vs).2) := id rfl
@[simp, go_sem] theorem s448  (e : List (Nat × V)) : ownNil n ((m, .ref p q) :: e) = ((m, .ref p q) :: (ownNil n e).1, (ownNil n e).2) := id rfl
@[simp, go_sem] theorem s449 : ownNilL n (.ref p q :: vs) = (.ref p q :: (ownNilL n vs).1, (ownNilL n vs).2) := id rfl
@[simp, go_sem] theorem s450  (e : List (Nat × V)) : ownNil n ((m, .pe x kk p q) :: e) = ((m, .pe x kk p q) :: (ownNil n e).1, (ownNil n e).2) := id rfl
@[simp, go_sem] theorem s451 : ownNilL n (.pe x kk p q :: vs) = (.pe x kk p q :: (ownNilL n vs).1, (ownNilL n vs).2) := id rfl
@[simp, go_sem] theorem s452  (e : List (Nat × V)) : ownNil n ((m, .agg ws) :: e) = ((m, .agg ws) :: (ownNil n e).1, (ownNil n e).2) := id rfl
@[simp, go_sem] theorem s453 : ownNilL n (.agg ws :: vs) = (.agg ws :: (ownNilL n vs).1, (ownNilL n vs).2) := id rfl
@[simp, go_sem] theorem s454  (e : List (Nat × V)) : ownNil n ((m, .tup ws) :: e) = ((m, .tup ws) :: (ownNil n e).1, (ownNil n e).2) := id rfl
@[simp, go_sem] theorem s455 : ownNilL n (.tup ws :: vs) = (.tup ws :: (ownNilL n vs).1, (ownNilL n vs).2) := id rfl
@[simp, go_sem] theorem s456  (e : List (Nat × V)) : ownNil n ((m, .fn p ws) :: e) = ((m, .fn p ws) :: (ownNil n e).1, (ownNil n e).2) := id rfl
@[simp, go_sem] theorem s457 : ownNilL n (.fn p ws :: vs) = (.fn p ws :: (ownNilL n vs).1, (ownNilL n vs).2) := id rfl
@[simp, go_sem] theorem s458  (e : List (Nat × V)) : ownNil n ((m, .dead) :: e) = ((m, .dead) :: (ownNil n e).1, (ownNil n e).2) := id rfl
@[simp, go_sem] theorem s459 : ownNilL n (.dead :: vs) = (.dead :: (ownNilL n vs).1, (ownNilL n vs).2) := id rfl
@[simp, go_sem] theorem s460 : ownNilB n [] = ([], []) := id rfl
@[simp, go_sem] theorem s461 (b : List (Nat × List V)) : ownNilB n ((m, vs) :: b) = ((m, (ownNilL n vs).1) :: (ownNilB (n + (ownNilL n vs).2.length) b).1, (ownNilL n vs).2 ++ (ownNilB (n + (ownNilL n vs).2.length) b).2) := id rfl
@[simp, go_sem] theorem s462 (e : List (Nat × V)) : keepE l e = mapSome (fun t => bnd (look t e) fun v => some (t, v)) l := id rfl
@[simp, go_sem] theorem s463 (b : List (Nat × List V)) : keepB l b = mapSome (fun t => bnd (look t b) fun v => some (t, v)) l := id rfl
@[simp, go_sem] theorem s464 : refsOk l (.ref n m) = l.contains n := id rfl
@[simp, go_sem] theorem s465 : refsOk l (.pe x kk n m) = refsOk l x := id rfl
@[simp, go_sem] theorem s466 : refsOk l (.agg vs) = refsOk.go l vs := id rfl
@[simp, go_sem] theorem s467 : refsOk l (.tup vs) = refsOk.go l vs := id rfl
@[simp, go_sem] theorem s468 : refsOk l (.fn n vs) = refsOk.go l vs := id rfl
@[simp, go_sem] theorem s469 (z : Value) : refsOk l (.v z) = true := id rfl
@[simp, go_sem] theorem s470 : refsOk l (.nil) = true := id rfl
@[simp, go_sem] theorem s471 (o : Option Nat) : refsOk l (.lst o rows) = true := id rfl
@[simp, go_sem] theorem s472 : refsOk l (.fz rows) = true := id rfl
@[simp, go_sem] theorem s473 : refsOk l (.own n) = true := id rfl
@[simp, go_sem] theorem s474 : refsOk l (.inn n m p q) = true := id rfl
@[simp, go_sem] theorem s475 : refsOk l (.dead) = true := id rfl
@[simp, go_sem] theorem s476 : refsOk.go l [] = true := id rfl
@[simp, go_sem] theorem s477 : refsOk.go l (x :: vs) = (refsOk l x && refsOk.go l vs) := id rfl
@[simp, go_sem] theorem s478 (tr : List (Nat × List (List D))) : metIn tr [] n = [] := id rfl
@[simp, go_sem] theorem s479 (tr : List (Nat × List (List D))) : metIn tr (p :: l) n = metOne p n (metIn tr l) (look p tr) := id rfl
@[simp, go_sem] theorem s480 (k : Nat → List (Nat × Nat × List (List D))) : metOne p n k (some rows) = if 1000000000 ≤ p ∧ p < 2000000000 then (p, p, rows) :: k n else (p, 2000000000 + n, rows) :: k (n + 1) := id rfl
@[simp, go_sem] theorem s481 (k : Nat → List (Nat × Nat × List (List D))) : metOne p n k none = k n := id rfl
@[simp, go_sem] theorem s482 (e : List (Nat × V)) (b : List (Nat × List V)) (t f : List (Nat × List (List D))) : S.head1 e b t f = S.head2 (metIn t (metL (metL [] (e.map (·.2))) (b.flatMap (·.2))) (1000 * f.length)) e b f := id rfl
@[simp, go_sem] theorem s483 (mm : List (Nat × Nat × List (List D))) (e : List (Nat × V)) (b : List (Nat × List V)) (f : List (Nat × List (List D))) : S.head2 mm e b f = ⟨e.map fun x => (x.1, renV (mm.map fun x => (x.1, x.2.1)) x.2), b.map fun x => (x.1, renL (mm.map fun x => (x.1, x.2.1)) x.2), (mm.map (·.2)).reverse, f⟩ := id rfl
@[simp, go_sem] theorem s484 (ts bs : List Nat) (e : List (Nat × V)) (b : List (Nat × List V)) (t f : List (Nat × List (List D))) : S.head ts bs ⟨e, b, t, f⟩ = bnd (keepE ts e) fun env => bnd (keepB bs b) fun box => grd ((desc ts && desc bs && env.all (fun x => refsOk bs x.2) && box.all (fun x => x.2.all (refsOk bs)) && t.all (fun x => decide (x.1 < 3000000000)) && f.all (fun x => decide (x.1 < 2000000000 + 1000 * f.length)) && decide (f.length < 1000)) = true) (some (S.head1 (ownNil 3000000000 env).1 (ownNilB (3000000000 + (ownNil 3000000000 env).2.length) box).1 (t ++ ((ownNil 3000000000 env).2 ++ (ownNilB (3000000000 + (ownNil 3000000000 env).2.length) box).2).map fun p => (p, [])) f)) := id rfl
@[simp, go_sem] theorem s485 (hs : List (Nat × List Nat × List Nat)) (fs : List (Nat × List Nat)) (ds : List (Nat × List Nat × List (Nat × List Nat))) (ns : List (Nat × List Nat × List Nat)) (s : S) : Ghost.head ⟨hs, fs, ds, ns⟩ n s = headAt s (look n hs) := id rfl
@[simp, go_sem] theorem s486 (hs : List (Nat × List Nat × List Nat)) (fs : List (Nat × List Nat)) (ds : List (Nat × List Nat × List (Nat × List Nat))) (ns : List (Nat × List Nat × List Nat)) : Ghost.bars ⟨hs, fs, ds, ns⟩ n = barsAt (look n ds) := id rfl
@[simp, go_sem] theorem s487 (z : List Nat × List (Nat × List Nat)) : barsAt (some z) = z := id rfl
@[simp, go_sem] theorem s488 : barsAt none = ([], []) := id rfl
@[simp, go_sem] theorem s489 (s : S) (ts bs : List Nat) : headAt s (some (ts, bs)) = s.head ts bs := id rfl
@[simp, go_sem] theorem s490 (s : S) : headAt s none = some s := id rfl
@[simp, go_sem] theorem s491 (hs : List (Nat × List Nat × List Nat)) (fs : List (Nat × List Nat)) (ds : List (Nat × List Nat × List (Nat × List Nat))) (ns : List (Nat × List Nat × List Nat)) (s : S) : Ghost.reg ⟨hs, fs, ds, ns⟩ n s = bnd (headAt s (look n ns)) fun s => regAt s (look n fs) := id rfl
@[simp, go_sem] theorem s492 (s : S) : regAt s (some l) = freezeAll s l := id rfl
@[simp, go_sem] theorem s493 (s : S) : regAt s none = some s := id rfl
@[simp, go_sem] theorem s494 (s : S) : freezeAll s [] = some s := id rfl
@[simp, go_sem] theorem s495 (s : S) : freezeAll s (n :: l) = bnd (s.freeze n) fun s => freezeAll s l := id rfl
@[simp, go_sem] theorem s496 (s : S) : S.freeze s n = bnd (look n s.env) fun v => freezeV s v := id rfl
@[simp, go_sem] theorem s497 (s : S) : freezeV s (.own p) = freezeAt s p (look p s.tree) := id rfl
@[simp, go_sem] theorem s498 (q : Nat) (s : S) : freezeV s (.ref p q) = bnd (look p s.box) fun cs => freezeL s cs := id rfl
@[simp, go_sem] theorem s499 (s : S) : freezeL s [] = some s := id rfl
@[simp, go_sem] theorem s500 (s : S) (vs : List V) : freezeL s (.own p :: vs) = bnd (freezeAt s p (look p s.tree)) fun s => freezeL s vs := id rfl
@[simp, go_sem] theorem s501 (s : S) (vs : List V) (z : Value) : freezeL s (.v z :: vs) = freezeL s vs := id rfl
@[simp, go_sem] theorem s502 (s : S) (vs : List V)  : freezeL s (.nil :: vs) = freezeL s vs := id rfl
@[simp, go_sem] theorem s503 (s : S) (vs : List V) (o : Option Nat) (rows : List (List D)) : freezeL s (.lst o rows :: vs) = freezeL s vs := id rfl
@[simp, go_sem] theorem s504 (s : S) (vs : List V) (rows : List (List D)) : freezeL s (.fz rows :: vs) = freezeL s vs := id rfl
@[simp, go_sem] theorem s505 (s : S) (vs : List V)  : freezeL s (.dead :: vs) = freezeL s vs := id rfl
@[simp, go_sem] theorem s506 (s : S) (vs : List V) (q : Nat) : freezeL s (.ref p q :: vs) = freezeL s vs := id rfl
@[simp, go_sem] theorem s507 (e : List (Nat × V)) (b : List (Nat × List V)) (t f : List (Nat × List (List D))) : freezeAt ⟨e, b, t, f⟩ p (some rows) = some ⟨e, b, drop1 p t, (p, rows) :: f⟩ := id rfl
@[simp, go_sem] theorem s508 (s : S) : freezeAt s p none = some s := id rfl
end
section
variable (s : S) (n m p q kk : Nat) (x y : V) (vs ws : List V) (rows : List (List D)) (l : List (Nat × List (List D)))
@[simp, go_sem] theorem s509 : enterV (.ref n m) = .ref (1000000000 + n) m := id rfl
@[simp, go_sem] theorem s510 : enterV (.own n) = .own (1000000000 + n) := id rfl
@[simp, go_sem] theorem s511 : enterV (.inn n m p q) = .inn (1000000000 + n) m p q := id rfl
@[simp, go_sem] theorem s512 : enterV (.agg vs) = .agg (enterL vs) := id rfl
@[simp, go_sem] theorem s513 : enterV (.tup vs) = .tup (enterL vs) := id rfl
@[simp, go_sem] theorem s514 : enterV (.pe x kk n m) = .pe (enterV x) kk n m := id rfl
@[simp, go_sem] theorem s515 : enterV (.fn n vs) = .fn n (enterL vs) := id rfl
@[simp, go_sem] theorem s516 (z : Value) : enterV (.v z) = .v z := id rfl
@[simp, go_sem] theorem s517 : enterV (.nil) = .nil := id rfl
@[simp, go_sem] theorem s518 (o : Option Nat) : enterV (.lst o rows) = .lst o rows := id rfl
@[simp, go_sem] theorem s519 : enterV (.fz rows) = .fz rows := id rfl
@[simp, go_sem] theorem s520 : enterV (.dead) = .dead := id rfl
@[simp, go_sem] theorem s521 : enterL [] = [] := id rfl
@[simp, go_sem] theorem s522 : enterL (x :: vs) = enterV x :: enterL vs := id rfl
@[simp, go_sem] theorem s523 (z : Value) : outV s n l (.v z) = some (.v z, l) := id rfl
@[simp, go_sem] theorem s524 : outV s n l .nil = some (.own (n + l.length), l ++ [(0, [])]) := id rfl
@[simp, go_sem] theorem s525 (o : Option Nat) : outV s n l (.lst o rows) = some (.lst o rows, l) := id rfl
@[simp, go_sem] theorem s526 : outV s n l (.agg vs) = bnd (outL s n l vs) fun x => some (.agg x.1, x.2) := id rfl
@[simp, go_sem] theorem s527 : outV s n l (.tup vs) = bnd (outL s n l vs) fun x => some (.tup x.1, x.2) := id rfl
@[simp, go_sem] theorem s528 : outV s n l (.ref p q) = grd (1000000000 ≤ p) (some (.ref (p - 1000000000) q, l)) := id rfl
@[simp, go_sem] theorem s529 : outV s n l (.own p) = if 1000000000 ≤ p ∧ p < 1000000000 + n then grd ((look p s.tree).isSome = true) (some (.own (p - 1000000000), l)) else bnd (s.rows (.own p)) fun rows => grd ((look p l).isNone = true) (some (.own (n + l.length), l ++ [(p, rows)])) := id rfl
@[simp, go_sem] theorem s530 : outV s n l .dead = some (.dead, l) := id rfl
@[simp, go_sem] theorem s531 : outL s n l [] = some ([], l) := id rfl
@[simp, go_sem] theorem s532 : outL s n l (x :: vs) = bnd (outV s n l x) fun x => bnd (outL s n x.2 vs) fun y => some (x.1 :: y.1, y.2) := id rfl
@[simp, go_sem] theorem s533 : outB s n l [] = some ([], l) := id rfl
@[simp, go_sem] theorem s534 (ps : List Nat) : outB s n l (p :: ps) = bnd (look (1000000000 + p) s.box) fun cs => bnd (outL s n l cs) fun x => bnd (outB s n x.2 ps) fun y => some (x.1 :: y.1, y.2) := id rfl
@[simp, go_sem] theorem s535 (P : Program) : resV P s (.tmp n) = look n s.env := id rfl
@[simp, go_sem] theorem s536 (P : Program) : resV P s (.cell n m) = bnd (look n s.env) fun p => s.load P m p := id rfl
@[simp, go_sem] theorem s537 : tupOf [x] = x := id rfl
@[simp, go_sem] theorem s538 : tupOf [] = .tup [] := id rfl
@[simp, go_sem] theorem s539 : tupOf (x :: y :: vs) = .tup (x :: y :: vs) := id rfl
@[simp, go_sem] theorem s540 : keptTrees s n 0 = [] := id rfl
@[simp, go_sem] theorem s541 : keptTrees s n (m + 1) = keptOne n (keptTrees s (n + 1) m) (look (1000000000 + n) s.tree) := id rfl
@[simp, go_sem] theorem s542 : keptOne n l (some rows) = (n, rows) :: l := id rfl
@[simp, go_sem] theorem s543 : keptOne n l none = l := id rfl
@[simp, go_sem] theorem s544 (P : Program) (rs : List ResultVar) : outRes P rs n m s = bnd (mapSome (resV P s) rs) fun vs => bnd (outV s m [] (tupOf vs)) fun x => bnd (outB s m x.2 (List.range' 0 n)) fun y => grd ((s.box.all fun x => decide (x.1 < 1000000000 + n)) = true) (some ⟨x.1, y.1, keptTrees s 0 m ++ numbered m y.2⟩) := id rfl
@[simp, go_sem] theorem s545 (P : Program) (fn : Func) : leaveV P fn n m (.normal, .on s) = outRes P fn.results.toList n m s := id rfl
@[simp, go_sem] theorem s546 (P : Program) (fn : Func) : leaveV P fn n m (.ret, .on s) = outRes P fn.results.toList n m s := id rfl
@[simp, go_sem] theorem s547 (z : Q) : blockV n (.exit m, z) = if m = n then some (.normal, z) else some (.exit m, z) := id rfl
@[simp, go_sem] theorem s548 (z : Q) : blockV n (.normal, z) = some (.normal, z) := id rfl
@[simp, go_sem] theorem s549 (z : Q) : blockV n (.ret, z) = some (.ret, z) := id rfl
@[simp, go_sem] theorem s550 (ops : Array Oper) (d : Bool) : Code.first (.region n ops d) = n := id rfl
@[simp, go_sem] theorem s551 (c d : Code) : Code.first (.seq c d) = Code.first c := id rfl
@[simp, go_sem] theorem s552 (c : Code) : Code.first (.block n c) = Code.first c := id rfl
@[simp, go_sem] theorem s553 (c : Code) : Code.first (.loop c) = Code.first c := id rfl
@[simp, go_sem] theorem s554 (c : Code) : Code.first (.scope c) = Code.first c := id rfl
@[simp, go_sem] theorem s555 (P : Program) (G : List (FuncId × Bool × Mean)) (gh : Ghost) (bs : List (List V)) (ts : List (List (List D))) : evFun P G gh n vs bs ts = bnd P.funcs[n]? fun fn => bnd fn.body fun c => grd (vs.length ≤ 1000 ∧ bs.length ≤ 1000 ∧ ts.length ≤ 1000) <| bnd (evC P G gh c (.on ⟨(withIdx 0 (vs.map enterV)).reverse, (withIdx 1000000000 (bs.map enterL)).reverse, (withIdx 1000000000 ts).reverse, []⟩)) (leaveV P fn bs.length ts.length) := id rfl
@[simp, go_sem] theorem s556 (o : Option (List (List D))) : orElse1 (some rows) o = some rows := id rfl
@[simp, go_sem] theorem s557 (o : Option (List (List D))) : orElse1 none o = o := id rfl
end
theorem eff_val (s : S) (d : Nat) (v : V) : grd ((freshAll s [] && freshBox s []) = true) (some (s.app (some d) ⟨v, [], []⟩)) = some (s.put (some d) v) := by rw [grd_pos _ (show (freshAll s [] && freshBox s []) = true from rfl)]; rfl
section
variable (P : Program) (G : List (FuncId × Bool × Mean)) (s : S) (n m p q kk d : Nat) (x y : V) (vs ws : List V) (rows : List (List D)) (ats : Array TypeId) (o o1 o2 : Operand)
@[simp, go_sem] theorem s558 : effAt P G s (some d) (.move o) = evOp P G s (some d) (.move o) := by simp only [effAt, effOp, valOp, evOp, bnd_some, bnd_assoc, bnd_grd, eff_val]
@[simp, go_sem] theorem s559 : effAt P G s (some d) (.assign o) = evOp P G s (some d) (.assign o) := by simp only [effAt, effOp, valOp, evOp, bnd_some, bnd_assoc, bnd_grd, eff_val]
@[simp, go_sem] theorem s560 : effAt P G s (some d) (.pick o o1 o2) = evOp P G s (some d) (.pick o o1 o2) := by simp only [effAt, effOp, valOp, evOp, bnd_some, bnd_assoc, bnd_grd, eff_val]
@[simp, go_sem] theorem s561 : effAt P G s (some d) (.load n o) = evOp P G s (some d) (.load n o) := by simp only [effAt, effOp, valOp, evOp, bnd_some, bnd_assoc, bnd_grd, eff_val]
@[simp, go_sem] theorem s562 : effAt P G s (some d) (.nilCheck o) = evOp P G s (some d) (.nilCheck o) := by simp only [effAt, effOp, valOp, evOp, bnd_some, bnd_assoc, bnd_grd, eff_val]
@[simp, go_sem] theorem s563 : effAt P G s (some d) (.fieldAddr n o m) = evOp P G s (some d) (.fieldAddr n o m) := by simp only [effAt, effOp, valOp, evOp, bnd_some, bnd_assoc, bnd_grd, eff_val]
@[simp, go_sem] theorem s564 : effAt P G s (some d) (.field n o m) = evOp P G s (some d) (.field n o m) := by simp only [effAt, effOp, valOp, evOp, bnd_some, bnd_assoc, bnd_grd, eff_val]
@[simp, go_sem] theorem s565 : effAt P G s (some d) (.indexAddr n o o1) = evOp P G s (some d) (.indexAddr n o o1) := by simp only [effAt, effOp, valOp, evOp, bnd_some, bnd_assoc, bnd_grd, eff_val]
@[simp, go_sem] theorem s566 : effAt P G s (some d) (.index n o o1) = evOp P G s (some d) (.index n o o1) := by simp only [effAt, effOp, valOp, evOp, bnd_some, bnd_assoc, bnd_grd, eff_val]
@[simp, go_sem] theorem s567 : effAt P G s (some d) (.extract o n) = evOp P G s (some d) (.extract o n) := by simp only [effAt, effOp, valOp, evOp, bnd_some, bnd_assoc, bnd_grd, eff_val]
@[simp, go_sem] theorem s568 (ps : Array (Nat × Operand)) : effAt P G s (some d) (.build n ps) = evOp P G s (some d) (.build n ps) := by simp only [effAt, effOp, valOp, evOp, bnd_some, bnd_assoc, bnd_grd, eff_val]
@[simp, go_sem] theorem s569 (z : BinOp) : effAt P G s (some d) (.binOp z n o o1 m) = evOp P G s (some d) (.binOp z n o o1 m) := by simp only [effAt, effOp, valOp, evOp, bnd_some, bnd_assoc, bnd_grd, eff_val]
@[simp, go_sem] theorem s570 (z : UnOp) : effAt P G s (some d) (.unOp z n o) = evOp P G s (some d) (.unOp z n o) := by simp only [effAt, effOp, valOp, evOp, bnd_some, bnd_assoc, bnd_grd, eff_val]
@[simp, go_sem] theorem s571 (lo hi : Option Operand) : effAt P G s (some d) (.slice n o lo hi none) = evOp P G s (some d) (.slice n o lo hi none) := by simp only [effAt, effOp, valOp, evOp, bnd_some, bnd_assoc, bnd_grd, eff_val]
@[simp, go_sem] theorem s572 : effAt P G s (some d) (.convert n m o) = bnd (s.ev o) fun x => bnd (P.underlying n) fun d0 => bnd (P.underlying m) fun dd => bnd (convD P s x d0 dd) fun v => some (s.put (some d) v) := by simp only [effAt, effOp, valOp, bnd_some, bnd_assoc, bnd_grd, eff_val]
@[simp, go_sem] theorem s573 : effAt P G s (some d) (.alloc n) = evOp P G s (some d) (.alloc n) := by simp only [effAt, effOp, evOp, bnd_some, bnd_assoc, S.newBox, freshAll, freshBox, Bool.and_true, Bool.true_and]; rfl
@[simp, go_sem] theorem s574 : effAt P G s (some d) (.box n o) = evOp P G s (some d) (.box n o) := by simp only [effAt, effOp, evOp, bnd_some, bnd_assoc, bnd_grd, S.newBox, freshAll, freshBox, Bool.and_true, Bool.true_and]; rfl
@[simp, go_sem] theorem s575 (c : Call) : effAt P G s (some d) (.call c) = bnd (bnd (mapSome s.ev c.args.toList) fun args => effCallee P G s d c.argTypes args c.callee) fun e => grd ((freshAll s e.tree && freshBox s e.box) = true) (some (s.app (some d) e)) := id rfl
@[simp, go_sem] theorem s576 (ps : Array (Nat × Operand)) : effAt P G s (some d) (.buildSlice n m ps) = bnd (bnd (P.underlying n) fun ds => bnd (sliceElem ds) fun e => bnd (mapSome (evPair s) ps.toList) fun vs => grd ((zeroOk P e && decide (m * P.cellsOf e ≤ 16777216) && upto 0 m (vs.map (·.1)) && vs.all fun v => decide (v.2.cells.length = P.cellsOf e) && v.2.cells.all V.one) = true) (bnd (mapSome (fun v : Nat × V => mapSome packV v.2.cells) vs) fun rows => some ⟨.own d, [(d, rows)], []⟩)) fun e : Eff => grd ((freshAll s e.tree && freshBox s e.box) = true) (some (s.app (some d) e)) := id rfl
@[simp, go_sem] theorem s577 (z : Builtin) : effCallee P G s d ats vs (.builtin z) = effB P s d z ats vs := id rfl
@[simp, go_sem] theorem s578 : effCallee P G s d ats vs (.value o) = bnd (s.ev o) fun f => bnd (fnOf f) fun f => bnd (look f.1 G) fun M => grd (M.1 = false) (effCall M.2 s d (vs ++ f.2)) := id rfl
@[simp, go_sem] theorem s579 : effB P s d .append ats [x, y] = bnd ats[0]? fun t => bnd ats[1]? fun t1 => grd (seqT P t1 = true) (bnd (P.underlying t) fun ds => bnd (sliceElem ds) fun e => bnd (flatRows s y) fun new => effNew P s d e new x) := id rfl
@[simp, go_sem] theorem s580 : effB P s d .len ats vs = bnd (valB P s .len ats vs) fun v => some ⟨v, [], []⟩ := id rfl
@[simp, go_sem] theorem s581 : effB P s d .max ats vs = bnd (valB P s .max ats vs) fun v => some ⟨v, [], []⟩ := id rfl
@[simp, go_sem] theorem s582 : effB P s d .min ats vs = bnd (valB P s .min ats vs) fun v => some ⟨v, [], []⟩ := id rfl
@[simp, go_sem] theorem s583 (u : ByteArray) : valB P s .len ats [.v (.string u)] = bnd ats[0]? fun t => grd (strT P t = true) (some (.v (.int .i64 u.size))) := id rfl
@[simp, go_sem] theorem s584 : valB P s .len ats [.nil] = bnd ats[0]? fun t => grd (lstT P t = true) (bnd (s.rows (.nil)) fun rows => some (.v (.int .i64 rows.length))) := id rfl
@[simp, go_sem] theorem s585 : flatRows s (.nil) = bnd (s.rows (.nil)) fun rows => grd (rowsFlat rows = true) (some rows) := id rfl
@[simp, go_sem] theorem s586 (w : Option Nat) : valB P s .len ats [.lst w rows] = bnd ats[0]? fun t => grd (lstT P t = true) (bnd (s.rows (.lst w rows)) fun rows => some (.v (.int .i64 rows.length))) := id rfl
@[simp, go_sem] theorem s587 (w : Option Nat) : flatRows s (.lst w rows) = bnd (s.rows (.lst w rows)) fun rows => grd (rowsFlat rows = true) (some rows) := id rfl
@[simp, go_sem] theorem s588 : valB P s .len ats [.fz rows] = bnd ats[0]? fun t => grd (lstT P t = true) (bnd (s.rows (.fz rows)) fun rows => some (.v (.int .i64 rows.length))) := id rfl
@[simp, go_sem] theorem s589 : flatRows s (.fz rows) = bnd (s.rows (.fz rows)) fun rows => grd (rowsFlat rows = true) (some rows) := id rfl
@[simp, go_sem] theorem s590 : valB P s .len ats [.own p] = bnd ats[0]? fun t => grd (lstT P t = true) (bnd (s.rows (.own p)) fun rows => some (.v (.int .i64 rows.length))) := id rfl
@[simp, go_sem] theorem s591 : flatRows s (.own p) = bnd (s.rows (.own p)) fun rows => grd (rowsFlat rows = true) (some rows) := id rfl
@[simp, go_sem] theorem s592 : valB P s .len ats [.inn p n m q] = bnd ats[0]? fun t => grd (lstT P t = true) (bnd (s.rows (.inn p n m q)) fun rows => some (.v (.int .i64 rows.length))) := id rfl
@[simp, go_sem] theorem s593 : flatRows s (.inn p n m q) = bnd (s.rows (.inn p n m q)) fun rows => grd (rowsFlat rows = true) (some rows) := id rfl
@[simp, go_sem] theorem s594 (u : ByteArray) : flatRows s (.v (.string u)) = some (u.toList.map fun c => [.a (.int .u8 (c.toNat : Int))]) := id rfl
@[simp, go_sem] theorem s595 (a c : Int) : valB P s .max ats [.v (.int .i64 a), .v (.int .i64 c)] = some (.v (.int .i64 (max a c))) := id rfl
@[simp, go_sem] theorem s596 (a c : Int) : valB P s .min ats [.v (.int .i64 a), .v (.int .i64 c)] = some (.v (.int .i64 (min a c))) := id rfl
@[simp, go_sem] theorem s597 : effNew P s d n rows .nil = grd (sizeOk P n rows.length = true ∧ wid (P.cellsOf n) rows = true) (some ⟨.own d, [(d, rows)], []⟩) := id rfl
@[simp, go_sem] theorem s598 : effNew P s d n rows (.own p) = bnd (look p s.tree) fun rs => grd (rs.isEmpty = true ∧ sizeOk P n rows.length = true ∧ wid (P.cellsOf n) rows = true) (some ⟨.own d, [(d, rows)], []⟩) := id rfl
@[simp, go_sem] theorem s599 (M : Mean) : effCall M s d vs = bnd (lendL s ⟨[], [], []⟩ vs) fun x => grd ((x.2.box.isEmpty && x.2.tree.isEmpty) = true) (bnd (M x.1 [] []) fun r => grd (r.box.isEmpty = true) (bnd (backV x.2 d r.val) fun v => some ⟨v, effTrees d r.tree, []⟩)) := id rfl
@[simp, go_sem] theorem s600 : effTrees n [] = [] := id rfl
@[simp, go_sem] theorem s601 (r : List (Nat × List (List D))) : effTrees n ((q, rows) :: r) = (1000 * (n + 1) + q, rows) :: effTrees n r := id rfl
@[simp, go_sem] theorem s602 : freshAll s [] = true := id rfl
@[simp, go_sem] theorem s603 (r : List (Nat × List (List D))) (e : List (Nat × V)) (b : List (Nat × List V)) (t f : List (Nat × List (List D))) : freshAll ⟨e, b, t, f⟩ ((q, rows) :: r) = (fresh ⟨e, b, t, f⟩ q && decide (q < 1000000000) && freshAll ⟨e, b, (q, rows) :: t, f⟩ r) := id rfl
@[simp, go_sem] theorem s604 : freshBox s [] = true := id rfl
@[simp, go_sem] theorem s605 (r : List (Nat × List V)) (e : List (Nat × V)) (b : List (Nat × List V)) (t f : List (Nat × List (List D))) : freshBox ⟨e, b, t, f⟩ ((q, vs) :: r) = ((look q b).isNone && freshBox ⟨e, (q, vs) :: b, t, f⟩ r) := id rfl
@[simp, go_sem] theorem s606 (tt : List (Nat × List (List D))) (bb : List (Nat × List V)) (e : List (Nat × V)) (b : List (Nat × List V)) (t f : List (Nat × List (List D))) : S.app ⟨e, b, t, f⟩ (some d) ⟨x, tt, bb⟩ = ⟨put d x e, bb ++ b, tt.reverse ++ t, f⟩ := id rfl
@[simp, go_sem] theorem s607 (w : Option Nat) : barEff P G s w (.store n o o1) = bnd (s.ev o) fun p => bnd (s.ev o1) fun v => grd (sizedT P n = true ∧ v.cells.length = P.cellsOf n ∧ w.isNone = true) (storeRef s v p) := id rfl
@[simp, go_sem] theorem s608 (w : Option Nat) (c : Call) : barEff P G s w (.call c) = bnd (mapSome s.ev c.args.toList) fun args => barCallee G s (w.getD 0) args c.callee := id rfl
@[simp, go_sem] theorem s609 : barCallee G s d vs (.value o) = bnd (s.ev o) fun f => bnd (fnOf f) fun f => bnd (look f.1 G) fun M => grd (M.1 = false) (callB M.2 s d (vs ++ f.2)) := id rfl
@[simp, go_sem] theorem s610 : storeRef s x (.ref n m) = bnd (look n s.box) fun cs => grd (m + x.cells.length ≤ cs.length ∧ x.cells.all V.one = true) (some ⟨.tup [], upd n (setAt cs m x.cells) s.box, s.tree⟩) := id rfl
@[simp, go_sem] theorem s611 (M : Mean) : callB M s d vs = bnd (lendL s ⟨[], [], []⟩ vs) fun x => bnd (lendBoxes s x.2 x.2.box) fun y => grd ((y.2.tree.isEmpty && lendOk y.2 y.1.length) = true) (bnd (M x.1 y.1 []) fun r => bnd (backBoxes y.2 d y.2.box r.box s) fun s => bnd (addTrees y.2 d r.tree s) fun s => bnd (backV y.2 d r.val) fun v => some ⟨v, s.box, s.tree⟩) := id rfl
@[simp, go_sem] theorem s612 (tt : List (Nat × List (List D))) (bb : List (Nat × List V)) (e : List (Nat × V)) (b : List (Nat × List V)) (t f : List (Nat × List (List D))) : S.barred ⟨e, b, t, f⟩ none ⟨x, bb, tt⟩ = ⟨e, bb, tt, f⟩ := id rfl
@[simp, go_sem] theorem s613 (tt : List (Nat × List (List D))) (bb : List (Nat × List V)) (e : List (Nat × V)) (b : List (Nat × List V)) (t f : List (Nat × List (List D))) : S.barred ⟨e, b, t, f⟩ (some d) ⟨x, bb, tt⟩ = ⟨put d x e, bb, tt, f⟩ := id rfl
@[simp, go_sem] theorem s614 (os : Array Oper) : sameVals P os s [] = some () := id rfl
@[simp, go_sem] theorem s615 (os : Array Oper) (l : List Nat) : sameVals P os s (n :: l) = bnd os[n]? fun o => bnd o.dst fun d => bnd (look d s.env) fun v => bnd (valOp P s o.op) fun u => grdEq u v (sameVals P os s l) := id rfl
@[simp, go_sem] theorem s616 : valOp P s (.move o) = s.ev o := id rfl
@[simp, go_sem] theorem s617 : valOp P s (.assign o) = s.ev o := id rfl
@[simp, go_sem] theorem s618 : valOp P s (.load n o) = bnd (s.ev o) fun p => s.load P n p := id rfl
@[simp, go_sem] theorem s619 : valOp P s (.nilCheck o) = bnd (s.ev o) fun v => nilOk v := id rfl
@[simp, go_sem] theorem s620 : valOp P s (.fieldAddr n o m) = bnd (s.ev o) fun x => bnd (fieldOf P n m) fun f => addOff x f.1 := id rfl
@[simp, go_sem] theorem s621 : valOp P s (.extract o n) = bnd (s.ev o) fun x => tupAt n x := id rfl
@[simp, go_sem] theorem s622 (z : BinOp) : valOp P s (.binOp z n o o1 m) = bnd (s.ev o) fun x => bnd (s.ev o1) fun y => bin P n z x y := id rfl
@[simp, go_sem] theorem s623 (z : UnOp) : valOp P s (.unOp z n o) = bnd (s.ev o) fun x => un z x := id rfl
@[simp, go_sem] theorem s624 : valOp P s (.field n o m) = bnd (s.ev o) fun x => bnd (aggOf x) fun cs => bnd (fieldOf P n m) fun f => bnd (aggT P f.2) fun g => span cs f.1 (P.cellsOf f.2) g := id rfl
@[simp, go_sem] theorem s625 : valOp P s (.indexAddr n o o1) = bnd (s.ev o) fun x => bnd (s.ev o1) fun i => bnd (idxOf i) fun i => bnd (elemOfT P n) fun e => indexAddrV P s x i e.1 e.2 := id rfl
@[simp, go_sem] theorem s626 : valOp P s (.index n o o1) = bnd (s.ev o) fun x => bnd (s.ev o1) fun i => bnd (idxOf i) fun i => indexV P n x i := id rfl
end
end Go.Proofs.Ytacnbajcignacaa
namespace Go.Proofs.Ytacnbajcignacaa
open Go.RowKit
@[simp, go_sem] theorem ts3 : sizedT Try.prog 3 = true := eqOf (by kernel_rfl)
@[simp, go_sem] theorem to3 : zeroOk Try.prog 3 = true := eqOf (by kernel_rfl)
@[simp, go_sem] theorem tc3 : Try.prog.cellsOf 3 = 1 := eqOf (by kernel_rfl)
@[simp, go_sem] theorem tb3 : Try.prog.bytesOf 3 = 8 := eqOf (by kernel_rfl)
@[simp, go_sem] theorem ta3 : aggT Try.prog 3 = some false := eqOf (by kernel_rfl)
@[simp, go_sem] theorem tz3 : zeroV Try.prog 3 = some [.v (.int .i64 0)] := eqOf (by kernel_rfl)
@[simp, go_sem] theorem ts4 : sizedT Try.prog 4 = true := eqOf (by kernel_rfl)
@[simp, go_sem] theorem to4 : zeroOk Try.prog 4 = true := eqOf (by kernel_rfl)
@[simp, go_sem] theorem tc4 : Try.prog.cellsOf 4 = 1 := eqOf (by kernel_rfl)
@[simp, go_sem] theorem tb4 : Try.prog.bytesOf 4 = 1 := eqOf (by kernel_rfl)
@[simp, go_sem] theorem ta4 : aggT Try.prog 4 = some false := eqOf (by kernel_rfl)
@[simp, go_sem] theorem tz4 : zeroV Try.prog 4 = some [.v (.bool false)] := eqOf (by kernel_rfl)
@[simp, go_sem] theorem ts5 : sizedT Try.prog 5 = true := eqOf (by kernel_rfl)
@[simp, go_sem] theorem to5 : zeroOk Try.prog 5 = true := eqOf (by kernel_rfl)
@[simp, go_sem] theorem tc5 : Try.prog.cellsOf 5 = 1 := eqOf (by kernel_rfl)
@[simp, go_sem] theorem tb5 : Try.prog.bytesOf 5 = 1 := eqOf (by kernel_rfl)
@[simp, go_sem] theorem ta5 : aggT Try.prog 5 = some false := eqOf (by kernel_rfl)
@[simp, go_sem] theorem tz5 : zeroV Try.prog 5 = some [.v (.int .u8 0)] := eqOf (by kernel_rfl)
@[simp, go_sem] theorem ts9 : sizedT Try.prog 9 = true := eqOf (by kernel_rfl)
@[simp, go_sem] theorem to9 : zeroOk Try.prog 9 = true := eqOf (by kernel_rfl)
@[simp, go_sem] theorem tc9 : Try.prog.cellsOf 9 = 1 := eqOf (by kernel_rfl)
@[simp, go_sem] theorem tb9 : Try.prog.bytesOf 9 = 16 := eqOf (by kernel_rfl)
@[simp, go_sem] theorem ta9 : aggT Try.prog 9 = some false := eqOf (by kernel_rfl)
@[simp, go_sem] theorem tz9 : zeroV Try.prog 9 = some [.v (.string ⟨#[]⟩)] := eqOf (by kernel_rfl)
@[simp, go_sem] theorem tw9 : seqT Try.prog 9 = true := eqOf (by kernel_rfl)
@[simp, go_sem] theorem tx9 : strT Try.prog 9 = true := eqOf (by kernel_rfl)
@[simp, go_sem] theorem ts21 : sizedT Try.prog 21 = true := eqOf (by kernel_rfl)
@[simp, go_sem] theorem to21 : zeroOk Try.prog 21 = true := eqOf (by kernel_rfl)
@[simp, go_sem] theorem tc21 : Try.prog.cellsOf 21 = 1 := eqOf (by kernel_rfl)
@[simp, go_sem] theorem tb21 : Try.prog.bytesOf 21 = 4 := eqOf (by kernel_rfl)
@[simp, go_sem] theorem ta21 : aggT Try.prog 21 = some false := eqOf (by kernel_rfl)
@[simp, go_sem] theorem tz21 : zeroV Try.prog 21 = some [.v (.int .i32 0)] := eqOf (by kernel_rfl)
@[simp, go_sem] theorem ts22 : sizedT Try.prog 22 = true := eqOf (by kernel_rfl)
@[simp, go_sem] theorem to22 : zeroOk Try.prog 22 = true := eqOf (by kernel_rfl)
@[simp, go_sem] theorem tc22 : Try.prog.cellsOf 22 = 1 := eqOf (by kernel_rfl)
@[simp, go_sem] theorem tb22 : Try.prog.bytesOf 22 = 24 := eqOf (by kernel_rfl)
@[simp, go_sem] theorem ta22 : aggT Try.prog 22 = some false := eqOf (by kernel_rfl)
@[simp, go_sem] theorem tz22 : zeroV Try.prog 22 = some [.nil] := eqOf (by kernel_rfl)
@[simp, go_sem] theorem te22 : elemOfT Try.prog 22 = some (5, none) := eqOf (by kernel_rfl)
@[simp, go_sem] theorem tw22 : seqT Try.prog 22 = true := eqOf (by kernel_rfl)
@[simp, go_sem] theorem tx22 : lstT Try.prog 22 = true := eqOf (by kernel_rfl)
@[simp, go_sem] theorem ts23 : sizedT Try.prog 23 = true := eqOf (by kernel_rfl)
@[simp, go_sem] theorem to23 : zeroOk Try.prog 23 = true := eqOf (by kernel_rfl)
@[simp, go_sem] theorem tc23 : Try.prog.cellsOf 23 = 1 := eqOf (by kernel_rfl)
@[simp, go_sem] theorem tb23 : Try.prog.bytesOf 23 = 24 := eqOf (by kernel_rfl)
@[simp, go_sem] theorem ta23 : aggT Try.prog 23 = some false := eqOf (by kernel_rfl)
@[simp, go_sem] theorem tz23 : zeroV Try.prog 23 = some [.nil] := eqOf (by kernel_rfl)
@[simp, go_sem] theorem te23 : elemOfT Try.prog 23 = some (3, none) := eqOf (by kernel_rfl)
@[simp, go_sem] theorem tw23 : seqT Try.prog 23 = true := eqOf (by kernel_rfl)
@[simp, go_sem] theorem tx23 : lstT Try.prog 23 = true := eqOf (by kernel_rfl)
@[simp, go_sem] theorem ts25 : sizedT Try.prog 25 = true := eqOf (by kernel_rfl)
@[simp, go_sem] theorem to25 : zeroOk Try.prog 25 = true := eqOf (by kernel_rfl)
@[simp, go_sem] theorem tc25 : Try.prog.cellsOf 25 = 2 := eqOf (by kernel_rfl)
@[simp, go_sem] theorem tb25 : Try.prog.bytesOf 25 = 32 := eqOf (by kernel_rfl)
@[simp, go_sem] theorem ta25 : aggT Try.prog 25 = some true := eqOf (by kernel_rfl)
@[simp, go_sem] theorem tz25 : zeroV Try.prog 25 = some [.nil, .v (.int .i64 0)] := eqOf (by kernel_rfl)
@[simp, go_sem] theorem tr25 : fieldsOk Try.prog 25 = true := eqOf (by kernel_rfl)
@[simp, go_sem] theorem tf25_0 : fieldOf Try.prog 25 0 = some (0, 23) := eqOf (by kernel_rfl)
@[simp, go_sem] theorem tf25_1 : fieldOf Try.prog 25 1 = some (1, 3) := eqOf (by kernel_rfl)
@[simp, go_sem] theorem ts26 : sizedT Try.prog 26 = true := eqOf (by kernel_rfl)
@[simp, go_sem] theorem to26 : zeroOk Try.prog 26 = true := eqOf (by kernel_rfl)
@[simp, go_sem] theorem tc26 : Try.prog.cellsOf 26 = 1 := eqOf (by kernel_rfl)
@[simp, go_sem] theorem tb26 : Try.prog.bytesOf 26 = 24 := eqOf (by kernel_rfl)
@[simp, go_sem] theorem ta26 : aggT Try.prog 26 = some false := eqOf (by kernel_rfl)
@[simp, go_sem] theorem tz26 : zeroV Try.prog 26 = some [.nil] := eqOf (by kernel_rfl)
@[simp, go_sem] theorem te26 : elemOfT Try.prog 26 = some (188, none) := eqOf (by kernel_rfl)
@[simp, go_sem] theorem tw26 : seqT Try.prog 26 = true := eqOf (by kernel_rfl)
@[simp, go_sem] theorem tx26 : lstT Try.prog 26 = true := eqOf (by kernel_rfl)
@[simp, go_sem] theorem ts28 : sizedT Try.prog 28 = true := eqOf (by kernel_rfl)
@[simp, go_sem] theorem to28 : zeroOk Try.prog 28 = true := eqOf (by kernel_rfl)
@[simp, go_sem] theorem tc28 : Try.prog.cellsOf 28 = 1 := eqOf (by kernel_rfl)
@[simp, go_sem] theorem tb28 : Try.prog.bytesOf 28 = 24 := eqOf (by kernel_rfl)
@[simp, go_sem] theorem ta28 : aggT Try.prog 28 = some true := eqOf (by kernel_rfl)
@[simp, go_sem] theorem tz28 : zeroV Try.prog 28 = some [.nil] := eqOf (by kernel_rfl)
@[simp, go_sem] theorem tr28 : fieldsOk Try.prog 28 = true := eqOf (by kernel_rfl)
@[simp, go_sem] theorem tf28_0 : fieldOf Try.prog 28 0 = some (0, 26) := eqOf (by kernel_rfl)
@[simp, go_sem] theorem ts29 : sizedT Try.prog 29 = true := eqOf (by kernel_rfl)
@[simp, go_sem] theorem to29 : zeroOk Try.prog 29 = true := eqOf (by kernel_rfl)
@[simp, go_sem] theorem tc29 : Try.prog.cellsOf 29 = 1 := eqOf (by kernel_rfl)
@[simp, go_sem] theorem tb29 : Try.prog.bytesOf 29 = 24 := eqOf (by kernel_rfl)
@[simp, go_sem] theorem ta29 : aggT Try.prog 29 = some false := eqOf (by kernel_rfl)
@[simp, go_sem] theorem tz29 : zeroV Try.prog 29 = some [.nil] := eqOf (by kernel_rfl)
@[simp, go_sem] theorem te29 : elemOfT Try.prog 29 = some (25, none) := eqOf (by kernel_rfl)
@[simp, go_sem] theorem tw29 : seqT Try.prog 29 = true := eqOf (by kernel_rfl)
@[simp, go_sem] theorem tx29 : lstT Try.prog 29 = true := eqOf (by kernel_rfl)
@[simp, go_sem] theorem ts31 : sizedT Try.prog 31 = true := eqOf (by kernel_rfl)
@[simp, go_sem] theorem to31 : zeroOk Try.prog 31 = true := eqOf (by kernel_rfl)
@[simp, go_sem] theorem tc31 : Try.prog.cellsOf 31 = 1 := eqOf (by kernel_rfl)
@[simp, go_sem] theorem tb31 : Try.prog.bytesOf 31 = 24 := eqOf (by kernel_rfl)
@[simp, go_sem] theorem ta31 : aggT Try.prog 31 = some true := eqOf (by kernel_rfl)
@[simp, go_sem] theorem tz31 : zeroV Try.prog 31 = some [.nil] := eqOf (by kernel_rfl)
@[simp, go_sem] theorem tr31 : fieldsOk Try.prog 31 = true := eqOf (by kernel_rfl)
@[simp, go_sem] theorem tf31_0 : fieldOf Try.prog 31 0 = some (0, 29) := eqOf (by kernel_rfl)
@[simp, go_sem] theorem ts33 : sizedT Try.prog 33 = true := eqOf (by kernel_rfl)
@[simp, go_sem] theorem to33 : zeroOk Try.prog 33 = true := eqOf (by kernel_rfl)
@[simp, go_sem] theorem tc33 : Try.prog.cellsOf 33 = 20 := eqOf (by kernel_rfl)
@[simp, go_sem] theorem tb33 : Try.prog.bytesOf 33 = 256 := eqOf (by kernel_rfl)
@[simp, go_sem] theorem ta33 : aggT Try.prog 33 = some true := eqOf (by kernel_rfl)
@[simp, go_sem] theorem tz33 : zeroV Try.prog 33 = some [.v (.bool false), .v (.int .i64 0), .nil, .v (.int .i64 0), .v (.int .i64 0), .v (.int .i64 0), .v (.int .i64 0), .v (.int .i64 0), .v (.int .i64 0), .v (.int .i64 0), .v (.int .i64 0), .nil, .nil, .v (.int .i64 0), .nil, .v (.int .i64 0), .nil, .v (.int .i64 0), .nil, .v (.int .i64 0)] := eqOf (by kernel_rfl)
@[simp, go_sem] theorem tr33 : fieldsOk Try.prog 33 = true := eqOf (by kernel_rfl)
@[simp, go_sem] theorem tf33_0 : fieldOf Try.prog 33 0 = some (0, 4) := eqOf (by kernel_rfl)
@[simp, go_sem] theorem tf33_1 : fieldOf Try.prog 33 1 = some (1, 3) := eqOf (by kernel_rfl)
@[simp, go_sem] theorem tf33_2 : fieldOf Try.prog 33 2 = some (2, 25) := eqOf (by kernel_rfl)
@[simp, go_sem] theorem tf33_3 : fieldOf Try.prog 33 3 = some (4, 3) := eqOf (by kernel_rfl)
@[simp, go_sem] theorem tf33_4 : fieldOf Try.prog 33 4 = some (5, 3) := eqOf (by kernel_rfl)
@[simp, go_sem] theorem tf33_5 : fieldOf Try.prog 33 5 = some (6, 3) := eqOf (by kernel_rfl)
@[simp, go_sem] theorem tf33_6 : fieldOf Try.prog 33 6 = some (7, 3) := eqOf (by kernel_rfl)
@[simp, go_sem] theorem tf33_7 : fieldOf Try.prog 33 7 = some (8, 3) := eqOf (by kernel_rfl)
@[simp, go_sem] theorem tf33_8 : fieldOf Try.prog 33 8 = some (9, 3) := eqOf (by kernel_rfl)
@[simp, go_sem] theorem tf33_9 : fieldOf Try.prog 33 9 = some (10, 3) := eqOf (by kernel_rfl)
@[simp, go_sem] theorem tf33_10 : fieldOf Try.prog 33 10 = some (11, 28) := eqOf (by kernel_rfl)
@[simp, go_sem] theorem tf33_11 : fieldOf Try.prog 33 11 = some (12, 31) := eqOf (by kernel_rfl)
@[simp, go_sem] theorem tf33_12 : fieldOf Try.prog 33 12 = some (13, 3) := eqOf (by kernel_rfl)
@[simp, go_sem] theorem tf33_13 : fieldOf Try.prog 33 13 = some (14, 25) := eqOf (by kernel_rfl)
@[simp, go_sem] theorem tf33_14 : fieldOf Try.prog 33 14 = some (16, 23) := eqOf (by kernel_rfl)
@[simp, go_sem] theorem tf33_15 : fieldOf Try.prog 33 15 = some (17, 3) := eqOf (by kernel_rfl)
@[simp, go_sem] theorem tf33_16 : fieldOf Try.prog 33 16 = some (18, 25) := eqOf (by kernel_rfl)
@[simp, go_sem] theorem ts37 : sizedT Try.prog 37 = true := eqOf (by kernel_rfl)
@[simp, go_sem] theorem to37 : zeroOk Try.prog 37 = true := eqOf (by kernel_rfl)
@[simp, go_sem] theorem tc37 : Try.prog.cellsOf 37 = 6 := eqOf (by kernel_rfl)
@[simp, go_sem] theorem tb37 : Try.prog.bytesOf 37 = 64 := eqOf (by kernel_rfl)
@[simp, go_sem] theorem ta37 : aggT Try.prog 37 = some true := eqOf (by kernel_rfl)
@[simp, go_sem] theorem tz37 : zeroV Try.prog 37 = some [.v (.int .i64 0), .v (.int .i64 0), .nil, .v (.int .i64 0), .v (.int .i64 0), .v (.bool false)] := eqOf (by kernel_rfl)
@[simp, go_sem] theorem tr37 : fieldsOk Try.prog 37 = true := eqOf (by kernel_rfl)
@[simp, go_sem] theorem tf37_0 : fieldOf Try.prog 37 0 = some (0, 3) := eqOf (by kernel_rfl)
@[simp, go_sem] theorem tf37_1 : fieldOf Try.prog 37 1 = some (1, 3) := eqOf (by kernel_rfl)
@[simp, go_sem] theorem tf37_2 : fieldOf Try.prog 37 2 = some (2, 23) := eqOf (by kernel_rfl)
@[simp, go_sem] theorem tf37_3 : fieldOf Try.prog 37 3 = some (3, 3) := eqOf (by kernel_rfl)
@[simp, go_sem] theorem tf37_4 : fieldOf Try.prog 37 4 = some (4, 3) := eqOf (by kernel_rfl)
@[simp, go_sem] theorem tf37_5 : fieldOf Try.prog 37 5 = some (5, 4) := eqOf (by kernel_rfl)
@[simp, go_sem] theorem ts43 : sizedT Try.prog 43 = true := eqOf (by kernel_rfl)
@[simp, go_sem] theorem to43 : zeroOk Try.prog 43 = true := eqOf (by kernel_rfl)
@[simp, go_sem] theorem tc43 : Try.prog.cellsOf 43 = 2 := eqOf (by kernel_rfl)
@[simp, go_sem] theorem tb43 : Try.prog.bytesOf 43 = 32 := eqOf (by kernel_rfl)
@[simp, go_sem] theorem ta43 : aggT Try.prog 43 = some true := eqOf (by kernel_rfl)
@[simp, go_sem] theorem tz43 : zeroV Try.prog 43 = some [.nil, .v (.int .i64 0)] := eqOf (by kernel_rfl)
@[simp, go_sem] theorem tr43 : fieldsOk Try.prog 43 = true := eqOf (by kernel_rfl)
@[simp, go_sem] theorem tf43_0 : fieldOf Try.prog 43 0 = some (0, 23) := eqOf (by kernel_rfl)
@[simp, go_sem] theorem tf43_1 : fieldOf Try.prog 43 1 = some (1, 3) := eqOf (by kernel_rfl)
@[simp, go_sem] theorem ts44 : sizedT Try.prog 44 = true := eqOf (by kernel_rfl)
@[simp, go_sem] theorem to44 : zeroOk Try.prog 44 = true := eqOf (by kernel_rfl)
@[simp, go_sem] theorem tc44 : Try.prog.cellsOf 44 = 1 := eqOf (by kernel_rfl)
@[simp, go_sem] theorem tb44 : Try.prog.bytesOf 44 = 24 := eqOf (by kernel_rfl)
@[simp, go_sem] theorem ta44 : aggT Try.prog 44 = some false := eqOf (by kernel_rfl)
@[simp, go_sem] theorem tz44 : zeroV Try.prog 44 = some [.nil] := eqOf (by kernel_rfl)
@[simp, go_sem] theorem te44 : elemOfT Try.prog 44 = some (192, none) := eqOf (by kernel_rfl)
@[simp, go_sem] theorem tw44 : seqT Try.prog 44 = true := eqOf (by kernel_rfl)
@[simp, go_sem] theorem tx44 : lstT Try.prog 44 = true := eqOf (by kernel_rfl)
@[simp, go_sem] theorem ts46 : sizedT Try.prog 46 = true := eqOf (by kernel_rfl)
@[simp, go_sem] theorem to46 : zeroOk Try.prog 46 = true := eqOf (by kernel_rfl)
@[simp, go_sem] theorem tc46 : Try.prog.cellsOf 46 = 1 := eqOf (by kernel_rfl)
@[simp, go_sem] theorem tb46 : Try.prog.bytesOf 46 = 24 := eqOf (by kernel_rfl)
@[simp, go_sem] theorem ta46 : aggT Try.prog 46 = some true := eqOf (by kernel_rfl)
@[simp, go_sem] theorem tz46 : zeroV Try.prog 46 = some [.nil] := eqOf (by kernel_rfl)
@[simp, go_sem] theorem tr46 : fieldsOk Try.prog 46 = true := eqOf (by kernel_rfl)
@[simp, go_sem] theorem tf46_0 : fieldOf Try.prog 46 0 = some (0, 44) := eqOf (by kernel_rfl)
@[simp, go_sem] theorem ts47 : sizedT Try.prog 47 = true := eqOf (by kernel_rfl)
@[simp, go_sem] theorem to47 : zeroOk Try.prog 47 = true := eqOf (by kernel_rfl)
@[simp, go_sem] theorem tc47 : Try.prog.cellsOf 47 = 1 := eqOf (by kernel_rfl)
@[simp, go_sem] theorem tb47 : Try.prog.bytesOf 47 = 24 := eqOf (by kernel_rfl)
@[simp, go_sem] theorem ta47 : aggT Try.prog 47 = some false := eqOf (by kernel_rfl)
@[simp, go_sem] theorem tz47 : zeroV Try.prog 47 = some [.nil] := eqOf (by kernel_rfl)
@[simp, go_sem] theorem te47 : elemOfT Try.prog 47 = some (43, none) := eqOf (by kernel_rfl)
@[simp, go_sem] theorem tw47 : seqT Try.prog 47 = true := eqOf (by kernel_rfl)
@[simp, go_sem] theorem tx47 : lstT Try.prog 47 = true := eqOf (by kernel_rfl)
@[simp, go_sem] theorem ts49 : sizedT Try.prog 49 = true := eqOf (by kernel_rfl)
@[simp, go_sem] theorem to49 : zeroOk Try.prog 49 = true := eqOf (by kernel_rfl)
@[simp, go_sem] theorem tc49 : Try.prog.cellsOf 49 = 1 := eqOf (by kernel_rfl)
@[simp, go_sem] theorem tb49 : Try.prog.bytesOf 49 = 24 := eqOf (by kernel_rfl)
@[simp, go_sem] theorem ta49 : aggT Try.prog 49 = some true := eqOf (by kernel_rfl)
@[simp, go_sem] theorem tz49 : zeroV Try.prog 49 = some [.nil] := eqOf (by kernel_rfl)
@[simp, go_sem] theorem tr49 : fieldsOk Try.prog 49 = true := eqOf (by kernel_rfl)
@[simp, go_sem] theorem tf49_0 : fieldOf Try.prog 49 0 = some (0, 47) := eqOf (by kernel_rfl)
@[simp, go_sem] theorem ts51 : sizedT Try.prog 51 = true := eqOf (by kernel_rfl)
@[simp, go_sem] theorem to51 : zeroOk Try.prog 51 = true := eqOf (by kernel_rfl)
@[simp, go_sem] theorem tc51 : Try.prog.cellsOf 51 = 20 := eqOf (by kernel_rfl)
@[simp, go_sem] theorem tb51 : Try.prog.bytesOf 51 = 256 := eqOf (by kernel_rfl)
@[simp, go_sem] theorem ta51 : aggT Try.prog 51 = some true := eqOf (by kernel_rfl)
@[simp, go_sem] theorem tz51 : zeroV Try.prog 51 = some [.v (.bool false), .v (.int .i64 0), .nil, .v (.int .i64 0), .v (.int .i64 0), .v (.int .i64 0), .v (.int .i64 0), .v (.int .i64 0), .v (.int .i64 0), .v (.int .i64 0), .v (.int .i64 0), .nil, .nil, .v (.int .i64 0), .nil, .v (.int .i64 0), .nil, .v (.int .i64 0), .nil, .v (.int .i64 0)] := eqOf (by kernel_rfl)
@[simp, go_sem] theorem tr51 : fieldsOk Try.prog 51 = true := eqOf (by kernel_rfl)
@[simp, go_sem] theorem tf51_0 : fieldOf Try.prog 51 0 = some (0, 4) := eqOf (by kernel_rfl)
@[simp, go_sem] theorem tf51_1 : fieldOf Try.prog 51 1 = some (1, 3) := eqOf (by kernel_rfl)
@[simp, go_sem] theorem tf51_2 : fieldOf Try.prog 51 2 = some (2, 43) := eqOf (by kernel_rfl)
@[simp, go_sem] theorem tf51_3 : fieldOf Try.prog 51 3 = some (4, 3) := eqOf (by kernel_rfl)
@[simp, go_sem] theorem tf51_4 : fieldOf Try.prog 51 4 = some (5, 3) := eqOf (by kernel_rfl)
@[simp, go_sem] theorem tf51_5 : fieldOf Try.prog 51 5 = some (6, 3) := eqOf (by kernel_rfl)
@[simp, go_sem] theorem tf51_6 : fieldOf Try.prog 51 6 = some (7, 3) := eqOf (by kernel_rfl)
@[simp, go_sem] theorem tf51_7 : fieldOf Try.prog 51 7 = some (8, 3) := eqOf (by kernel_rfl)
@[simp, go_sem] theorem tf51_8 : fieldOf Try.prog 51 8 = some (9, 3) := eqOf (by kernel_rfl)
@[simp, go_sem] theorem tf51_9 : fieldOf Try.prog 51 9 = some (10, 3) := eqOf (by kernel_rfl)
@[simp, go_sem] theorem tf51_10 : fieldOf Try.prog 51 10 = some (11, 46) := eqOf (by kernel_rfl)
@[simp, go_sem] theorem tf51_11 : fieldOf Try.prog 51 11 = some (12, 49) := eqOf (by kernel_rfl)
@[simp, go_sem] theorem tf51_12 : fieldOf Try.prog 51 12 = some (13, 3) := eqOf (by kernel_rfl)
@[simp, go_sem] theorem tf51_13 : fieldOf Try.prog 51 13 = some (14, 43) := eqOf (by kernel_rfl)
@[simp, go_sem] theorem tf51_14 : fieldOf Try.prog 51 14 = some (16, 23) := eqOf (by kernel_rfl)
@[simp, go_sem] theorem tf51_15 : fieldOf Try.prog 51 15 = some (17, 3) := eqOf (by kernel_rfl)
@[simp, go_sem] theorem tf51_16 : fieldOf Try.prog 51 16 = some (18, 43) := eqOf (by kernel_rfl)
@[simp, go_sem] theorem ts59 : sizedT Try.prog 59 = true := eqOf (by kernel_rfl)
@[simp, go_sem] theorem to59 : zeroOk Try.prog 59 = true := eqOf (by kernel_rfl)
@[simp, go_sem] theorem tc59 : Try.prog.cellsOf 59 = 1 := eqOf (by kernel_rfl)
@[simp, go_sem] theorem tb59 : Try.prog.bytesOf 59 = 24 := eqOf (by kernel_rfl)
@[simp, go_sem] theorem ta59 : aggT Try.prog 59 = some false := eqOf (by kernel_rfl)
@[simp, go_sem] theorem tz59 : zeroV Try.prog 59 = some [.nil] := eqOf (by kernel_rfl)
@[simp, go_sem] theorem te59 : elemOfT Try.prog 59 = some (202, none) := eqOf (by kernel_rfl)
@[simp, go_sem] theorem tw59 : seqT Try.prog 59 = true := eqOf (by kernel_rfl)
@[simp, go_sem] theorem tx59 : lstT Try.prog 59 = true := eqOf (by kernel_rfl)
@[simp, go_sem] theorem ts60 : sizedT Try.prog 60 = true := eqOf (by kernel_rfl)
@[simp, go_sem] theorem to60 : zeroOk Try.prog 60 = true := eqOf (by kernel_rfl)
@[simp, go_sem] theorem tc60 : Try.prog.cellsOf 60 = 1 := eqOf (by kernel_rfl)
@[simp, go_sem] theorem tb60 : Try.prog.bytesOf 60 = 24 := eqOf (by kernel_rfl)
@[simp, go_sem] theorem ta60 : aggT Try.prog 60 = some false := eqOf (by kernel_rfl)
@[simp, go_sem] theorem tz60 : zeroV Try.prog 60 = some [.nil] := eqOf (by kernel_rfl)
@[simp, go_sem] theorem te60 : elemOfT Try.prog 60 = some (205, none) := eqOf (by kernel_rfl)
@[simp, go_sem] theorem tw60 : seqT Try.prog 60 = true := eqOf (by kernel_rfl)
@[simp, go_sem] theorem tx60 : lstT Try.prog 60 = true := eqOf (by kernel_rfl)
@[simp, go_sem] theorem ts61 : sizedT Try.prog 61 = true := eqOf (by kernel_rfl)
@[simp, go_sem] theorem to61 : zeroOk Try.prog 61 = true := eqOf (by kernel_rfl)
@[simp, go_sem] theorem tc61 : Try.prog.cellsOf 61 = 1 := eqOf (by kernel_rfl)
@[simp, go_sem] theorem tb61 : Try.prog.bytesOf 61 = 24 := eqOf (by kernel_rfl)
@[simp, go_sem] theorem ta61 : aggT Try.prog 61 = some false := eqOf (by kernel_rfl)
@[simp, go_sem] theorem tz61 : zeroV Try.prog 61 = some [.nil] := eqOf (by kernel_rfl)
@[simp, go_sem] theorem te61 : elemOfT Try.prog 61 = some (208, none) := eqOf (by kernel_rfl)
@[simp, go_sem] theorem tw61 : seqT Try.prog 61 = true := eqOf (by kernel_rfl)
@[simp, go_sem] theorem tx61 : lstT Try.prog 61 = true := eqOf (by kernel_rfl)
@[simp, go_sem] theorem ts63 : sizedT Try.prog 63 = true := eqOf (by kernel_rfl)
@[simp, go_sem] theorem to63 : zeroOk Try.prog 63 = true := eqOf (by kernel_rfl)
@[simp, go_sem] theorem tc63 : Try.prog.cellsOf 63 = 6 := eqOf (by kernel_rfl)
@[simp, go_sem] theorem tb63 : Try.prog.bytesOf 63 = 96 := eqOf (by kernel_rfl)
@[simp, go_sem] theorem ta63 : aggT Try.prog 63 = some true := eqOf (by kernel_rfl)
@[simp, go_sem] theorem tz63 : zeroV Try.prog 63 = some [.v (.int .i64 0), .v (.int .i64 0), .v (.int .i64 0), .nil, .nil, .nil] := eqOf (by kernel_rfl)
@[simp, go_sem] theorem tr63 : fieldsOk Try.prog 63 = true := eqOf (by kernel_rfl)
@[simp, go_sem] theorem tf63_0 : fieldOf Try.prog 63 0 = some (0, 3) := eqOf (by kernel_rfl)
@[simp, go_sem] theorem tf63_1 : fieldOf Try.prog 63 1 = some (1, 3) := eqOf (by kernel_rfl)
@[simp, go_sem] theorem tf63_2 : fieldOf Try.prog 63 2 = some (2, 3) := eqOf (by kernel_rfl)
@[simp, go_sem] theorem tf63_3 : fieldOf Try.prog 63 3 = some (3, 59) := eqOf (by kernel_rfl)
@[simp, go_sem] theorem tf63_4 : fieldOf Try.prog 63 4 = some (4, 60) := eqOf (by kernel_rfl)
@[simp, go_sem] theorem tf63_5 : fieldOf Try.prog 63 5 = some (5, 61) := eqOf (by kernel_rfl)
@[simp, go_sem] theorem ts64 : sizedT Try.prog 64 = true := eqOf (by kernel_rfl)
@[simp, go_sem] theorem to64 : zeroOk Try.prog 64 = true := eqOf (by kernel_rfl)
@[simp, go_sem] theorem tc64 : Try.prog.cellsOf 64 = 1 := eqOf (by kernel_rfl)
@[simp, go_sem] theorem tb64 : Try.prog.bytesOf 64 = 24 := eqOf (by kernel_rfl)
@[simp, go_sem] theorem ta64 : aggT Try.prog 64 = some false := eqOf (by kernel_rfl)
@[simp, go_sem] theorem tz64 : zeroV Try.prog 64 = some [.nil] := eqOf (by kernel_rfl)
@[simp, go_sem] theorem te64 : elemOfT Try.prog 64 = some (199, none) := eqOf (by kernel_rfl)
@[simp, go_sem] theorem tw64 : seqT Try.prog 64 = true := eqOf (by kernel_rfl)
@[simp, go_sem] theorem tx64 : lstT Try.prog 64 = true := eqOf (by kernel_rfl)
@[simp, go_sem] theorem ts66 : sizedT Try.prog 66 = true := eqOf (by kernel_rfl)
@[simp, go_sem] theorem to66 : zeroOk Try.prog 66 = true := eqOf (by kernel_rfl)
@[simp, go_sem] theorem tc66 : Try.prog.cellsOf 66 = 10 := eqOf (by kernel_rfl)
@[simp, go_sem] theorem tb66 : Try.prog.bytesOf 66 = 144 := eqOf (by kernel_rfl)
@[simp, go_sem] theorem ta66 : aggT Try.prog 66 = some true := eqOf (by kernel_rfl)
@[simp, go_sem] theorem tz66 : zeroV Try.prog 66 = some [.v (.int .i64 0), .v (.int .i64 0), .v (.int .i64 0), .nil, .nil, .nil, .v (.int .i64 0), .v (.int .i64 0), .nil, .v (.int .i64 0)] := eqOf (by kernel_rfl)
@[simp, go_sem] theorem tr66 : fieldsOk Try.prog 66 = true := eqOf (by kernel_rfl)
@[simp, go_sem] theorem tf66_0 : fieldOf Try.prog 66 0 = some (0, 63) := eqOf (by kernel_rfl)
@[simp, go_sem] theorem tf66_1 : fieldOf Try.prog 66 1 = some (6, 3) := eqOf (by kernel_rfl)
@[simp, go_sem] theorem tf66_2 : fieldOf Try.prog 66 2 = some (7, 3) := eqOf (by kernel_rfl)
@[simp, go_sem] theorem tf66_3 : fieldOf Try.prog 66 3 = some (8, 64) := eqOf (by kernel_rfl)
@[simp, go_sem] theorem tf66_4 : fieldOf Try.prog 66 4 = some (9, 3) := eqOf (by kernel_rfl)
@[simp, go_sem] theorem ts68 : sizedT Try.prog 68 = true := eqOf (by kernel_rfl)
@[simp, go_sem] theorem to68 : zeroOk Try.prog 68 = true := eqOf (by kernel_rfl)
@[simp, go_sem] theorem tc68 : Try.prog.cellsOf 68 = 9 := eqOf (by kernel_rfl)
@[simp, go_sem] theorem tb68 : Try.prog.bytesOf 68 = 88 := eqOf (by kernel_rfl)
@[simp, go_sem] theorem ta68 : aggT Try.prog 68 = some true := eqOf (by kernel_rfl)
@[simp, go_sem] theorem tz68 : zeroV Try.prog 68 = some [.v (.int .i64 0), .v (.int .i64 0), .v (.bool false), .v (.int .i64 0), .v (.int .i64 0), .nil, .v (.int .i64 0), .v (.int .i64 0), .v (.bool false)] := eqOf (by kernel_rfl)
@[simp, go_sem] theorem tr68 : fieldsOk Try.prog 68 = true := eqOf (by kernel_rfl)
@[simp, go_sem] theorem tf68_0 : fieldOf Try.prog 68 0 = some (0, 3) := eqOf (by kernel_rfl)
@[simp, go_sem] theorem tf68_1 : fieldOf Try.prog 68 1 = some (1, 3) := eqOf (by kernel_rfl)
@[simp, go_sem] theorem tf68_2 : fieldOf Try.prog 68 2 = some (2, 4) := eqOf (by kernel_rfl)
@[simp, go_sem] theorem tf68_3 : fieldOf Try.prog 68 3 = some (3, 37) := eqOf (by kernel_rfl)
@[simp, go_sem] theorem ts70 : sizedT Try.prog 70 = true := eqOf (by kernel_rfl)
@[simp, go_sem] theorem to70 : zeroOk Try.prog 70 = true := eqOf (by kernel_rfl)
@[simp, go_sem] theorem tc70 : Try.prog.cellsOf 70 = 2 := eqOf (by kernel_rfl)
@[simp, go_sem] theorem tb70 : Try.prog.bytesOf 70 = 32 := eqOf (by kernel_rfl)
@[simp, go_sem] theorem ta70 : aggT Try.prog 70 = some true := eqOf (by kernel_rfl)
@[simp, go_sem] theorem tz70 : zeroV Try.prog 70 = some [.v (.int .i64 0), .nil] := eqOf (by kernel_rfl)
@[simp, go_sem] theorem tr70 : fieldsOk Try.prog 70 = true := eqOf (by kernel_rfl)
@[simp, go_sem] theorem tf70_0 : fieldOf Try.prog 70 0 = some (0, 3) := eqOf (by kernel_rfl)
@[simp, go_sem] theorem tf70_1 : fieldOf Try.prog 70 1 = some (1, 22) := eqOf (by kernel_rfl)
@[simp, go_sem] theorem ts71 : sizedT Try.prog 71 = true := eqOf (by kernel_rfl)
@[simp, go_sem] theorem to71 : zeroOk Try.prog 71 = true := eqOf (by kernel_rfl)
@[simp, go_sem] theorem tc71 : Try.prog.cellsOf 71 = 1 := eqOf (by kernel_rfl)
@[simp, go_sem] theorem tb71 : Try.prog.bytesOf 71 = 24 := eqOf (by kernel_rfl)
@[simp, go_sem] theorem ta71 : aggT Try.prog 71 = some false := eqOf (by kernel_rfl)
@[simp, go_sem] theorem tz71 : zeroV Try.prog 71 = some [.nil] := eqOf (by kernel_rfl)
@[simp, go_sem] theorem te71 : elemOfT Try.prog 71 = some (9, none) := eqOf (by kernel_rfl)
@[simp, go_sem] theorem tw71 : seqT Try.prog 71 = true := eqOf (by kernel_rfl)
@[simp, go_sem] theorem tx71 : lstT Try.prog 71 = true := eqOf (by kernel_rfl)
@[simp, go_sem] theorem ts73 : sizedT Try.prog 73 = true := eqOf (by kernel_rfl)
@[simp, go_sem] theorem to73 : zeroOk Try.prog 73 = true := eqOf (by kernel_rfl)
@[simp, go_sem] theorem tc73 : Try.prog.cellsOf 73 = 2 := eqOf (by kernel_rfl)
@[simp, go_sem] theorem tb73 : Try.prog.bytesOf 73 = 32 := eqOf (by kernel_rfl)
@[simp, go_sem] theorem ta73 : aggT Try.prog 73 = some true := eqOf (by kernel_rfl)
@[simp, go_sem] theorem tz73 : zeroV Try.prog 73 = some [.v (.int .i64 0), .nil] := eqOf (by kernel_rfl)
@[simp, go_sem] theorem tr73 : fieldsOk Try.prog 73 = true := eqOf (by kernel_rfl)
@[simp, go_sem] theorem tf73_0 : fieldOf Try.prog 73 0 = some (0, 3) := eqOf (by kernel_rfl)
@[simp, go_sem] theorem tf73_1 : fieldOf Try.prog 73 1 = some (1, 71) := eqOf (by kernel_rfl)
@[simp, go_sem] theorem ts74 : sizedT Try.prog 74 = true := eqOf (by kernel_rfl)
@[simp, go_sem] theorem to74 : zeroOk Try.prog 74 = true := eqOf (by kernel_rfl)
@[simp, go_sem] theorem tc74 : Try.prog.cellsOf 74 = 1 := eqOf (by kernel_rfl)
@[simp, go_sem] theorem tb74 : Try.prog.bytesOf 74 = 24 := eqOf (by kernel_rfl)
@[simp, go_sem] theorem ta74 : aggT Try.prog 74 = some false := eqOf (by kernel_rfl)
@[simp, go_sem] theorem tz74 : zeroV Try.prog 74 = some [.nil] := eqOf (by kernel_rfl)
@[simp, go_sem] theorem te74 : elemOfT Try.prog 74 = some (172, none) := eqOf (by kernel_rfl)
@[simp, go_sem] theorem tw74 : seqT Try.prog 74 = true := eqOf (by kernel_rfl)
@[simp, go_sem] theorem tx74 : lstT Try.prog 74 = true := eqOf (by kernel_rfl)
@[simp, go_sem] theorem ts76 : sizedT Try.prog 76 = true := eqOf (by kernel_rfl)
@[simp, go_sem] theorem to76 : zeroOk Try.prog 76 = true := eqOf (by kernel_rfl)
@[simp, go_sem] theorem tc76 : Try.prog.cellsOf 76 = 56 := eqOf (by kernel_rfl)
@[simp, go_sem] theorem tb76 : Try.prog.bytesOf 76 = 736 := eqOf (by kernel_rfl)
@[simp, go_sem] theorem ta76 : aggT Try.prog 76 = some true := eqOf (by kernel_rfl)
@[simp, go_sem] theorem tz76 : zeroV Try.prog 76 = some [.v (.bool false), .v (.int .i64 0), .v (.int .i64 0), .v (.bool false), .v (.int .i64 0), .v (.int .i64 0), .v (.int .i64 0), .nil, .nil, .nil, .v (.int .i64 0), .v (.int .i64 0), .nil, .v (.int .i64 0), .v (.int .i64 0), .v (.int .i64 0), .v (.int .i64 0), .nil, .nil, .nil, .v (.int .i64 0), .v (.int .i64 0), .v (.bool false), .v (.int .i64 0), .v (.int .i64 0), .nil, .v (.int .i64 0), .v (.int .i64 0), .v (.bool false), .v (.int .i64 0), .nil, .v (.bool false), .v (.int .i64 0), .nil, .v (.int .i64 0), .v (.int .i64 0), .v (.int .i64 0), .v (.int .i64 0), .v (.int .i64 0), .v (.int .i64 0), .v (.int .i64 0), .v (.int .i64 0), .nil, .nil, .v (.int .i64 0), .nil, .v (.int .i64 0), .nil, .v (.int .i64 0), .nil, .v (.int .i64 0), .v (.int .i64 0), .nil, .v (.string ⟨#[]⟩), .v (.string ⟨#[]⟩), .nil] := eqOf (by kernel_rfl)
@[simp, go_sem] theorem tr76 : fieldsOk Try.prog 76 = true := eqOf (by kernel_rfl)
@[simp, go_sem] theorem tf76_0 : fieldOf Try.prog 76 0 = some (0, 4) := eqOf (by kernel_rfl)
@[simp, go_sem] theorem tf76_1 : fieldOf Try.prog 76 1 = some (1, 3) := eqOf (by kernel_rfl)
@[simp, go_sem] theorem tf76_2 : fieldOf Try.prog 76 2 = some (2, 3) := eqOf (by kernel_rfl)
@[simp, go_sem] theorem tf76_3 : fieldOf Try.prog 76 3 = some (3, 4) := eqOf (by kernel_rfl)
@[simp, go_sem] theorem tf76_4 : fieldOf Try.prog 76 4 = some (4, 66) := eqOf (by kernel_rfl)
@[simp, go_sem] theorem tf76_5 : fieldOf Try.prog 76 5 = some (14, 63) := eqOf (by kernel_rfl)
@[simp, go_sem] theorem tf76_6 : fieldOf Try.prog 76 6 = some (20, 68) := eqOf (by kernel_rfl)
@[simp, go_sem] theorem tf76_7 : fieldOf Try.prog 76 7 = some (29, 70) := eqOf (by kernel_rfl)
@[simp, go_sem] theorem tf76_8 : fieldOf Try.prog 76 8 = some (31, 33) := eqOf (by kernel_rfl)
@[simp, go_sem] theorem tf76_9 : fieldOf Try.prog 76 9 = some (51, 73) := eqOf (by kernel_rfl)
@[simp, go_sem] theorem tf76_10 : fieldOf Try.prog 76 10 = some (53, 9) := eqOf (by kernel_rfl)
@[simp, go_sem] theorem tf76_11 : fieldOf Try.prog 76 11 = some (54, 9) := eqOf (by kernel_rfl)
@[simp, go_sem] theorem tf76_12 : fieldOf Try.prog 76 12 = some (55, 74) := eqOf (by kernel_rfl)
@[simp, go_sem] theorem ts91 : sizedT Try.prog 91 = true := eqOf (by kernel_rfl)
@[simp, go_sem] theorem to91 : zeroOk Try.prog 91 = true := eqOf (by kernel_rfl)
@[simp, go_sem] theorem tc91 : Try.prog.cellsOf 91 = 1 := eqOf (by kernel_rfl)
@[simp, go_sem] theorem tb91 : Try.prog.bytesOf 91 = 24 := eqOf (by kernel_rfl)
@[simp, go_sem] theorem ta91 : aggT Try.prog 91 = some false := eqOf (by kernel_rfl)
@[simp, go_sem] theorem tz91 : zeroV Try.prog 91 = some [.nil] := eqOf (by kernel_rfl)
@[simp, go_sem] theorem te91 : elemOfT Try.prog 91 = some (23, none) := eqOf (by kernel_rfl)
@[simp, go_sem] theorem tw91 : seqT Try.prog 91 = true := eqOf (by kernel_rfl)
@[simp, go_sem] theorem tx91 : lstT Try.prog 91 = true := eqOf (by kernel_rfl)
@[simp, go_sem] theorem ts93 : sizedT Try.prog 93 = true := eqOf (by kernel_rfl)
@[simp, go_sem] theorem to93 : zeroOk Try.prog 93 = true := eqOf (by kernel_rfl)
@[simp, go_sem] theorem tc93 : Try.prog.cellsOf 93 = 4 := eqOf (by kernel_rfl)
@[simp, go_sem] theorem tb93 : Try.prog.bytesOf 93 = 48 := eqOf (by kernel_rfl)
@[simp, go_sem] theorem ta93 : aggT Try.prog 93 = some true := eqOf (by kernel_rfl)
@[simp, go_sem] theorem tz93 : zeroV Try.prog 93 = some [.v (.int .i64 0), .v (.int .i64 0), .v (.int .i64 0), .nil] := eqOf (by kernel_rfl)
@[simp, go_sem] theorem tr93 : fieldsOk Try.prog 93 = true := eqOf (by kernel_rfl)
@[simp, go_sem] theorem tf93_0 : fieldOf Try.prog 93 0 = some (0, 3) := eqOf (by kernel_rfl)
@[simp, go_sem] theorem tf93_1 : fieldOf Try.prog 93 1 = some (1, 3) := eqOf (by kernel_rfl)
@[simp, go_sem] theorem tf93_2 : fieldOf Try.prog 93 2 = some (2, 3) := eqOf (by kernel_rfl)
@[simp, go_sem] theorem tf93_3 : fieldOf Try.prog 93 3 = some (3, 91) := eqOf (by kernel_rfl)
@[simp, go_sem] theorem ts138 : sizedT Try.prog 138 = true := eqOf (by kernel_rfl)
@[simp, go_sem] theorem to138 : zeroOk Try.prog 138 = true := eqOf (by kernel_rfl)
@[simp, go_sem] theorem tc138 : Try.prog.cellsOf 138 = 3 := eqOf (by kernel_rfl)
@[simp, go_sem] theorem tb138 : Try.prog.bytesOf 138 = 40 := eqOf (by kernel_rfl)
@[simp, go_sem] theorem ta138 : aggT Try.prog 138 = some true := eqOf (by kernel_rfl)
@[simp, go_sem] theorem tz138 : zeroV Try.prog 138 = some [.nil, .v (.int .i64 0), .v (.int .i64 0)] := eqOf (by kernel_rfl)
@[simp, go_sem] theorem tr138 : fieldsOk Try.prog 138 = true := eqOf (by kernel_rfl)
@[simp, go_sem] theorem tf138_0 : fieldOf Try.prog 138 0 = some (0, 22) := eqOf (by kernel_rfl)
@[simp, go_sem] theorem tf138_1 : fieldOf Try.prog 138 1 = some (1, 3) := eqOf (by kernel_rfl)
@[simp, go_sem] theorem tf138_2 : fieldOf Try.prog 138 2 = some (2, 3) := eqOf (by kernel_rfl)
@[simp, go_sem] theorem ts172 : sizedT Try.prog 172 = true := eqOf (by kernel_rfl)
@[simp, go_sem] theorem to172 : zeroOk Try.prog 172 = true := eqOf (by kernel_rfl)
@[simp, go_sem] theorem tc172 : Try.prog.cellsOf 172 = 3 := eqOf (by kernel_rfl)
@[simp, go_sem] theorem tb172 : Try.prog.bytesOf 172 = 32 := eqOf (by kernel_rfl)
@[simp, go_sem] theorem ta172 : aggT Try.prog 172 = some true := eqOf (by kernel_rfl)
@[simp, go_sem] theorem tz172 : zeroV Try.prog 172 = some [.v (.string ⟨#[]⟩), .v (.bool false), .v (.int .i64 0)] := eqOf (by kernel_rfl)
@[simp, go_sem] theorem tr172 : fieldsOk Try.prog 172 = true := eqOf (by kernel_rfl)
@[simp, go_sem] theorem tf172_0 : fieldOf Try.prog 172 0 = some (0, 9) := eqOf (by kernel_rfl)
@[simp, go_sem] theorem tf172_1 : fieldOf Try.prog 172 1 = some (1, 4) := eqOf (by kernel_rfl)
@[simp, go_sem] theorem tf172_2 : fieldOf Try.prog 172 2 = some (2, 3) := eqOf (by kernel_rfl)
@[simp, go_sem] theorem ts188 : sizedT Try.prog 188 = true := eqOf (by kernel_rfl)
@[simp, go_sem] theorem to188 : zeroOk Try.prog 188 = true := eqOf (by kernel_rfl)
@[simp, go_sem] theorem tc188 : Try.prog.cellsOf 188 = 1 := eqOf (by kernel_rfl)
@[simp, go_sem] theorem tb188 : Try.prog.bytesOf 188 = 24 := eqOf (by kernel_rfl)
@[simp, go_sem] theorem ta188 : aggT Try.prog 188 = some true := eqOf (by kernel_rfl)
@[simp, go_sem] theorem tz188 : zeroV Try.prog 188 = some [.nil] := eqOf (by kernel_rfl)
@[simp, go_sem] theorem tr188 : fieldsOk Try.prog 188 = true := eqOf (by kernel_rfl)
@[simp, go_sem] theorem tf188_0 : fieldOf Try.prog 188 0 = some (0, 23) := eqOf (by kernel_rfl)
@[simp, go_sem] theorem ts189 : sizedT Try.prog 189 = true := eqOf (by kernel_rfl)
@[simp, go_sem] theorem to189 : zeroOk Try.prog 189 = true := eqOf (by kernel_rfl)
@[simp, go_sem] theorem tc189 : Try.prog.cellsOf 189 = 2 := eqOf (by kernel_rfl)
@[simp, go_sem] theorem tb189 : Try.prog.bytesOf 189 = 16 := eqOf (by kernel_rfl)
@[simp, go_sem] theorem ta189 : aggT Try.prog 189 = some true := eqOf (by kernel_rfl)
@[simp, go_sem] theorem tz189 : zeroV Try.prog 189 = some [.v (.int .i64 0), .v (.int .i64 0)] := eqOf (by kernel_rfl)
@[simp, go_sem] theorem te189 : elemOfT Try.prog 189 = some (3, some 2) := eqOf (by kernel_rfl)
@[simp, go_sem] theorem tr189 : fieldsOk Try.prog 189 = true := eqOf (by kernel_rfl)
@[simp, go_sem] theorem ts190 : sizedT Try.prog 190 = true := eqOf (by kernel_rfl)
@[simp, go_sem] theorem to190 : zeroOk Try.prog 190 = true := eqOf (by kernel_rfl)
@[simp, go_sem] theorem tc190 : Try.prog.cellsOf 190 = 1 := eqOf (by kernel_rfl)
@[simp, go_sem] theorem tb190 : Try.prog.bytesOf 190 = 24 := eqOf (by kernel_rfl)
@[simp, go_sem] theorem ta190 : aggT Try.prog 190 = some false := eqOf (by kernel_rfl)
@[simp, go_sem] theorem tz190 : zeroV Try.prog 190 = some [.nil] := eqOf (by kernel_rfl)
@[simp, go_sem] theorem te190 : elemOfT Try.prog 190 = some (189, none) := eqOf (by kernel_rfl)
@[simp, go_sem] theorem tw190 : seqT Try.prog 190 = true := eqOf (by kernel_rfl)
@[simp, go_sem] theorem tx190 : lstT Try.prog 190 = true := eqOf (by kernel_rfl)
@[simp, go_sem] theorem ts192 : sizedT Try.prog 192 = true := eqOf (by kernel_rfl)
@[simp, go_sem] theorem to192 : zeroOk Try.prog 192 = true := eqOf (by kernel_rfl)
@[simp, go_sem] theorem tc192 : Try.prog.cellsOf 192 = 1 := eqOf (by kernel_rfl)
@[simp, go_sem] theorem tb192 : Try.prog.bytesOf 192 = 24 := eqOf (by kernel_rfl)
@[simp, go_sem] theorem ta192 : aggT Try.prog 192 = some true := eqOf (by kernel_rfl)
@[simp, go_sem] theorem tz192 : zeroV Try.prog 192 = some [.nil] := eqOf (by kernel_rfl)
@[simp, go_sem] theorem tr192 : fieldsOk Try.prog 192 = true := eqOf (by kernel_rfl)
@[simp, go_sem] theorem tf192_0 : fieldOf Try.prog 192 0 = some (0, 23) := eqOf (by kernel_rfl)
@[simp, go_sem] theorem ts199 : sizedT Try.prog 199 = true := eqOf (by kernel_rfl)
@[simp, go_sem] theorem to199 : zeroOk Try.prog 199 = true := eqOf (by kernel_rfl)
@[simp, go_sem] theorem tc199 : Try.prog.cellsOf 199 = 2 := eqOf (by kernel_rfl)
@[simp, go_sem] theorem tb199 : Try.prog.bytesOf 199 = 24 := eqOf (by kernel_rfl)
@[simp, go_sem] theorem ta199 : aggT Try.prog 199 = some true := eqOf (by kernel_rfl)
@[simp, go_sem] theorem tz199 : zeroV Try.prog 199 = some [.v (.int .i64 0), .v (.string ⟨#[]⟩)] := eqOf (by kernel_rfl)
@[simp, go_sem] theorem tr199 : fieldsOk Try.prog 199 = true := eqOf (by kernel_rfl)
@[simp, go_sem] theorem tf199_0 : fieldOf Try.prog 199 0 = some (0, 3) := eqOf (by kernel_rfl)
@[simp, go_sem] theorem tf199_1 : fieldOf Try.prog 199 1 = some (1, 9) := eqOf (by kernel_rfl)
@[simp, go_sem] theorem ts202 : sizedT Try.prog 202 = true := eqOf (by kernel_rfl)
@[simp, go_sem] theorem to202 : zeroOk Try.prog 202 = true := eqOf (by kernel_rfl)
@[simp, go_sem] theorem tc202 : Try.prog.cellsOf 202 = 3 := eqOf (by kernel_rfl)
@[simp, go_sem] theorem tb202 : Try.prog.bytesOf 202 = 56 := eqOf (by kernel_rfl)
@[simp, go_sem] theorem ta202 : aggT Try.prog 202 = some true := eqOf (by kernel_rfl)
@[simp, go_sem] theorem tz202 : zeroV Try.prog 202 = some [.v (.int .i64 0), .nil, .nil] := eqOf (by kernel_rfl)
@[simp, go_sem] theorem tr202 : fieldsOk Try.prog 202 = true := eqOf (by kernel_rfl)
@[simp, go_sem] theorem tf202_0 : fieldOf Try.prog 202 0 = some (0, 3) := eqOf (by kernel_rfl)
@[simp, go_sem] theorem tf202_1 : fieldOf Try.prog 202 1 = some (1, 22) := eqOf (by kernel_rfl)
@[simp, go_sem] theorem tf202_2 : fieldOf Try.prog 202 2 = some (2, 22) := eqOf (by kernel_rfl)
@[simp, go_sem] theorem ts205 : sizedT Try.prog 205 = true := eqOf (by kernel_rfl)
@[simp, go_sem] theorem to205 : zeroOk Try.prog 205 = true := eqOf (by kernel_rfl)
@[simp, go_sem] theorem tc205 : Try.prog.cellsOf 205 = 2 := eqOf (by kernel_rfl)
@[simp, go_sem] theorem tb205 : Try.prog.bytesOf 205 = 24 := eqOf (by kernel_rfl)
@[simp, go_sem] theorem ta205 : aggT Try.prog 205 = some true := eqOf (by kernel_rfl)
@[simp, go_sem] theorem tz205 : zeroV Try.prog 205 = some [.v (.string ⟨#[]⟩), .v (.int .i64 0)] := eqOf (by kernel_rfl)
@[simp, go_sem] theorem tr205 : fieldsOk Try.prog 205 = true := eqOf (by kernel_rfl)
@[simp, go_sem] theorem tf205_0 : fieldOf Try.prog 205 0 = some (0, 9) := eqOf (by kernel_rfl)
@[simp, go_sem] theorem tf205_1 : fieldOf Try.prog 205 1 = some (1, 3) := eqOf (by kernel_rfl)
@[simp, go_sem] theorem ts208 : sizedT Try.prog 208 = true := eqOf (by kernel_rfl)
@[simp, go_sem] theorem to208 : zeroOk Try.prog 208 = true := eqOf (by kernel_rfl)
@[simp, go_sem] theorem tc208 : Try.prog.cellsOf 208 = 4 := eqOf (by kernel_rfl)
@[simp, go_sem] theorem tb208 : Try.prog.bytesOf 208 = 48 := eqOf (by kernel_rfl)
@[simp, go_sem] theorem ta208 : aggT Try.prog 208 = some true := eqOf (by kernel_rfl)
@[simp, go_sem] theorem tz208 : zeroV Try.prog 208 = some [.v (.int .i64 0), .v (.string ⟨#[]⟩), .v (.string ⟨#[]⟩), .v (.int .i64 0)] := eqOf (by kernel_rfl)
@[simp, go_sem] theorem tr208 : fieldsOk Try.prog 208 = true := eqOf (by kernel_rfl)
@[simp, go_sem] theorem tf208_0 : fieldOf Try.prog 208 0 = some (0, 3) := eqOf (by kernel_rfl)
@[simp, go_sem] theorem tf208_1 : fieldOf Try.prog 208 1 = some (1, 9) := eqOf (by kernel_rfl)
@[simp, go_sem] theorem tf208_2 : fieldOf Try.prog 208 2 = some (2, 9) := eqOf (by kernel_rfl)
@[simp, go_sem] theorem tf208_3 : fieldOf Try.prog 208 3 = some (3, 3) := eqOf (by kernel_rfl)
end Go.Proofs.Ytacnbajcignacaa
namespace Go.Proofs.Ytacnbajcignacaa
open Go.RowKit
noncomputable def nextV (f : Q → Option (Ex × Q)) : Option (Ex × Q) → Option (Ex × Q)
  | some (.normal, s) => loopV f s
  | some (.exit i, s) => some (.exit i, s)
  | some (.ret, s) => some (.ret, s)
  | none => none
section
variable (f : Q → Option (Ex × Q)) (s : Q)
@[simp ↓, go_sem ↓] theorem nextV_normal : nextV f (some (.normal, s)) = loopV f s := id rfl
@[simp ↓, go_sem ↓] theorem nextV_exit (i : Nat) : nextV f (some (.exit i, s)) = some (.exit i, s) := id rfl
@[simp ↓, go_sem ↓] theorem nextV_ret : nextV f (some (.ret, s)) = some (.ret, s) := id rfl
@[simp ↓, go_sem ↓] theorem nextV_none : nextV f none = none := id rfl
end
@[congr] theorem nextV_congr {r r' : Option (Ex × Q)} (f : Q → Option (Ex × Q)) (h : r = r') : nextV f r = nextV f r' := by rw [h]
theorem loopV_none {f : Q → Option (Ex × Q)} {s : Q} (h : ∀ n r, rounds f n s ≠ some r) : loopV f s = none := by
  unfold loopV
  exact dif_neg fun ⟨n, r, e⟩ => h n r e
theorem loopV_unf (f : Q → Option (Ex × Q)) (s : Q) : loopV f s = nextV f (f s) := by
  cases hl : loopV f s with
  | some r =>
    obtain ⟨n, hn⟩ := loopV_some hl
    cases n with
    | zero => cases hn
    | succ n =>
      unfold rounds at hn
      split at hn
      · rename_i s' e; rw [e, nextV_normal]; exact (loopV_of hn).symm
      · rw [hn]
        obtain ⟨e, q⟩ := r
        cases e
        · exact absurd hn (by rename_i h; exact h _)
        · rfl
        · rfl
  | none =>
    cases e : f s with
    | none => rfl
    | some r =>
      obtain ⟨ex, q⟩ := r
      cases ex with
      | normal =>
        rw [nextV_normal]
        cases h2 : loopV f q with
        | none => rfl
        | some r2 =>
          obtain ⟨n, hn⟩ := loopV_some h2
          have : rounds f (n + 1) s = some r2 := by unfold rounds; rw [e]; exact hn
          rw [loopV_of this] at hl; cases hl
      | exit i =>
        have : rounds f 1 s = some (.exit i, q) := by unfold rounds; rw [e]
        rw [loopV_of this] at hl; cases hl
      | ret =>
        have : rounds f 1 s = some (.ret, q) := by unfold rounds; rw [e]
        rw [loopV_of this] at hl; cases hl
theorem loopV_go {f : Q → Option (Ex × Q)} {s : Q} (st : Nat → Q) (n : Nat) (h0 : s = st 0) (hs : ∀ j, j < n → f (st j) = some (.normal, st (j + 1))) : loopV f s = nextV f (f (st n)) := by
  rw [h0, ← loopV_unf]
  have : ∀ k, k ≤ n → loopV f (st 0) = loopV f (st k) := by
    intro k; induction k with
    | zero => intro _; rfl
    | succ k ih =>
      intro h
      rw [ih (by omega), loopV_unf, hs k (by omega), nextV_normal]
  exact this n (Nat.le_refl _)
theorem w64 (n : Int) (h : -9223372036854775808 ≤ n ∧ n ≤ 9223372036854775807) : IntKind.i64.wrap n = n := IntWalk.i64_in n h
theorem w64' {n : Int} (h1 : -9223372036854775808 ≤ n) (h2 : n ≤ 9223372036854775807) : IntKind.i64.wrap n = n := IntWalk.i64_in n ⟨h1, h2⟩
def R64 (n : Int) : Prop := -9223372036854775808 ≤ n ∧ n ≤ 9223372036854775807
theorem R64.wrap {n : Int} (h : R64 n) : IntKind.i64.wrap n = n := IntWalk.i64_in n h
def inR (x a b : Int) : Bool := decide (a ≤ x) && decide (x ≤ b)
theorem inR_iff {x a b : Int} : inR x a b = true ↔ a ≤ x ∧ x ≤ b := by simp [inR]
theorem inR_of {x a b : Int} (h : inR x a b = true) : a ≤ x ∧ x ≤ b := inR_iff.1 h
theorem inR_no {x a b : Int} (h : ¬ (inR x a b = true)) : inR x a b = false := by simpa using h
@[simp] theorem w64_n0 : IntKind.i64.wrap 0 = 0 := w64 0 (by omega)
@[simp] theorem w64_n1 : IntKind.i64.wrap 1 = 1 := w64 1 (by omega)
@[simp] theorem w64_n2 : IntKind.i64.wrap 2 = 2 := w64 2 (by omega)
@[simp] theorem w64_n3 : IntKind.i64.wrap 3 = 3 := w64 3 (by omega)
@[simp] theorem w64_n4 : IntKind.i64.wrap 4 = 4 := w64 4 (by omega)
@[simp] theorem w64_n5 : IntKind.i64.wrap 5 = 5 := w64 5 (by omega)
@[simp] theorem w64_n6 : IntKind.i64.wrap 6 = 6 := w64 6 (by omega)
@[simp] theorem w64_n7 : IntKind.i64.wrap 7 = 7 := w64 7 (by omega)
@[simp] theorem w64_n8 : IntKind.i64.wrap 8 = 8 := w64 8 (by omega)
@[simp] theorem w64_n9 : IntKind.i64.wrap 9 = 9 := w64 9 (by omega)
end Go.Proofs.Ytacnbajcignacaa
