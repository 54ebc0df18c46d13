/- Part 3 of a proof in several texts (an abstract evaluator, what the functions compute). -/
import Derived.Test.YtjhdikdopdcfcaaGreatDoorPkFnSearch2
namespace Go.Proofs.YtjhdikdopdcfcaaGreatDoor
open Go.RowKit
set_option linter.unusedSimpArgs false
structure Codec (α : Type) where
  enc : α → List D
  is_ : List D → Bool
  dec : List D → α
  k : Nat
  len : ∀ x, (enc x).length = k
  one : ∀ x, (enc x).all oneD = true
  ok : ∀ x, is_ (enc x) = true
  back : ∀ x, dec (enc x) = x
  there : ∀ r, is_ r = true → enc (dec r) = r
namespace Codec
variable {α : Type} (C : Codec α)
def rows (l : List α) : List (List D) := l.map C.enc
def isL (r : List (List D)) : Bool := r.all C.is_
def unL (r : List (List D)) : List α := r.map C.dec
theorem rows_len (l : List α) : (C.rows l).length = l.length := List.length_map ..
theorem rows_app (l m : List α) : C.rows (l ++ m) = C.rows l ++ C.rows m := List.map_append
theorem rows_wid (l : List α) : wid C.k (C.rows l) = true := by
  induction l with
  | nil => rfl
  | cons x r ih =>
    show (decide ((C.enc x).length = C.k) && (C.enc x).all oneD && wid C.k (C.rows r)) = true
    rw [ih, C.len, C.one]; simp
theorem rows_get {l : List α} {j : Nat} (h : j < l.length) : (C.rows l)[j]? = some (C.enc l[j]) := by simp [rows, h]
theorem rows_drop (l : List α) (n : Nat) : (C.rows l).drop n = C.rows (l.drop n) := List.map_drop.symm
theorem rows_take (l : List α) (n : Nat) : (C.rows l).take n = C.rows (l.take n) := List.map_take.symm
theorem isL_rows (l : List α) : C.isL (C.rows l) = true := by
  induction l with
  | nil => rfl
  | cons x r ih => show (C.is_ (C.enc x) && C.isL (C.rows r)) = true; rw [ih, C.ok]; rfl
theorem isL_app (r q : List (List D)) : C.isL (r ++ q) = (C.isL r && C.isL q) := List.all_append
theorem unL_rows (l : List α) : C.unL (C.rows l) = l := by
  induction l with
  | nil => rfl
  | cons x r ih => show C.dec (C.enc x) :: C.unL (C.rows r) = _; rw [ih, C.back]
theorem unL_app (r q : List (List D)) : C.unL (r ++ q) = C.unL r ++ C.unL q := List.map_append
theorem rows_unL {r : List (List D)} (h : C.isL r = true) : C.rows (C.unL r) = r := by
  induction r with
  | nil => rfl
  | cons x r ih =>
    have h : (C.is_ x && C.isL r) = true := h
    rw [Bool.and_eq_true] at h
    show C.enc (C.dec x) :: C.rows (C.unL r) = _
    rw [ih h.2, C.there x h.1]
theorem rows_flat (hf : ∀ x, (C.enc x).all flatD = true) (l : List α) : rowsFlat (C.rows l) = true := by
  induction l with
  | nil => rfl
  | cons x r ih => show ((C.enc x).all flatD && rowsFlat (C.rows r)) = true; rw [ih, hf]; rfl
end Codec
def c_ints : Codec Int where
  enc := fun x => [.a (.int .i64 x)]
  is_ := fun | [.a (.int .i64 _)] => true | _ => false
  dec := fun | [.a (.int .i64 x)] => x | _ => 0
  k := 1
  len := fun _ => rfl
  one := fun x => by simp [oneD, Value.oneCell']
  ok := fun x => by simp
  back := fun x => by simp
  there := fun r h => by
    split at h
    · rfl
    · cases h
def ints (l : List Int) : List (List D) := c_ints.rows l
def is_ints (r : List (List D)) : Bool := c_ints.isL r
def un_ints (r : List (List D)) : List Int := c_ints.unL r
@[simp] theorem ints_len (l : List Int) : (ints l).length = l.length := c_ints.rows_len l
@[simp] theorem ints_app (l m : List Int) : ints (l ++ m) = ints l ++ ints m := c_ints.rows_app l m
@[simp] theorem ints_wid (l : List Int) : wid 1 (ints l) = true := c_ints.rows_wid l
theorem ints_get {l : List Int} {j : Nat} (h : j < l.length) : (ints l)[j]? = some ((fun x => [.a (.int .i64 x)]) l[j]) := c_ints.rows_get h
@[simp] theorem ints_at {l : List Int} {j : Nat} (h : j < (ints l).length) : (ints l)[j] = (fun x => [.a (.int .i64 x)]) (l[j]'(by simpa using h)) := by
  have h2 := ints_get (l := l) (j := j) (by simpa using h)
  rw [List.getElem?_eq_getElem h] at h2; injection h2
@[simp] theorem ints_drop (l : List Int) (i : Nat) : (ints l).drop i = ints (l.drop i) := c_ints.rows_drop l i
@[simp] theorem ints_take (l : List Int) (i : Nat) : (ints l).take i = ints (l.take i) := c_ints.rows_take l i
@[simp] theorem is_ints_rows (l : List Int) : is_ints (ints l) = true := c_ints.isL_rows l
@[simp] theorem is_ints_nil : is_ints [] = true := id rfl
@[simp] theorem is_ints_app (r q : List (List D)) : is_ints (r ++ q) = (is_ints r && is_ints q) := c_ints.isL_app r q
@[simp] theorem un_ints_rows (l : List Int) : un_ints (ints l) = l := c_ints.unL_rows l
@[simp] theorem un_ints_nil : un_ints [] = [] := id rfl
@[simp] theorem un_ints_app (r q : List (List D)) : un_ints (r ++ q) = un_ints r ++ un_ints q := c_ints.unL_app r q
theorem rows_un_ints {r : List (List D)} (h : is_ints r = true) : ints (un_ints r) = r := c_ints.rows_unL h
theorem ints_nil : ints [] = [] := rfl
theorem ints_cons (x : Int) (l : List Int) : ints (x :: l) = [.a (.int .i64 x)] :: ints l := rfl
theorem ints_snoc (l : List Int) (x : Int) : ints l ++ [[.a (.int .i64 x)]] = ints (l ++ [x]) := ((c_ints.rows_app l [x]).trans rfl).symm
@[simp] theorem ints_flat (l : List Int) : rowsFlat (ints l) = true := c_ints.rows_flat (fun _ => rfl) l
def c_byts : Codec UInt8 where
  enc := fun x => [.a (.int .u8 x.toNat)]
  is_ := fun | [.a (.int .u8 n)] => decide (((UInt8.ofNat n.toNat).toNat : Int) = n) | _ => false
  dec := fun | [.a (.int .u8 n)] => UInt8.ofNat n.toNat | _ => 0
  k := 1
  len := fun _ => rfl
  one := fun x => by simp [oneD, Value.oneCell']
  ok := fun x => by simp
  back := fun x => by simp
  there := fun r h => by
    split at h
    · rw [of_decide_eq_true h]
    · cases h
def byts (l : List UInt8) : List (List D) := c_byts.rows l
def is_byts (r : List (List D)) : Bool := c_byts.isL r
def un_byts (r : List (List D)) : List UInt8 := c_byts.unL r
@[simp] theorem byts_len (l : List UInt8) : (byts l).length = l.length := c_byts.rows_len l
@[simp] theorem byts_app (l m : List UInt8) : byts (l ++ m) = byts l ++ byts m := c_byts.rows_app l m
@[simp] theorem byts_wid (l : List UInt8) : wid 1 (byts l) = true := c_byts.rows_wid l
theorem byts_get {l : List UInt8} {j : Nat} (h : j < l.length) : (byts l)[j]? = some ((fun x => [.a (.int .u8 x.toNat)]) l[j]) := c_byts.rows_get h
@[simp] theorem byts_at {l : List UInt8} {j : Nat} (h : j < (byts l).length) : (byts l)[j] = (fun x => [.a (.int .u8 x.toNat)]) (l[j]'(by simpa using h)) := by
  have h2 := byts_get (l := l) (j := j) (by simpa using h)
  rw [List.getElem?_eq_getElem h] at h2; injection h2
@[simp] theorem byts_drop (l : List UInt8) (i : Nat) : (byts l).drop i = byts (l.drop i) := c_byts.rows_drop l i
@[simp] theorem byts_take (l : List UInt8) (i : Nat) : (byts l).take i = byts (l.take i) := c_byts.rows_take l i
@[simp] theorem is_byts_rows (l : List UInt8) : is_byts (byts l) = true := c_byts.isL_rows l
@[simp] theorem is_byts_nil : is_byts [] = true := id rfl
@[simp] theorem is_byts_app (r q : List (List D)) : is_byts (r ++ q) = (is_byts r && is_byts q) := c_byts.isL_app r q
@[simp] theorem un_byts_rows (l : List UInt8) : un_byts (byts l) = l := c_byts.unL_rows l
@[simp] theorem un_byts_nil : un_byts [] = [] := id rfl
@[simp] theorem un_byts_app (r q : List (List D)) : un_byts (r ++ q) = un_byts r ++ un_byts q := c_byts.unL_app r q
theorem rows_un_byts {r : List (List D)} (h : is_byts r = true) : byts (un_byts r) = r := c_byts.rows_unL h
theorem byts_nil : byts [] = [] := rfl
theorem byts_cons (x : UInt8) (l : List UInt8) : byts (x :: l) = [.a (.int .u8 x.toNat)] :: byts l := rfl
@[simp] theorem byts_flat (l : List UInt8) : rowsFlat (byts l) = true := c_byts.rows_flat (fun _ => rfl) l
def c_strs : Codec ByteArray where
  enc := fun x => [.a (.string x)]
  is_ := fun | [.a (.string _)] => true | _ => false
  dec := fun | [.a (.string x)] => x | _ => .empty
  k := 1
  len := fun _ => rfl
  one := fun x => by simp [oneD, Value.oneCell']
  ok := fun x => by simp
  back := fun x => by simp
  there := fun r h => by
    split at h
    · rfl
    · cases h
def strs (l : List ByteArray) : List (List D) := c_strs.rows l
def is_strs (r : List (List D)) : Bool := c_strs.isL r
def un_strs (r : List (List D)) : List ByteArray := c_strs.unL r
@[simp] theorem strs_len (l : List ByteArray) : (strs l).length = l.length := c_strs.rows_len l
@[simp] theorem strs_app (l m : List ByteArray) : strs (l ++ m) = strs l ++ strs m := c_strs.rows_app l m
@[simp] theorem strs_wid (l : List ByteArray) : wid 1 (strs l) = true := c_strs.rows_wid l
theorem strs_get {l : List ByteArray} {j : Nat} (h : j < l.length) : (strs l)[j]? = some ((fun x => [.a (.string x)]) l[j]) := c_strs.rows_get h
@[simp] theorem strs_at {l : List ByteArray} {j : Nat} (h : j < (strs l).length) : (strs l)[j] = (fun x => [.a (.string x)]) (l[j]'(by simpa using h)) := by
  have h2 := strs_get (l := l) (j := j) (by simpa using h)
  rw [List.getElem?_eq_getElem h] at h2; injection h2
@[simp] theorem strs_drop (l : List ByteArray) (i : Nat) : (strs l).drop i = strs (l.drop i) := c_strs.rows_drop l i
@[simp] theorem strs_take (l : List ByteArray) (i : Nat) : (strs l).take i = strs (l.take i) := c_strs.rows_take l i
@[simp] theorem is_strs_rows (l : List ByteArray) : is_strs (strs l) = true := c_strs.isL_rows l
@[simp] theorem is_strs_nil : is_strs [] = true := id rfl
@[simp] theorem is_strs_app (r q : List (List D)) : is_strs (r ++ q) = (is_strs r && is_strs q) := c_strs.isL_app r q
@[simp] theorem un_strs_rows (l : List ByteArray) : un_strs (strs l) = l := c_strs.unL_rows l
@[simp] theorem un_strs_nil : un_strs [] = [] := id rfl
@[simp] theorem un_strs_app (r q : List (List D)) : un_strs (r ++ q) = un_strs r ++ un_strs q := c_strs.unL_app r q
theorem rows_un_strs {r : List (List D)} (h : is_strs r = true) : strs (un_strs r) = r := c_strs.rows_unL h
theorem strs_snoc (l : List ByteArray) (x : ByteArray) : strs l ++ [[.a (.string x)]] = strs (l ++ [x]) := ((c_strs.rows_app l [x]).trans rfl).symm
@[simp] theorem strs_flat (l : List ByteArray) : rowsFlat (strs l) = true := c_strs.rows_flat (fun _ => rfl) l
def c_intss : Codec (List Int) where
  enc := fun x => [.l (ints x)]
  is_ := fun | [.l r] => is_ints r | _ => false
  dec := fun | [.l r] => un_ints r | _ => []
  k := 1
  len := fun _ => rfl
  one := fun x => by simp [oneD, Value.oneCell']
  ok := fun x => by simp
  back := fun x => by simp
  there := fun r h => by
    split at h
    · rw [rows_un_ints h]
    · cases h
def intss (l : List (List Int)) : List (List D) := c_intss.rows l
def is_intss (r : List (List D)) : Bool := c_intss.isL r
def un_intss (r : List (List D)) : List (List Int) := c_intss.unL r
@[simp] theorem intss_len (l : List (List Int)) : (intss l).length = l.length := c_intss.rows_len l
@[simp] theorem intss_app (l m : List (List Int)) : intss (l ++ m) = intss l ++ intss m := c_intss.rows_app l m
@[simp] theorem intss_wid (l : List (List Int)) : wid 1 (intss l) = true := c_intss.rows_wid l
theorem intss_get {l : List (List Int)} {j : Nat} (h : j < l.length) : (intss l)[j]? = some ((fun x => [.l (ints x)]) l[j]) := c_intss.rows_get h
@[simp] theorem intss_at {l : List (List Int)} {j : Nat} (h : j < (intss l).length) : (intss l)[j] = (fun x => [.l (ints x)]) (l[j]'(by simpa using h)) := by
  have h2 := intss_get (l := l) (j := j) (by simpa using h)
  rw [List.getElem?_eq_getElem h] at h2; injection h2
@[simp] theorem intss_drop (l : List (List Int)) (i : Nat) : (intss l).drop i = intss (l.drop i) := c_intss.rows_drop l i
@[simp] theorem intss_take (l : List (List Int)) (i : Nat) : (intss l).take i = intss (l.take i) := c_intss.rows_take l i
@[simp] theorem is_intss_rows (l : List (List Int)) : is_intss (intss l) = true := c_intss.isL_rows l
@[simp] theorem is_intss_nil : is_intss [] = true := id rfl
@[simp] theorem is_intss_app (r q : List (List D)) : is_intss (r ++ q) = (is_intss r && is_intss q) := c_intss.isL_app r q
@[simp] theorem un_intss_rows (l : List (List Int)) : un_intss (intss l) = l := c_intss.unL_rows l
@[simp] theorem un_intss_nil : un_intss [] = [] := id rfl
@[simp] theorem un_intss_app (r q : List (List D)) : un_intss (r ++ q) = un_intss r ++ un_intss q := c_intss.unL_app r q
theorem rows_un_intss {r : List (List D)} (h : is_intss r = true) : intss (un_intss r) = r := c_intss.rows_unL h
structure TNode where
  Id : Int
  Body : List UInt8
  Safe : List UInt8
def zNode : TNode := ⟨0, [], []⟩
def c_dNodes : Codec TNode where
  enc := fun x => [.a (.int .i64 x.Id), .l (byts x.Body), .l (byts x.Safe)]
  is_ := fun | [.a (.int .i64 _), .l r1, .l r2] => is_byts r1 && is_byts r2 | _ => false
  dec := fun | [.a (.int .i64 x0), .l r1, .l r2] => ⟨x0, un_byts r1, un_byts r2⟩ | _ => zNode
  k := 3
  len := fun _ => rfl
  one := fun x => by simp [oneD, Value.oneCell']
  ok := fun x => by simp
  back := fun x => by simp
  there := fun r h => by
    split at h
    · simp only [Bool.and_eq_true] at h; simp [rows_un_byts h.1, rows_un_byts h.2]
    · cases h
def dNodes (l : List TNode) : List (List D) := c_dNodes.rows l
def is_dNodes (r : List (List D)) : Bool := c_dNodes.isL r
def un_dNodes (r : List (List D)) : List TNode := c_dNodes.unL r
@[simp] theorem dNodes_len (l : List TNode) : (dNodes l).length = l.length := c_dNodes.rows_len l
@[simp] theorem dNodes_app (l m : List TNode) : dNodes (l ++ m) = dNodes l ++ dNodes m := c_dNodes.rows_app l m
@[simp] theorem dNodes_wid (l : List TNode) : wid 3 (dNodes l) = true := c_dNodes.rows_wid l
theorem dNodes_get {l : List TNode} {j : Nat} (h : j < l.length) : (dNodes l)[j]? = some ((fun x => [.a (.int .i64 x.Id), .l (byts x.Body), .l (byts x.Safe)]) l[j]) := c_dNodes.rows_get h
@[simp] theorem dNodes_at {l : List TNode} {j : Nat} (h : j < (dNodes l).length) : (dNodes l)[j] = (fun x => [.a (.int .i64 x.Id), .l (byts x.Body), .l (byts x.Safe)]) (l[j]'(by simpa using h)) := by
  have h2 := dNodes_get (l := l) (j := j) (by simpa using h)
  rw [List.getElem?_eq_getElem h] at h2; injection h2
@[simp] theorem dNodes_drop (l : List TNode) (i : Nat) : (dNodes l).drop i = dNodes (l.drop i) := c_dNodes.rows_drop l i
@[simp] theorem dNodes_take (l : List TNode) (i : Nat) : (dNodes l).take i = dNodes (l.take i) := c_dNodes.rows_take l i
@[simp] theorem is_dNodes_rows (l : List TNode) : is_dNodes (dNodes l) = true := c_dNodes.isL_rows l
@[simp] theorem is_dNodes_nil : is_dNodes [] = true := id rfl
@[simp] theorem is_dNodes_app (r q : List (List D)) : is_dNodes (r ++ q) = (is_dNodes r && is_dNodes q) := c_dNodes.isL_app r q
@[simp] theorem un_dNodes_rows (l : List TNode) : un_dNodes (dNodes l) = l := c_dNodes.unL_rows l
@[simp] theorem un_dNodes_nil : un_dNodes [] = [] := id rfl
@[simp] theorem un_dNodes_app (r q : List (List D)) : un_dNodes (r ++ q) = un_dNodes r ++ un_dNodes q := c_dNodes.unL_app r q
theorem rows_un_dNodes {r : List (List D)} (h : is_dNodes r = true) : dNodes (un_dNodes r) = r := c_dNodes.rows_unL h
structure TLink where
  Name : ByteArray
  Id : Int
def zLink : TLink := ⟨.empty, 0⟩
def c_dLinks : Codec TLink where
  enc := fun x => [.a (.string x.Name), .a (.int .i64 x.Id)]
  is_ := fun | [.a (.string _), .a (.int .i64 _)] => true | _ => false
  dec := fun | [.a (.string x0), .a (.int .i64 x1)] => ⟨x0, x1⟩ | _ => zLink
  k := 2
  len := fun _ => rfl
  one := fun x => by simp [oneD, Value.oneCell']
  ok := fun x => by simp
  back := fun x => by simp
  there := fun r h => by
    split at h
    · rfl
    · cases h
def dLinks (l : List TLink) : List (List D) := c_dLinks.rows l
def is_dLinks (r : List (List D)) : Bool := c_dLinks.isL r
def un_dLinks (r : List (List D)) : List TLink := c_dLinks.unL r
@[simp] theorem dLinks_len (l : List TLink) : (dLinks l).length = l.length := c_dLinks.rows_len l
@[simp] theorem dLinks_app (l m : List TLink) : dLinks (l ++ m) = dLinks l ++ dLinks m := c_dLinks.rows_app l m
@[simp] theorem dLinks_wid (l : List TLink) : wid 2 (dLinks l) = true := c_dLinks.rows_wid l
theorem dLinks_get {l : List TLink} {j : Nat} (h : j < l.length) : (dLinks l)[j]? = some ((fun x => [.a (.string x.Name), .a (.int .i64 x.Id)]) l[j]) := c_dLinks.rows_get h
@[simp] theorem dLinks_at {l : List TLink} {j : Nat} (h : j < (dLinks l).length) : (dLinks l)[j] = (fun x => [.a (.string x.Name), .a (.int .i64 x.Id)]) (l[j]'(by simpa using h)) := by
  have h2 := dLinks_get (l := l) (j := j) (by simpa using h)
  rw [List.getElem?_eq_getElem h] at h2; injection h2
@[simp] theorem dLinks_drop (l : List TLink) (i : Nat) : (dLinks l).drop i = dLinks (l.drop i) := c_dLinks.rows_drop l i
@[simp] theorem dLinks_take (l : List TLink) (i : Nat) : (dLinks l).take i = dLinks (l.take i) := c_dLinks.rows_take l i
@[simp] theorem is_dLinks_rows (l : List TLink) : is_dLinks (dLinks l) = true := c_dLinks.isL_rows l
@[simp] theorem is_dLinks_nil : is_dLinks [] = true := id rfl
@[simp] theorem is_dLinks_app (r q : List (List D)) : is_dLinks (r ++ q) = (is_dLinks r && is_dLinks q) := c_dLinks.isL_app r q
@[simp] theorem un_dLinks_rows (l : List TLink) : un_dLinks (dLinks l) = l := c_dLinks.unL_rows l
@[simp] theorem un_dLinks_nil : un_dLinks [] = [] := id rfl
@[simp] theorem un_dLinks_app (r q : List (List D)) : un_dLinks (r ++ q) = un_dLinks r ++ un_dLinks q := c_dLinks.unL_app r q
theorem rows_un_dLinks {r : List (List D)} (h : is_dLinks r = true) : dLinks (un_dLinks r) = r := c_dLinks.rows_unL h
@[simp] theorem dLinks_flat (l : List TLink) : rowsFlat (dLinks l) = true := c_dLinks.rows_flat (fun _ => rfl) l
structure TTurn where
  Kind : Int
  Name : ByteArray
  To : ByteArray
  Id : Int
def zTurn : TTurn := ⟨0, .empty, .empty, 0⟩
def c_dTurns : Codec TTurn where
  enc := fun x => [.a (.int .i64 x.Kind), .a (.string x.Name), .a (.string x.To), .a (.int .i64 x.Id)]
  is_ := fun | [.a (.int .i64 _), .a (.string _), .a (.string _), .a (.int .i64 _)] => true | _ => false
  dec := fun | [.a (.int .i64 x0), .a (.string x1), .a (.string x2), .a (.int .i64 x3)] => ⟨x0, x1, x2, x3⟩ | _ => zTurn
  k := 4
  len := fun _ => rfl
  one := fun x => by simp [oneD, Value.oneCell']
  ok := fun x => by simp
  back := fun x => by simp
  there := fun r h => by
    split at h
    · rfl
    · cases h
def dTurns (l : List TTurn) : List (List D) := c_dTurns.rows l
def is_dTurns (r : List (List D)) : Bool := c_dTurns.isL r
def un_dTurns (r : List (List D)) : List TTurn := c_dTurns.unL r
@[simp] theorem dTurns_len (l : List TTurn) : (dTurns l).length = l.length := c_dTurns.rows_len l
@[simp] theorem dTurns_app (l m : List TTurn) : dTurns (l ++ m) = dTurns l ++ dTurns m := c_dTurns.rows_app l m
@[simp] theorem dTurns_wid (l : List TTurn) : wid 4 (dTurns l) = true := c_dTurns.rows_wid l
theorem dTurns_get {l : List TTurn} {j : Nat} (h : j < l.length) : (dTurns l)[j]? = some ((fun x => [.a (.int .i64 x.Kind), .a (.string x.Name), .a (.string x.To), .a (.int .i64 x.Id)]) l[j]) := c_dTurns.rows_get h
@[simp] theorem dTurns_at {l : List TTurn} {j : Nat} (h : j < (dTurns l).length) : (dTurns l)[j] = (fun x => [.a (.int .i64 x.Kind), .a (.string x.Name), .a (.string x.To), .a (.int .i64 x.Id)]) (l[j]'(by simpa using h)) := by
  have h2 := dTurns_get (l := l) (j := j) (by simpa using h)
  rw [List.getElem?_eq_getElem h] at h2; injection h2
@[simp] theorem dTurns_drop (l : List TTurn) (i : Nat) : (dTurns l).drop i = dTurns (l.drop i) := c_dTurns.rows_drop l i
@[simp] theorem dTurns_take (l : List TTurn) (i : Nat) : (dTurns l).take i = dTurns (l.take i) := c_dTurns.rows_take l i
@[simp] theorem is_dTurns_rows (l : List TTurn) : is_dTurns (dTurns l) = true := c_dTurns.isL_rows l
@[simp] theorem is_dTurns_nil : is_dTurns [] = true := id rfl
@[simp] theorem is_dTurns_app (r q : List (List D)) : is_dTurns (r ++ q) = (is_dTurns r && is_dTurns q) := c_dTurns.isL_app r q
@[simp] theorem un_dTurns_rows (l : List TTurn) : un_dTurns (dTurns l) = l := c_dTurns.unL_rows l
@[simp] theorem un_dTurns_nil : un_dTurns [] = [] := id rfl
@[simp] theorem un_dTurns_app (r q : List (List D)) : un_dTurns (r ++ q) = un_dTurns r ++ un_dTurns q := c_dTurns.unL_app r q
theorem rows_un_dTurns {r : List (List D)} (h : is_dTurns r = true) : dTurns (un_dTurns r) = r := c_dTurns.rows_unL h
@[simp] theorem dTurns_flat (l : List TTurn) : rowsFlat (dTurns l) = true := c_dTurns.rows_flat (fun _ => rfl) l
structure TDisk where
  Room : Int
  Fuse : Int
  Next : Int
  Nodes : List TNode
  Kept : List TLink
  Turns : List TTurn
def zDisk : TDisk := ⟨0, 0, 0, [], [], []⟩
def c_dDisks : Codec TDisk where
  enc := fun x => [.a (.int .i64 x.Room), .a (.int .i64 x.Fuse), .a (.int .i64 x.Next), .l (dNodes x.Nodes), .l (dLinks x.Kept), .l (dTurns x.Turns)]
  is_ := fun | [.a (.int .i64 _), .a (.int .i64 _), .a (.int .i64 _), .l r3, .l r4, .l r5] => is_dNodes r3 && is_dLinks r4 && is_dTurns r5 | _ => false
  dec := fun | [.a (.int .i64 x0), .a (.int .i64 x1), .a (.int .i64 x2), .l r3, .l r4, .l r5] => ⟨x0, x1, x2, un_dNodes r3, un_dLinks r4, un_dTurns r5⟩ | _ => zDisk
  k := 6
  len := fun _ => rfl
  one := fun x => by simp [oneD, Value.oneCell']
  ok := fun x => by simp
  back := fun x => by simp
  there := fun r h => by
    split at h
    · simp only [Bool.and_eq_true] at h; simp [rows_un_dNodes h.1.1, rows_un_dLinks h.1.2, rows_un_dTurns h.2]
    · cases h
def dDisks (l : List TDisk) : List (List D) := c_dDisks.rows l
def is_dDisks (r : List (List D)) : Bool := c_dDisks.isL r
def un_dDisks (r : List (List D)) : List TDisk := c_dDisks.unL r
@[simp] theorem dDisks_len (l : List TDisk) : (dDisks l).length = l.length := c_dDisks.rows_len l
@[simp] theorem dDisks_app (l m : List TDisk) : dDisks (l ++ m) = dDisks l ++ dDisks m := c_dDisks.rows_app l m
@[simp] theorem dDisks_wid (l : List TDisk) : wid 6 (dDisks l) = true := c_dDisks.rows_wid l
theorem dDisks_get {l : List TDisk} {j : Nat} (h : j < l.length) : (dDisks l)[j]? = some ((fun x => [.a (.int .i64 x.Room), .a (.int .i64 x.Fuse), .a (.int .i64 x.Next), .l (dNodes x.Nodes), .l (dLinks x.Kept), .l (dTurns x.Turns)]) l[j]) := c_dDisks.rows_get h
@[simp] theorem dDisks_at {l : List TDisk} {j : Nat} (h : j < (dDisks l).length) : (dDisks l)[j] = (fun x => [.a (.int .i64 x.Room), .a (.int .i64 x.Fuse), .a (.int .i64 x.Next), .l (dNodes x.Nodes), .l (dLinks x.Kept), .l (dTurns x.Turns)]) (l[j]'(by simpa using h)) := by
  have h2 := dDisks_get (l := l) (j := j) (by simpa using h)
  rw [List.getElem?_eq_getElem h] at h2; injection h2
@[simp] theorem dDisks_drop (l : List TDisk) (i : Nat) : (dDisks l).drop i = dDisks (l.drop i) := c_dDisks.rows_drop l i
@[simp] theorem dDisks_take (l : List TDisk) (i : Nat) : (dDisks l).take i = dDisks (l.take i) := c_dDisks.rows_take l i
@[simp] theorem is_dDisks_rows (l : List TDisk) : is_dDisks (dDisks l) = true := c_dDisks.isL_rows l
@[simp] theorem is_dDisks_nil : is_dDisks [] = true := id rfl
@[simp] theorem is_dDisks_app (r q : List (List D)) : is_dDisks (r ++ q) = (is_dDisks r && is_dDisks q) := c_dDisks.isL_app r q
@[simp] theorem un_dDisks_rows (l : List TDisk) : un_dDisks (dDisks l) = l := c_dDisks.unL_rows l
@[simp] theorem un_dDisks_nil : un_dDisks [] = [] := id rfl
@[simp] theorem un_dDisks_app (r q : List (List D)) : un_dDisks (r ++ q) = un_dDisks r ++ un_dDisks q := c_dDisks.unL_app r q
structure TOp where
  Kind : Int
  Name : ByteArray
  To : ByteArray
  Size : Int
  Data : List UInt8
def zOp : TOp := ⟨0, .empty, .empty, 0, []⟩
def c_dOps : Codec TOp where
  enc := fun x => [.a (.int .i64 x.Kind), .a (.string x.Name), .a (.string x.To), .a (.int .i64 x.Size), .l (byts x.Data)]
  is_ := fun | [.a (.int .i64 _), .a (.string _), .a (.string _), .a (.int .i64 _), .l r4] => is_byts r4 | _ => false
  dec := fun | [.a (.int .i64 x0), .a (.string x1), .a (.string x2), .a (.int .i64 x3), .l r4] => ⟨x0, x1, x2, x3, un_byts r4⟩ | _ => zOp
  k := 5
  len := fun _ => rfl
  one := fun x => by simp [oneD, Value.oneCell']
  ok := fun x => by simp
  back := fun x => by simp
  there := fun r h => by
    split at h
    · simp only [rows_un_byts h]
    · cases h
def dOps (l : List TOp) : List (List D) := c_dOps.rows l
def is_dOps (r : List (List D)) : Bool := c_dOps.isL r
def un_dOps (r : List (List D)) : List TOp := c_dOps.unL r
@[simp] theorem dOps_len (l : List TOp) : (dOps l).length = l.length := c_dOps.rows_len l
@[simp] theorem dOps_app (l m : List TOp) : dOps (l ++ m) = dOps l ++ dOps m := c_dOps.rows_app l m
@[simp] theorem dOps_wid (l : List TOp) : wid 5 (dOps l) = true := c_dOps.rows_wid l
theorem dOps_get {l : List TOp} {j : Nat} (h : j < l.length) : (dOps l)[j]? = some ((fun x => [.a (.int .i64 x.Kind), .a (.string x.Name), .a (.string x.To), .a (.int .i64 x.Size), .l (byts x.Data)]) l[j]) := c_dOps.rows_get h
@[simp] theorem dOps_at {l : List TOp} {j : Nat} (h : j < (dOps l).length) : (dOps l)[j] = (fun x => [.a (.int .i64 x.Kind), .a (.string x.Name), .a (.string x.To), .a (.int .i64 x.Size), .l (byts x.Data)]) (l[j]'(by simpa using h)) := by
  have h2 := dOps_get (l := l) (j := j) (by simpa using h)
  rw [List.getElem?_eq_getElem h] at h2; injection h2
@[simp] theorem dOps_drop (l : List TOp) (i : Nat) : (dOps l).drop i = dOps (l.drop i) := c_dOps.rows_drop l i
@[simp] theorem dOps_take (l : List TOp) (i : Nat) : (dOps l).take i = dOps (l.take i) := c_dOps.rows_take l i
@[simp] theorem is_dOps_rows (l : List TOp) : is_dOps (dOps l) = true := c_dOps.isL_rows l
@[simp] theorem is_dOps_nil : is_dOps [] = true := id rfl
@[simp] theorem is_dOps_app (r q : List (List D)) : is_dOps (r ++ q) = (is_dOps r && is_dOps q) := c_dOps.isL_app r q
@[simp] theorem un_dOps_rows (l : List TOp) : un_dOps (dOps l) = l := c_dOps.unL_rows l
@[simp] theorem un_dOps_nil : un_dOps [] = [] := id rfl
@[simp] theorem un_dOps_app (r q : List (List D)) : un_dOps (r ++ q) = un_dOps r ++ un_dOps q := c_dOps.unL_app r q
structure TEntry where
  Num : Int
  Text : ByteArray
def zEntry : TEntry := ⟨0, .empty⟩
def c_dEntrys : Codec TEntry where
  enc := fun x => [.a (.int .i64 x.Num), .a (.string x.Text)]
  is_ := fun | [.a (.int .i64 _), .a (.string _)] => true | _ => false
  dec := fun | [.a (.int .i64 x0), .a (.string x1)] => ⟨x0, x1⟩ | _ => zEntry
  k := 2
  len := fun _ => rfl
  one := fun x => by simp [oneD, Value.oneCell']
  ok := fun x => by simp
  back := fun x => by simp
  there := fun r h => by
    split at h
    · rfl
    · cases h
def dEntrys (l : List TEntry) : List (List D) := c_dEntrys.rows l
def is_dEntrys (r : List (List D)) : Bool := c_dEntrys.isL r
def un_dEntrys (r : List (List D)) : List TEntry := c_dEntrys.unL r
@[simp] theorem dEntrys_len (l : List TEntry) : (dEntrys l).length = l.length := c_dEntrys.rows_len l
@[simp] theorem dEntrys_app (l m : List TEntry) : dEntrys (l ++ m) = dEntrys l ++ dEntrys m := c_dEntrys.rows_app l m
@[simp] theorem dEntrys_wid (l : List TEntry) : wid 2 (dEntrys l) = true := c_dEntrys.rows_wid l
theorem dEntrys_get {l : List TEntry} {j : Nat} (h : j < l.length) : (dEntrys l)[j]? = some ((fun x => [.a (.int .i64 x.Num), .a (.string x.Text)]) l[j]) := c_dEntrys.rows_get h
@[simp] theorem dEntrys_at {l : List TEntry} {j : Nat} (h : j < (dEntrys l).length) : (dEntrys l)[j] = (fun x => [.a (.int .i64 x.Num), .a (.string x.Text)]) (l[j]'(by simpa using h)) := by
  have h2 := dEntrys_get (l := l) (j := j) (by simpa using h)
  rw [List.getElem?_eq_getElem h] at h2; injection h2
@[simp] theorem dEntrys_drop (l : List TEntry) (i : Nat) : (dEntrys l).drop i = dEntrys (l.drop i) := c_dEntrys.rows_drop l i
@[simp] theorem dEntrys_take (l : List TEntry) (i : Nat) : (dEntrys l).take i = dEntrys (l.take i) := c_dEntrys.rows_take l i
@[simp] theorem is_dEntrys_rows (l : List TEntry) : is_dEntrys (dEntrys l) = true := c_dEntrys.isL_rows l
@[simp] theorem is_dEntrys_nil : is_dEntrys [] = true := id rfl
@[simp] theorem is_dEntrys_app (r q : List (List D)) : is_dEntrys (r ++ q) = (is_dEntrys r && is_dEntrys q) := c_dEntrys.isL_app r q
@[simp] theorem un_dEntrys_rows (l : List TEntry) : un_dEntrys (dEntrys l) = l := c_dEntrys.unL_rows l
@[simp] theorem un_dEntrys_nil : un_dEntrys [] = [] := id rfl
@[simp] theorem un_dEntrys_app (r q : List (List D)) : un_dEntrys (r ++ q) = un_dEntrys r ++ un_dEntrys q := c_dEntrys.unL_app r q
theorem rows_un_dEntrys {r : List (List D)} (h : is_dEntrys r = true) : dEntrys (un_dEntrys r) = r := c_dEntrys.rows_unL h
@[simp] theorem dEntrys_flat (l : List TEntry) : rowsFlat (dEntrys l) = true := c_dEntrys.rows_flat (fun _ => rfl) l
structure TStore where
  Disk : TDisk
  Keep : Int
  Size : Int
  List : List TEntry
  Len : Int
def zStore : TStore := ⟨⟨0, 0, 0, [], [], []⟩, 0, 0, [], 0⟩
def c_dStores : Codec TStore where
  enc := fun x => [.a (.int .i64 x.Disk.Room), .a (.int .i64 x.Disk.Fuse), .a (.int .i64 x.Disk.Next), .l (dNodes x.Disk.Nodes), .l (dLinks x.Disk.Kept), .l (dTurns x.Disk.Turns), .a (.int .i64 x.Keep), .a (.int .i64 x.Size), .l (dEntrys x.List), .a (.int .i64 x.Len)]
  is_ := fun | [.a (.int .i64 _), .a (.int .i64 _), .a (.int .i64 _), .l r3, .l r4, .l r5, .a (.int .i64 _), .a (.int .i64 _), .l r8, .a (.int .i64 _)] => is_dNodes r3 && is_dLinks r4 && is_dTurns r5 && is_dEntrys r8 | _ => false
  dec := fun | [.a (.int .i64 x0), .a (.int .i64 x1), .a (.int .i64 x2), .l r3, .l r4, .l r5, .a (.int .i64 x6), .a (.int .i64 x7), .l r8, .a (.int .i64 x9)] => ⟨⟨x0, x1, x2, un_dNodes r3, un_dLinks r4, un_dTurns r5⟩, x6, x7, un_dEntrys r8, x9⟩ | _ => zStore
  k := 10
  len := fun _ => rfl
  one := fun x => by simp [oneD, Value.oneCell']
  ok := fun x => by simp
  back := fun x => by simp
  there := fun r h => by
    split at h
    · simp only [Bool.and_eq_true] at h; simp [rows_un_dNodes h.1.1.1, rows_un_dLinks h.1.1.2, rows_un_dTurns h.1.2, rows_un_dEntrys h.2]
    · cases h
def dStores (l : List TStore) : List (List D) := c_dStores.rows l
def is_dStores (r : List (List D)) : Bool := c_dStores.isL r
def un_dStores (r : List (List D)) : List TStore := c_dStores.unL r
@[simp] theorem dStores_len (l : List TStore) : (dStores l).length = l.length := c_dStores.rows_len l
@[simp] theorem dStores_app (l m : List TStore) : dStores (l ++ m) = dStores l ++ dStores m := c_dStores.rows_app l m
@[simp] theorem dStores_wid (l : List TStore) : wid 10 (dStores l) = true := c_dStores.rows_wid l
theorem dStores_get {l : List TStore} {j : Nat} (h : j < l.length) : (dStores l)[j]? = some ((fun x => [.a (.int .i64 x.Disk.Room), .a (.int .i64 x.Disk.Fuse), .a (.int .i64 x.Disk.Next), .l (dNodes x.Disk.Nodes), .l (dLinks x.Disk.Kept), .l (dTurns x.Disk.Turns), .a (.int .i64 x.Keep), .a (.int .i64 x.Size), .l (dEntrys x.List), .a (.int .i64 x.Len)]) l[j]) := c_dStores.rows_get h
@[simp] theorem dStores_at {l : List TStore} {j : Nat} (h : j < (dStores l).length) : (dStores l)[j] = (fun x => [.a (.int .i64 x.Disk.Room), .a (.int .i64 x.Disk.Fuse), .a (.int .i64 x.Disk.Next), .l (dNodes x.Disk.Nodes), .l (dLinks x.Disk.Kept), .l (dTurns x.Disk.Turns), .a (.int .i64 x.Keep), .a (.int .i64 x.Size), .l (dEntrys x.List), .a (.int .i64 x.Len)]) (l[j]'(by simpa using h)) := by
  have h2 := dStores_get (l := l) (j := j) (by simpa using h)
  rw [List.getElem?_eq_getElem h] at h2; injection h2
@[simp] theorem dStores_drop (l : List TStore) (i : Nat) : (dStores l).drop i = dStores (l.drop i) := c_dStores.rows_drop l i
@[simp] theorem dStores_take (l : List TStore) (i : Nat) : (dStores l).take i = dStores (l.take i) := c_dStores.rows_take l i
@[simp] theorem is_dStores_rows (l : List TStore) : is_dStores (dStores l) = true := c_dStores.isL_rows l
@[simp] theorem is_dStores_nil : is_dStores [] = true := id rfl
@[simp] theorem is_dStores_app (r q : List (List D)) : is_dStores (r ++ q) = (is_dStores r && is_dStores q) := c_dStores.isL_app r q
@[simp] theorem un_dStores_rows (l : List TStore) : un_dStores (dStores l) = l := c_dStores.unL_rows l
@[simp] theorem un_dStores_nil : un_dStores [] = [] := id rfl
@[simp] theorem un_dStores_app (r q : List (List D)) : un_dStores (r ++ q) = un_dStores r ++ un_dStores q := c_dStores.unL_app r q
structure Tdoer where
  f_d : TDisk
  f_code : Int
def zdoer : Tdoer := ⟨⟨0, 0, 0, [], [], []⟩, 0⟩
def c_ddoers : Codec Tdoer where
  enc := fun x => [.a (.int .i64 x.f_d.Room), .a (.int .i64 x.f_d.Fuse), .a (.int .i64 x.f_d.Next), .l (dNodes x.f_d.Nodes), .l (dLinks x.f_d.Kept), .l (dTurns x.f_d.Turns), .a (.int .i64 x.f_code)]
  is_ := fun | [.a (.int .i64 _), .a (.int .i64 _), .a (.int .i64 _), .l r3, .l r4, .l r5, .a (.int .i64 _)] => is_dNodes r3 && is_dLinks r4 && is_dTurns r5 | _ => false
  dec := fun | [.a (.int .i64 x0), .a (.int .i64 x1), .a (.int .i64 x2), .l r3, .l r4, .l r5, .a (.int .i64 x6)] => ⟨⟨x0, x1, x2, un_dNodes r3, un_dLinks r4, un_dTurns r5⟩, x6⟩ | _ => zdoer
  k := 7
  len := fun _ => rfl
  one := fun x => by simp [oneD, Value.oneCell']
  ok := fun x => by simp
  back := fun x => by simp
  there := fun r h => by
    split at h
    · simp only [Bool.and_eq_true] at h; simp [rows_un_dNodes h.1.1, rows_un_dLinks h.1.2, rows_un_dTurns h.2]
    · cases h
def ddoers (l : List Tdoer) : List (List D) := c_ddoers.rows l
def is_ddoers (r : List (List D)) : Bool := c_ddoers.isL r
def un_ddoers (r : List (List D)) : List Tdoer := c_ddoers.unL r
@[simp] theorem ddoers_len (l : List Tdoer) : (ddoers l).length = l.length := c_ddoers.rows_len l
@[simp] theorem ddoers_app (l m : List Tdoer) : ddoers (l ++ m) = ddoers l ++ ddoers m := c_ddoers.rows_app l m
@[simp] theorem ddoers_wid (l : List Tdoer) : wid 7 (ddoers l) = true := c_ddoers.rows_wid l
theorem ddoers_get {l : List Tdoer} {j : Nat} (h : j < l.length) : (ddoers l)[j]? = some ((fun x => [.a (.int .i64 x.f_d.Room), .a (.int .i64 x.f_d.Fuse), .a (.int .i64 x.f_d.Next), .l (dNodes x.f_d.Nodes), .l (dLinks x.f_d.Kept), .l (dTurns x.f_d.Turns), .a (.int .i64 x.f_code)]) l[j]) := c_ddoers.rows_get h
@[simp] theorem ddoers_at {l : List Tdoer} {j : Nat} (h : j < (ddoers l).length) : (ddoers l)[j] = (fun x => [.a (.int .i64 x.f_d.Room), .a (.int .i64 x.f_d.Fuse), .a (.int .i64 x.f_d.Next), .l (dNodes x.f_d.Nodes), .l (dLinks x.f_d.Kept), .l (dTurns x.f_d.Turns), .a (.int .i64 x.f_code)]) (l[j]'(by simpa using h)) := by
  have h2 := ddoers_get (l := l) (j := j) (by simpa using h)
  rw [List.getElem?_eq_getElem h] at h2; injection h2
@[simp] theorem ddoers_drop (l : List Tdoer) (i : Nat) : (ddoers l).drop i = ddoers (l.drop i) := c_ddoers.rows_drop l i
@[simp] theorem ddoers_take (l : List Tdoer) (i : Nat) : (ddoers l).take i = ddoers (l.take i) := c_ddoers.rows_take l i
@[simp] theorem is_ddoers_rows (l : List Tdoer) : is_ddoers (ddoers l) = true := c_ddoers.isL_rows l
@[simp] theorem is_ddoers_nil : is_ddoers [] = true := id rfl
@[simp] theorem is_ddoers_app (r q : List (List D)) : is_ddoers (r ++ q) = (is_ddoers r && is_ddoers q) := c_ddoers.isL_app r q
@[simp] theorem un_ddoers_rows (l : List Tdoer) : un_ddoers (ddoers l) = l := c_ddoers.unL_rows l
@[simp] theorem un_ddoers_nil : un_ddoers [] = [] := id rfl
@[simp] theorem un_ddoers_app (r q : List (List D)) : un_ddoers (r ++ q) = un_ddoers r ++ un_ddoers q := c_ddoers.unL_app r q
structure TTrial where
  Up : Bool
  Keep : Int
  Size : Int
  Store : TStore
  Disk : TDisk
  Sure : List TEntry
  Maybe : List TEntry
def zTrial : TTrial := ⟨false, 0, 0, ⟨⟨0, 0, 0, [], [], []⟩, 0, 0, [], 0⟩, ⟨0, 0, 0, [], [], []⟩, [], []⟩
def c_dTrials : Codec TTrial where
  enc := fun x => [.a (.bool x.Up), .a (.int .i64 x.Keep), .a (.int .i64 x.Size), .a (.int .i64 x.Store.Disk.Room), .a (.int .i64 x.Store.Disk.Fuse), .a (.int .i64 x.Store.Disk.Next), .l (dNodes x.Store.Disk.Nodes), .l (dLinks x.Store.Disk.Kept), .l (dTurns x.Store.Disk.Turns), .a (.int .i64 x.Store.Keep), .a (.int .i64 x.Store.Size), .l (dEntrys x.Store.List), .a (.int .i64 x.Store.Len), .a (.int .i64 x.Disk.Room), .a (.int .i64 x.Disk.Fuse), .a (.int .i64 x.Disk.Next), .l (dNodes x.Disk.Nodes), .l (dLinks x.Disk.Kept), .l (dTurns x.Disk.Turns), .l (dEntrys x.Sure), .l (dEntrys x.Maybe)]
  is_ := fun | [.a (.bool _), .a (.int .i64 _), .a (.int .i64 _), .a (.int .i64 _), .a (.int .i64 _), .a (.int .i64 _), .l r6, .l r7, .l r8, .a (.int .i64 _), .a (.int .i64 _), .l r11, .a (.int .i64 _), .a (.int .i64 _), .a (.int .i64 _), .a (.int .i64 _), .l r16, .l r17, .l r18, .l r19, .l r20] => is_dNodes r6 && is_dLinks r7 && is_dTurns r8 && is_dEntrys r11 && is_dNodes r16 && is_dLinks r17 && is_dTurns r18 && is_dEntrys r19 && is_dEntrys r20 | _ => false
  dec := fun | [.a (.bool x0), .a (.int .i64 x1), .a (.int .i64 x2), .a (.int .i64 x3), .a (.int .i64 x4), .a (.int .i64 x5), .l r6, .l r7, .l r8, .a (.int .i64 x9), .a (.int .i64 x10), .l r11, .a (.int .i64 x12), .a (.int .i64 x13), .a (.int .i64 x14), .a (.int .i64 x15), .l r16, .l r17, .l r18, .l r19, .l r20] => ⟨x0, x1, x2, ⟨⟨x3, x4, x5, un_dNodes r6, un_dLinks r7, un_dTurns r8⟩, x9, x10, un_dEntrys r11, x12⟩, ⟨x13, x14, x15, un_dNodes r16, un_dLinks r17, un_dTurns r18⟩, un_dEntrys r19, un_dEntrys r20⟩ | _ => zTrial
  k := 21
  len := fun _ => rfl
  one := fun x => by simp [oneD, Value.oneCell']
  ok := fun x => by simp
  back := fun x => by simp
  there := fun r h => by
    split at h
    · simp only [Bool.and_eq_true] at h; simp [rows_un_dNodes h.1.1.1.1.1.1.1.1, rows_un_dLinks h.1.1.1.1.1.1.1.2, rows_un_dTurns h.1.1.1.1.1.1.2, rows_un_dEntrys h.1.1.1.1.1.2, rows_un_dNodes h.1.1.1.1.2, rows_un_dLinks h.1.1.1.2, rows_un_dTurns h.1.1.2, rows_un_dEntrys h.1.2, rows_un_dEntrys h.2]
    · cases h
def dTrials (l : List TTrial) : List (List D) := c_dTrials.rows l
def is_dTrials (r : List (List D)) : Bool := c_dTrials.isL r
def un_dTrials (r : List (List D)) : List TTrial := c_dTrials.unL r
@[simp] theorem dTrials_len (l : List TTrial) : (dTrials l).length = l.length := c_dTrials.rows_len l
@[simp] theorem dTrials_app (l m : List TTrial) : dTrials (l ++ m) = dTrials l ++ dTrials m := c_dTrials.rows_app l m
@[simp] theorem dTrials_wid (l : List TTrial) : wid 21 (dTrials l) = true := c_dTrials.rows_wid l
theorem dTrials_get {l : List TTrial} {j : Nat} (h : j < l.length) : (dTrials l)[j]? = some ((fun x => [.a (.bool x.Up), .a (.int .i64 x.Keep), .a (.int .i64 x.Size), .a (.int .i64 x.Store.Disk.Room), .a (.int .i64 x.Store.Disk.Fuse), .a (.int .i64 x.Store.Disk.Next), .l (dNodes x.Store.Disk.Nodes), .l (dLinks x.Store.Disk.Kept), .l (dTurns x.Store.Disk.Turns), .a (.int .i64 x.Store.Keep), .a (.int .i64 x.Store.Size), .l (dEntrys x.Store.List), .a (.int .i64 x.Store.Len), .a (.int .i64 x.Disk.Room), .a (.int .i64 x.Disk.Fuse), .a (.int .i64 x.Disk.Next), .l (dNodes x.Disk.Nodes), .l (dLinks x.Disk.Kept), .l (dTurns x.Disk.Turns), .l (dEntrys x.Sure), .l (dEntrys x.Maybe)]) l[j]) := c_dTrials.rows_get h
@[simp] theorem dTrials_at {l : List TTrial} {j : Nat} (h : j < (dTrials l).length) : (dTrials l)[j] = (fun x => [.a (.bool x.Up), .a (.int .i64 x.Keep), .a (.int .i64 x.Size), .a (.int .i64 x.Store.Disk.Room), .a (.int .i64 x.Store.Disk.Fuse), .a (.int .i64 x.Store.Disk.Next), .l (dNodes x.Store.Disk.Nodes), .l (dLinks x.Store.Disk.Kept), .l (dTurns x.Store.Disk.Turns), .a (.int .i64 x.Store.Keep), .a (.int .i64 x.Store.Size), .l (dEntrys x.Store.List), .a (.int .i64 x.Store.Len), .a (.int .i64 x.Disk.Room), .a (.int .i64 x.Disk.Fuse), .a (.int .i64 x.Disk.Next), .l (dNodes x.Disk.Nodes), .l (dLinks x.Disk.Kept), .l (dTurns x.Disk.Turns), .l (dEntrys x.Sure), .l (dEntrys x.Maybe)]) (l[j]'(by simpa using h)) := by
  have h2 := dTrials_get (l := l) (j := j) (by simpa using h)
  rw [List.getElem?_eq_getElem h] at h2; injection h2
@[simp] theorem dTrials_drop (l : List TTrial) (i : Nat) : (dTrials l).drop i = dTrials (l.drop i) := c_dTrials.rows_drop l i
@[simp] theorem dTrials_take (l : List TTrial) (i : Nat) : (dTrials l).take i = dTrials (l.take i) := c_dTrials.rows_take l i
@[simp] theorem is_dTrials_rows (l : List TTrial) : is_dTrials (dTrials l) = true := c_dTrials.isL_rows l
@[simp] theorem is_dTrials_nil : is_dTrials [] = true := id rfl
@[simp] theorem is_dTrials_app (r q : List (List D)) : is_dTrials (r ++ q) = (is_dTrials r && is_dTrials q) := c_dTrials.isL_app r q
@[simp] theorem un_dTrials_rows (l : List TTrial) : un_dTrials (dTrials l) = l := c_dTrials.unL_rows l
@[simp] theorem un_dTrials_nil : un_dTrials [] = [] := id rfl
@[simp] theorem un_dTrials_app (r q : List (List D)) : un_dTrials (r ++ q) = un_dTrials r ++ un_dTrials q := c_dTrials.unL_app r q
structure TTrialStep where
  Kind : Int
  Text : ByteArray
  A : Int
  Cuts : List Int
def zTrialStep : TTrialStep := ⟨0, .empty, 0, []⟩
def c_dTrialSteps : Codec TTrialStep where
  enc := fun x => [.a (.int .i64 x.Kind), .a (.string x.Text), .a (.int .i64 x.A), .l (ints x.Cuts)]
  is_ := fun | [.a (.int .i64 _), .a (.string _), .a (.int .i64 _), .l r3] => is_ints r3 | _ => false
  dec := fun | [.a (.int .i64 x0), .a (.string x1), .a (.int .i64 x2), .l r3] => ⟨x0, x1, x2, un_ints r3⟩ | _ => zTrialStep
  k := 4
  len := fun _ => rfl
  one := fun x => by simp [oneD, Value.oneCell']
  ok := fun x => by simp
  back := fun x => by simp
  there := fun r h => by
    split at h
    · simp only [rows_un_ints h]
    · cases h
def dTrialSteps (l : List TTrialStep) : List (List D) := c_dTrialSteps.rows l
def is_dTrialSteps (r : List (List D)) : Bool := c_dTrialSteps.isL r
def un_dTrialSteps (r : List (List D)) : List TTrialStep := c_dTrialSteps.unL r
@[simp] theorem dTrialSteps_len (l : List TTrialStep) : (dTrialSteps l).length = l.length := c_dTrialSteps.rows_len l
@[simp] theorem dTrialSteps_app (l m : List TTrialStep) : dTrialSteps (l ++ m) = dTrialSteps l ++ dTrialSteps m := c_dTrialSteps.rows_app l m
@[simp] theorem dTrialSteps_wid (l : List TTrialStep) : wid 4 (dTrialSteps l) = true := c_dTrialSteps.rows_wid l
theorem dTrialSteps_get {l : List TTrialStep} {j : Nat} (h : j < l.length) : (dTrialSteps l)[j]? = some ((fun x => [.a (.int .i64 x.Kind), .a (.string x.Text), .a (.int .i64 x.A), .l (ints x.Cuts)]) l[j]) := c_dTrialSteps.rows_get h
@[simp] theorem dTrialSteps_at {l : List TTrialStep} {j : Nat} (h : j < (dTrialSteps l).length) : (dTrialSteps l)[j] = (fun x => [.a (.int .i64 x.Kind), .a (.string x.Text), .a (.int .i64 x.A), .l (ints x.Cuts)]) (l[j]'(by simpa using h)) := by
  have h2 := dTrialSteps_get (l := l) (j := j) (by simpa using h)
  rw [List.getElem?_eq_getElem h] at h2; injection h2
@[simp] theorem dTrialSteps_drop (l : List TTrialStep) (i : Nat) : (dTrialSteps l).drop i = dTrialSteps (l.drop i) := c_dTrialSteps.rows_drop l i
@[simp] theorem dTrialSteps_take (l : List TTrialStep) (i : Nat) : (dTrialSteps l).take i = dTrialSteps (l.take i) := c_dTrialSteps.rows_take l i
@[simp] theorem is_dTrialSteps_rows (l : List TTrialStep) : is_dTrialSteps (dTrialSteps l) = true := c_dTrialSteps.isL_rows l
@[simp] theorem is_dTrialSteps_nil : is_dTrialSteps [] = true := id rfl
@[simp] theorem is_dTrialSteps_app (r q : List (List D)) : is_dTrialSteps (r ++ q) = (is_dTrialSteps r && is_dTrialSteps q) := c_dTrialSteps.isL_app r q
@[simp] theorem un_dTrialSteps_rows (l : List TTrialStep) : un_dTrialSteps (dTrialSteps l) = l := c_dTrialSteps.unL_rows l
@[simp] theorem un_dTrialSteps_nil : un_dTrialSteps [] = [] := id rfl
@[simp] theorem un_dTrialSteps_app (r q : List (List D)) : un_dTrialSteps (r ++ q) = un_dTrialSteps r ++ un_dTrialSteps q := c_dTrialSteps.unL_app r q
structure TGrid where
  W : Int
  H : Int
  Cells : List Int
  X : Int
  Y : Int
  Wrap : Bool
def zGrid : TGrid := ⟨0, 0, [], 0, 0, false⟩
def c_dGrids : Codec TGrid where
  enc := fun x => [.a (.int .i64 x.W), .a (.int .i64 x.H), .l (ints x.Cells), .a (.int .i64 x.X), .a (.int .i64 x.Y), .a (.bool x.Wrap)]
  is_ := fun | [.a (.int .i64 _), .a (.int .i64 _), .l r2, .a (.int .i64 _), .a (.int .i64 _), .a (.bool _)] => is_ints r2 | _ => false
  dec := fun | [.a (.int .i64 x0), .a (.int .i64 x1), .l r2, .a (.int .i64 x3), .a (.int .i64 x4), .a (.bool x5)] => ⟨x0, x1, un_ints r2, x3, x4, x5⟩ | _ => zGrid
  k := 6
  len := fun _ => rfl
  one := fun x => by simp [oneD, Value.oneCell']
  ok := fun x => by simp
  back := fun x => by simp
  there := fun r h => by
    split at h
    · simp only [rows_un_ints h]
    · cases h
def dGrids (l : List TGrid) : List (List D) := c_dGrids.rows l
def is_dGrids (r : List (List D)) : Bool := c_dGrids.isL r
def un_dGrids (r : List (List D)) : List TGrid := c_dGrids.unL r
@[simp] theorem dGrids_len (l : List TGrid) : (dGrids l).length = l.length := c_dGrids.rows_len l
@[simp] theorem dGrids_app (l m : List TGrid) : dGrids (l ++ m) = dGrids l ++ dGrids m := c_dGrids.rows_app l m
@[simp] theorem dGrids_wid (l : List TGrid) : wid 6 (dGrids l) = true := c_dGrids.rows_wid l
theorem dGrids_get {l : List TGrid} {j : Nat} (h : j < l.length) : (dGrids l)[j]? = some ((fun x => [.a (.int .i64 x.W), .a (.int .i64 x.H), .l (ints x.Cells), .a (.int .i64 x.X), .a (.int .i64 x.Y), .a (.bool x.Wrap)]) l[j]) := c_dGrids.rows_get h
@[simp] theorem dGrids_at {l : List TGrid} {j : Nat} (h : j < (dGrids l).length) : (dGrids l)[j] = (fun x => [.a (.int .i64 x.W), .a (.int .i64 x.H), .l (ints x.Cells), .a (.int .i64 x.X), .a (.int .i64 x.Y), .a (.bool x.Wrap)]) (l[j]'(by simpa using h)) := by
  have h2 := dGrids_get (l := l) (j := j) (by simpa using h)
  rw [List.getElem?_eq_getElem h] at h2; injection h2
@[simp] theorem dGrids_drop (l : List TGrid) (i : Nat) : (dGrids l).drop i = dGrids (l.drop i) := c_dGrids.rows_drop l i
@[simp] theorem dGrids_take (l : List TGrid) (i : Nat) : (dGrids l).take i = dGrids (l.take i) := c_dGrids.rows_take l i
@[simp] theorem is_dGrids_rows (l : List TGrid) : is_dGrids (dGrids l) = true := c_dGrids.isL_rows l
@[simp] theorem is_dGrids_nil : is_dGrids [] = true := id rfl
@[simp] theorem is_dGrids_app (r q : List (List D)) : is_dGrids (r ++ q) = (is_dGrids r && is_dGrids q) := c_dGrids.isL_app r q
@[simp] theorem un_dGrids_rows (l : List TGrid) : un_dGrids (dGrids l) = l := c_dGrids.unL_rows l
@[simp] theorem un_dGrids_nil : un_dGrids [] = [] := id rfl
@[simp] theorem un_dGrids_app (r q : List (List D)) : un_dGrids (r ++ q) = un_dGrids r ++ un_dGrids q := c_dGrids.unL_app r q
structure TVt where
  Grid : TGrid
  State : Int
  Args : List Int
  Part : List UInt8
  Bells : Int
def zVt : TVt := ⟨⟨0, 0, [], 0, 0, false⟩, 0, [], [], 0⟩
def c_dVts : Codec TVt where
  enc := fun x => [.a (.int .i64 x.Grid.W), .a (.int .i64 x.Grid.H), .l (ints x.Grid.Cells), .a (.int .i64 x.Grid.X), .a (.int .i64 x.Grid.Y), .a (.bool x.Grid.Wrap), .a (.int .i64 x.State), .l (ints x.Args), .l (byts x.Part), .a (.int .i64 x.Bells)]
  is_ := fun | [.a (.int .i64 _), .a (.int .i64 _), .l r2, .a (.int .i64 _), .a (.int .i64 _), .a (.bool _), .a (.int .i64 _), .l r7, .l r8, .a (.int .i64 _)] => is_ints r2 && is_ints r7 && is_byts r8 | _ => false
  dec := fun | [.a (.int .i64 x0), .a (.int .i64 x1), .l r2, .a (.int .i64 x3), .a (.int .i64 x4), .a (.bool x5), .a (.int .i64 x6), .l r7, .l r8, .a (.int .i64 x9)] => ⟨⟨x0, x1, un_ints r2, x3, x4, x5⟩, x6, un_ints r7, un_byts r8, x9⟩ | _ => zVt
  k := 10
  len := fun _ => rfl
  one := fun x => by simp [oneD, Value.oneCell']
  ok := fun x => by simp
  back := fun x => by simp
  there := fun r h => by
    split at h
    · simp only [Bool.and_eq_true] at h; simp [rows_un_ints h.1.1, rows_un_ints h.1.2, rows_un_byts h.2]
    · cases h
def dVts (l : List TVt) : List (List D) := c_dVts.rows l
def is_dVts (r : List (List D)) : Bool := c_dVts.isL r
def un_dVts (r : List (List D)) : List TVt := c_dVts.unL r
@[simp] theorem dVts_len (l : List TVt) : (dVts l).length = l.length := c_dVts.rows_len l
@[simp] theorem dVts_app (l m : List TVt) : dVts (l ++ m) = dVts l ++ dVts m := c_dVts.rows_app l m
@[simp] theorem dVts_wid (l : List TVt) : wid 10 (dVts l) = true := c_dVts.rows_wid l
theorem dVts_get {l : List TVt} {j : Nat} (h : j < l.length) : (dVts l)[j]? = some ((fun x => [.a (.int .i64 x.Grid.W), .a (.int .i64 x.Grid.H), .l (ints x.Grid.Cells), .a (.int .i64 x.Grid.X), .a (.int .i64 x.Grid.Y), .a (.bool x.Grid.Wrap), .a (.int .i64 x.State), .l (ints x.Args), .l (byts x.Part), .a (.int .i64 x.Bells)]) l[j]) := c_dVts.rows_get h
@[simp] theorem dVts_at {l : List TVt} {j : Nat} (h : j < (dVts l).length) : (dVts l)[j] = (fun x => [.a (.int .i64 x.Grid.W), .a (.int .i64 x.Grid.H), .l (ints x.Grid.Cells), .a (.int .i64 x.Grid.X), .a (.int .i64 x.Grid.Y), .a (.bool x.Grid.Wrap), .a (.int .i64 x.State), .l (ints x.Args), .l (byts x.Part), .a (.int .i64 x.Bells)]) (l[j]'(by simpa using h)) := by
  have h2 := dVts_get (l := l) (j := j) (by simpa using h)
  rw [List.getElem?_eq_getElem h] at h2; injection h2
@[simp] theorem dVts_drop (l : List TVt) (i : Nat) : (dVts l).drop i = dVts (l.drop i) := c_dVts.rows_drop l i
@[simp] theorem dVts_take (l : List TVt) (i : Nat) : (dVts l).take i = dVts (l.take i) := c_dVts.rows_take l i
@[simp] theorem is_dVts_rows (l : List TVt) : is_dVts (dVts l) = true := c_dVts.isL_rows l
@[simp] theorem is_dVts_nil : is_dVts [] = true := id rfl
@[simp] theorem is_dVts_app (r q : List (List D)) : is_dVts (r ++ q) = (is_dVts r && is_dVts q) := c_dVts.isL_app r q
@[simp] theorem un_dVts_rows (l : List TVt) : un_dVts (dVts l) = l := c_dVts.unL_rows l
@[simp] theorem un_dVts_nil : un_dVts [] = [] := id rfl
@[simp] theorem un_dVts_app (r q : List (List D)) : un_dVts (r ++ q) = un_dVts r ++ un_dVts q := c_dVts.unL_app r q
structure TKey where
  Kind : Int
  R : Int
def zKey : TKey := ⟨0, 0⟩
def c_dKeys : Codec TKey where
  enc := fun x => [.a (.int .i64 x.Kind), .a (.int .i64 x.R)]
  is_ := fun | [.a (.int .i64 _), .a (.int .i64 _)] => true | _ => false
  dec := fun | [.a (.int .i64 x0), .a (.int .i64 x1)] => ⟨x0, x1⟩ | _ => zKey
  k := 2
  len := fun _ => rfl
  one := fun x => by simp [oneD, Value.oneCell']
  ok := fun x => by simp
  back := fun x => by simp
  there := fun r h => by
    split at h
    · rfl
    · cases h
def dKeys (l : List TKey) : List (List D) := c_dKeys.rows l
def is_dKeys (r : List (List D)) : Bool := c_dKeys.isL r
def un_dKeys (r : List (List D)) : List TKey := c_dKeys.unL r
@[simp] theorem dKeys_len (l : List TKey) : (dKeys l).length = l.length := c_dKeys.rows_len l
@[simp] theorem dKeys_app (l m : List TKey) : dKeys (l ++ m) = dKeys l ++ dKeys m := c_dKeys.rows_app l m
@[simp] theorem dKeys_wid (l : List TKey) : wid 2 (dKeys l) = true := c_dKeys.rows_wid l
theorem dKeys_get {l : List TKey} {j : Nat} (h : j < l.length) : (dKeys l)[j]? = some ((fun x => [.a (.int .i64 x.Kind), .a (.int .i64 x.R)]) l[j]) := c_dKeys.rows_get h
@[simp] theorem dKeys_at {l : List TKey} {j : Nat} (h : j < (dKeys l).length) : (dKeys l)[j] = (fun x => [.a (.int .i64 x.Kind), .a (.int .i64 x.R)]) (l[j]'(by simpa using h)) := by
  have h2 := dKeys_get (l := l) (j := j) (by simpa using h)
  rw [List.getElem?_eq_getElem h] at h2; injection h2
@[simp] theorem dKeys_drop (l : List TKey) (i : Nat) : (dKeys l).drop i = dKeys (l.drop i) := c_dKeys.rows_drop l i
@[simp] theorem dKeys_take (l : List TKey) (i : Nat) : (dKeys l).take i = dKeys (l.take i) := c_dKeys.rows_take l i
@[simp] theorem is_dKeys_rows (l : List TKey) : is_dKeys (dKeys l) = true := c_dKeys.isL_rows l
@[simp] theorem is_dKeys_nil : is_dKeys [] = true := id rfl
@[simp] theorem is_dKeys_app (r q : List (List D)) : is_dKeys (r ++ q) = (is_dKeys r && is_dKeys q) := c_dKeys.isL_app r q
@[simp] theorem un_dKeys_rows (l : List TKey) : un_dKeys (dKeys l) = l := c_dKeys.unL_rows l
@[simp] theorem un_dKeys_nil : un_dKeys [] = [] := id rfl
@[simp] theorem un_dKeys_app (r q : List (List D)) : un_dKeys (r ++ q) = un_dKeys r ++ un_dKeys q := c_dKeys.unL_app r q
theorem dKeys_snoc (l : List TKey) (x : TKey) : dKeys l ++ [[.a (.int .i64 x.Kind), .a (.int .i64 x.R)]] = dKeys (l ++ [x]) := ((c_dKeys.rows_app l [x]).trans rfl).symm
@[simp] theorem dKeys_flat (l : List TKey) : rowsFlat (dKeys l) = true := c_dKeys.rows_flat (fun _ => rfl) l
structure TDec where
  State : Int
  Part : List UInt8
def zDec : TDec := ⟨0, []⟩
def c_dDecs : Codec TDec where
  enc := fun x => [.a (.int .i64 x.State), .l (byts x.Part)]
  is_ := fun | [.a (.int .i64 _), .l r1] => is_byts r1 | _ => false
  dec := fun | [.a (.int .i64 x0), .l r1] => ⟨x0, un_byts r1⟩ | _ => zDec
  k := 2
  len := fun _ => rfl
  one := fun x => by simp [oneD, Value.oneCell']
  ok := fun x => by simp
  back := fun x => by simp
  there := fun r h => by
    split at h
    · simp only [rows_un_byts h]
    · cases h
def dDecs (l : List TDec) : List (List D) := c_dDecs.rows l
def is_dDecs (r : List (List D)) : Bool := c_dDecs.isL r
def un_dDecs (r : List (List D)) : List TDec := c_dDecs.unL r
@[simp] theorem dDecs_len (l : List TDec) : (dDecs l).length = l.length := c_dDecs.rows_len l
@[simp] theorem dDecs_app (l m : List TDec) : dDecs (l ++ m) = dDecs l ++ dDecs m := c_dDecs.rows_app l m
@[simp] theorem dDecs_wid (l : List TDec) : wid 2 (dDecs l) = true := c_dDecs.rows_wid l
theorem dDecs_get {l : List TDec} {j : Nat} (h : j < l.length) : (dDecs l)[j]? = some ((fun x => [.a (.int .i64 x.State), .l (byts x.Part)]) l[j]) := c_dDecs.rows_get h
@[simp] theorem dDecs_at {l : List TDec} {j : Nat} (h : j < (dDecs l).length) : (dDecs l)[j] = (fun x => [.a (.int .i64 x.State), .l (byts x.Part)]) (l[j]'(by simpa using h)) := by
  have h2 := dDecs_get (l := l) (j := j) (by simpa using h)
  rw [List.getElem?_eq_getElem h] at h2; injection h2
@[simp] theorem dDecs_drop (l : List TDec) (i : Nat) : (dDecs l).drop i = dDecs (l.drop i) := c_dDecs.rows_drop l i
@[simp] theorem dDecs_take (l : List TDec) (i : Nat) : (dDecs l).take i = dDecs (l.take i) := c_dDecs.rows_take l i
@[simp] theorem is_dDecs_rows (l : List TDec) : is_dDecs (dDecs l) = true := c_dDecs.isL_rows l
@[simp] theorem is_dDecs_nil : is_dDecs [] = true := id rfl
@[simp] theorem is_dDecs_app (r q : List (List D)) : is_dDecs (r ++ q) = (is_dDecs r && is_dDecs q) := c_dDecs.isL_app r q
@[simp] theorem un_dDecs_rows (l : List TDec) : un_dDecs (dDecs l) = l := c_dDecs.unL_rows l
@[simp] theorem un_dDecs_nil : un_dDecs [] = [] := id rfl
@[simp] theorem un_dDecs_app (r q : List (List D)) : un_dDecs (r ++ q) = un_dDecs r ++ un_dDecs q := c_dDecs.unL_app r q
structure TLine where
  Text : List Int
  At : Int
def zLine : TLine := ⟨[], 0⟩
def c_dLines : Codec TLine where
  enc := fun x => [.l (ints x.Text), .a (.int .i64 x.At)]
  is_ := fun | [.l r0, .a (.int .i64 _)] => is_ints r0 | _ => false
  dec := fun | [.l r0, .a (.int .i64 x1)] => ⟨un_ints r0, x1⟩ | _ => zLine
  k := 2
  len := fun _ => rfl
  one := fun x => by simp [oneD, Value.oneCell']
  ok := fun x => by simp
  back := fun x => by simp
  there := fun r h => by
    split at h
    · simp only [rows_un_ints h]
    · cases h
def dLines (l : List TLine) : List (List D) := c_dLines.rows l
def is_dLines (r : List (List D)) : Bool := c_dLines.isL r
def un_dLines (r : List (List D)) : List TLine := c_dLines.unL r
@[simp] theorem dLines_len (l : List TLine) : (dLines l).length = l.length := c_dLines.rows_len l
@[simp] theorem dLines_app (l m : List TLine) : dLines (l ++ m) = dLines l ++ dLines m := c_dLines.rows_app l m
@[simp] theorem dLines_wid (l : List TLine) : wid 2 (dLines l) = true := c_dLines.rows_wid l
theorem dLines_get {l : List TLine} {j : Nat} (h : j < l.length) : (dLines l)[j]? = some ((fun x => [.l (ints x.Text), .a (.int .i64 x.At)]) l[j]) := c_dLines.rows_get h
@[simp] theorem dLines_at {l : List TLine} {j : Nat} (h : j < (dLines l).length) : (dLines l)[j] = (fun x => [.l (ints x.Text), .a (.int .i64 x.At)]) (l[j]'(by simpa using h)) := by
  have h2 := dLines_get (l := l) (j := j) (by simpa using h)
  rw [List.getElem?_eq_getElem h] at h2; injection h2
@[simp] theorem dLines_drop (l : List TLine) (i : Nat) : (dLines l).drop i = dLines (l.drop i) := c_dLines.rows_drop l i
@[simp] theorem dLines_take (l : List TLine) (i : Nat) : (dLines l).take i = dLines (l.take i) := c_dLines.rows_take l i
@[simp] theorem is_dLines_rows (l : List TLine) : is_dLines (dLines l) = true := c_dLines.isL_rows l
@[simp] theorem is_dLines_nil : is_dLines [] = true := id rfl
@[simp] theorem is_dLines_app (r q : List (List D)) : is_dLines (r ++ q) = (is_dLines r && is_dLines q) := c_dLines.isL_app r q
@[simp] theorem un_dLines_rows (l : List TLine) : un_dLines (dLines l) = l := c_dLines.unL_rows l
@[simp] theorem un_dLines_nil : un_dLines [] = [] := id rfl
@[simp] theorem un_dLines_app (r q : List (List D)) : un_dLines (r ++ q) = un_dLines r ++ un_dLines q := c_dLines.unL_app r q
theorem rows_un_dLines {r : List (List D)} (h : is_dLines r = true) : dLines (un_dLines r) = r := c_dLines.rows_unL h
theorem dLines_cons (x : TLine) (l : List TLine) : dLines (x :: l) = [.l (ints x.Text), .a (.int .i64 x.At)] :: dLines l := rfl
theorem dLines_snoc (l : List TLine) (x : TLine) : dLines l ++ [[.l (ints x.Text), .a (.int .i64 x.At)]] = dLines (l ++ [x]) := ((c_dLines.rows_app l [x]).trans rfl).symm
structure TPiece where
  Text : List Int
def zPiece : TPiece := ⟨[]⟩
def c_dPieces : Codec TPiece where
  enc := fun x => [.l (ints x.Text)]
  is_ := fun | [.l r0] => is_ints r0 | _ => false
  dec := fun | [.l r0] => ⟨un_ints r0⟩ | _ => zPiece
  k := 1
  len := fun _ => rfl
  one := fun x => by simp [oneD, Value.oneCell']
  ok := fun x => by simp
  back := fun x => by simp
  there := fun r h => by
    split at h
    · simp only [rows_un_ints h]
    · cases h
def dPieces (l : List TPiece) : List (List D) := c_dPieces.rows l
def is_dPieces (r : List (List D)) : Bool := c_dPieces.isL r
def un_dPieces (r : List (List D)) : List TPiece := c_dPieces.unL r
@[simp] theorem dPieces_len (l : List TPiece) : (dPieces l).length = l.length := c_dPieces.rows_len l
@[simp] theorem dPieces_app (l m : List TPiece) : dPieces (l ++ m) = dPieces l ++ dPieces m := c_dPieces.rows_app l m
@[simp] theorem dPieces_wid (l : List TPiece) : wid 1 (dPieces l) = true := c_dPieces.rows_wid l
theorem dPieces_get {l : List TPiece} {j : Nat} (h : j < l.length) : (dPieces l)[j]? = some ((fun x => [.l (ints x.Text)]) l[j]) := c_dPieces.rows_get h
@[simp] theorem dPieces_at {l : List TPiece} {j : Nat} (h : j < (dPieces l).length) : (dPieces l)[j] = (fun x => [.l (ints x.Text)]) (l[j]'(by simpa using h)) := by
  have h2 := dPieces_get (l := l) (j := j) (by simpa using h)
  rw [List.getElem?_eq_getElem h] at h2; injection h2
@[simp] theorem dPieces_drop (l : List TPiece) (i : Nat) : (dPieces l).drop i = dPieces (l.drop i) := c_dPieces.rows_drop l i
@[simp] theorem dPieces_take (l : List TPiece) (i : Nat) : (dPieces l).take i = dPieces (l.take i) := c_dPieces.rows_take l i
@[simp] theorem is_dPieces_rows (l : List TPiece) : is_dPieces (dPieces l) = true := c_dPieces.isL_rows l
@[simp] theorem is_dPieces_nil : is_dPieces [] = true := id rfl
@[simp] theorem is_dPieces_app (r q : List (List D)) : is_dPieces (r ++ q) = (is_dPieces r && is_dPieces q) := c_dPieces.isL_app r q
@[simp] theorem un_dPieces_rows (l : List TPiece) : un_dPieces (dPieces l) = l := c_dPieces.unL_rows l
@[simp] theorem un_dPieces_nil : un_dPieces [] = [] := id rfl
@[simp] theorem un_dPieces_app (r q : List (List D)) : un_dPieces (r ++ q) = un_dPieces r ++ un_dPieces q := c_dPieces.unL_app r q
theorem rows_un_dPieces {r : List (List D)} (h : is_dPieces r = true) : dPieces (un_dPieces r) = r := c_dPieces.rows_unL h
theorem dPieces_cons (x : TPiece) (l : List TPiece) : dPieces (x :: l) = [.l (ints x.Text)] :: dPieces l := rfl
theorem dPieces_snoc (l : List TPiece) (x : TPiece) : dPieces l ++ [[.l (ints x.Text)]] = dPieces (l ++ [x]) := ((c_dPieces.rows_app l [x]).trans rfl).symm
structure TRing where
  Pieces : List TPiece
def zRing : TRing := ⟨[]⟩
def c_dRings : Codec TRing where
  enc := fun x => [.l (dPieces x.Pieces)]
  is_ := fun | [.l r0] => is_dPieces r0 | _ => false
  dec := fun | [.l r0] => ⟨un_dPieces r0⟩ | _ => zRing
  k := 1
  len := fun _ => rfl
  one := fun x => by simp [oneD, Value.oneCell']
  ok := fun x => by simp
  back := fun x => by simp
  there := fun r h => by
    split at h
    · simp only [rows_un_dPieces h]
    · cases h
def dRings (l : List TRing) : List (List D) := c_dRings.rows l
def is_dRings (r : List (List D)) : Bool := c_dRings.isL r
def un_dRings (r : List (List D)) : List TRing := c_dRings.unL r
@[simp] theorem dRings_len (l : List TRing) : (dRings l).length = l.length := c_dRings.rows_len l
@[simp] theorem dRings_app (l m : List TRing) : dRings (l ++ m) = dRings l ++ dRings m := c_dRings.rows_app l m
@[simp] theorem dRings_wid (l : List TRing) : wid 1 (dRings l) = true := c_dRings.rows_wid l
theorem dRings_get {l : List TRing} {j : Nat} (h : j < l.length) : (dRings l)[j]? = some ((fun x => [.l (dPieces x.Pieces)]) l[j]) := c_dRings.rows_get h
@[simp] theorem dRings_at {l : List TRing} {j : Nat} (h : j < (dRings l).length) : (dRings l)[j] = (fun x => [.l (dPieces x.Pieces)]) (l[j]'(by simpa using h)) := by
  have h2 := dRings_get (l := l) (j := j) (by simpa using h)
  rw [List.getElem?_eq_getElem h] at h2; injection h2
@[simp] theorem dRings_drop (l : List TRing) (i : Nat) : (dRings l).drop i = dRings (l.drop i) := c_dRings.rows_drop l i
@[simp] theorem dRings_take (l : List TRing) (i : Nat) : (dRings l).take i = dRings (l.take i) := c_dRings.rows_take l i
@[simp] theorem is_dRings_rows (l : List TRing) : is_dRings (dRings l) = true := c_dRings.isL_rows l
@[simp] theorem is_dRings_nil : is_dRings [] = true := id rfl
@[simp] theorem is_dRings_app (r q : List (List D)) : is_dRings (r ++ q) = (is_dRings r && is_dRings q) := c_dRings.isL_app r q
@[simp] theorem un_dRings_rows (l : List TRing) : un_dRings (dRings l) = l := c_dRings.unL_rows l
@[simp] theorem un_dRings_nil : un_dRings [] = [] := id rfl
@[simp] theorem un_dRings_app (r q : List (List D)) : un_dRings (r ++ q) = un_dRings r ++ un_dRings q := c_dRings.unL_app r q
structure TUndo where
  Lines : List TLine
def zUndo : TUndo := ⟨[]⟩
def c_dUndos : Codec TUndo where
  enc := fun x => [.l (dLines x.Lines)]
  is_ := fun | [.l r0] => is_dLines r0 | _ => false
  dec := fun | [.l r0] => ⟨un_dLines r0⟩ | _ => zUndo
  k := 1
  len := fun _ => rfl
  one := fun x => by simp [oneD, Value.oneCell']
  ok := fun x => by simp
  back := fun x => by simp
  there := fun r h => by
    split at h
    · simp only [rows_un_dLines h]
    · cases h
def dUndos (l : List TUndo) : List (List D) := c_dUndos.rows l
def is_dUndos (r : List (List D)) : Bool := c_dUndos.isL r
def un_dUndos (r : List (List D)) : List TUndo := c_dUndos.unL r
@[simp] theorem dUndos_len (l : List TUndo) : (dUndos l).length = l.length := c_dUndos.rows_len l
@[simp] theorem dUndos_app (l m : List TUndo) : dUndos (l ++ m) = dUndos l ++ dUndos m := c_dUndos.rows_app l m
@[simp] theorem dUndos_wid (l : List TUndo) : wid 1 (dUndos l) = true := c_dUndos.rows_wid l
theorem dUndos_get {l : List TUndo} {j : Nat} (h : j < l.length) : (dUndos l)[j]? = some ((fun x => [.l (dLines x.Lines)]) l[j]) := c_dUndos.rows_get h
@[simp] theorem dUndos_at {l : List TUndo} {j : Nat} (h : j < (dUndos l).length) : (dUndos l)[j] = (fun x => [.l (dLines x.Lines)]) (l[j]'(by simpa using h)) := by
  have h2 := dUndos_get (l := l) (j := j) (by simpa using h)
  rw [List.getElem?_eq_getElem h] at h2; injection h2
@[simp] theorem dUndos_drop (l : List TUndo) (i : Nat) : (dUndos l).drop i = dUndos (l.drop i) := c_dUndos.rows_drop l i
@[simp] theorem dUndos_take (l : List TUndo) (i : Nat) : (dUndos l).take i = dUndos (l.take i) := c_dUndos.rows_take l i
@[simp] theorem is_dUndos_rows (l : List TUndo) : is_dUndos (dUndos l) = true := c_dUndos.isL_rows l
@[simp] theorem is_dUndos_nil : is_dUndos [] = true := id rfl
@[simp] theorem is_dUndos_app (r q : List (List D)) : is_dUndos (r ++ q) = (is_dUndos r && is_dUndos q) := c_dUndos.isL_app r q
@[simp] theorem un_dUndos_rows (l : List TUndo) : un_dUndos (dUndos l) = l := c_dUndos.unL_rows l
@[simp] theorem un_dUndos_nil : un_dUndos [] = [] := id rfl
@[simp] theorem un_dUndos_app (r q : List (List D)) : un_dUndos (r ++ q) = un_dUndos r ++ un_dUndos q := c_dUndos.unL_app r q
structure THist where
  First : Int
  Lines : List ByteArray
def zHist : THist := ⟨0, []⟩
def c_dHists : Codec THist where
  enc := fun x => [.a (.int .i64 x.First), .l (strs x.Lines)]
  is_ := fun | [.a (.int .i64 _), .l r1] => is_strs r1 | _ => false
  dec := fun | [.a (.int .i64 x0), .l r1] => ⟨x0, un_strs r1⟩ | _ => zHist
  k := 2
  len := fun _ => rfl
  one := fun x => by simp [oneD, Value.oneCell']
  ok := fun x => by simp
  back := fun x => by simp
  there := fun r h => by
    split at h
    · simp only [rows_un_strs h]
    · cases h
def dHists (l : List THist) : List (List D) := c_dHists.rows l
def is_dHists (r : List (List D)) : Bool := c_dHists.isL r
def un_dHists (r : List (List D)) : List THist := c_dHists.unL r
@[simp] theorem dHists_len (l : List THist) : (dHists l).length = l.length := c_dHists.rows_len l
@[simp] theorem dHists_app (l m : List THist) : dHists (l ++ m) = dHists l ++ dHists m := c_dHists.rows_app l m
@[simp] theorem dHists_wid (l : List THist) : wid 2 (dHists l) = true := c_dHists.rows_wid l
theorem dHists_get {l : List THist} {j : Nat} (h : j < l.length) : (dHists l)[j]? = some ((fun x => [.a (.int .i64 x.First), .l (strs x.Lines)]) l[j]) := c_dHists.rows_get h
@[simp] theorem dHists_at {l : List THist} {j : Nat} (h : j < (dHists l).length) : (dHists l)[j] = (fun x => [.a (.int .i64 x.First), .l (strs x.Lines)]) (l[j]'(by simpa using h)) := by
  have h2 := dHists_get (l := l) (j := j) (by simpa using h)
  rw [List.getElem?_eq_getElem h] at h2; injection h2
@[simp] theorem dHists_drop (l : List THist) (i : Nat) : (dHists l).drop i = dHists (l.drop i) := c_dHists.rows_drop l i
@[simp] theorem dHists_take (l : List THist) (i : Nat) : (dHists l).take i = dHists (l.take i) := c_dHists.rows_take l i
@[simp] theorem is_dHists_rows (l : List THist) : is_dHists (dHists l) = true := c_dHists.isL_rows l
@[simp] theorem is_dHists_nil : is_dHists [] = true := id rfl
@[simp] theorem is_dHists_app (r q : List (List D)) : is_dHists (r ++ q) = (is_dHists r && is_dHists q) := c_dHists.isL_app r q
@[simp] theorem un_dHists_rows (l : List THist) : un_dHists (dHists l) = l := c_dHists.unL_rows l
@[simp] theorem un_dHists_nil : un_dHists [] = [] := id rfl
@[simp] theorem un_dHists_app (r q : List (List D)) : un_dHists (r ++ q) = un_dHists r ++ un_dHists q := c_dHists.unL_app r q
structure Tended where
  f_code : Int
  f_at : Int
def zended : Tended := ⟨0, 0⟩
def c_dendeds : Codec Tended where
  enc := fun x => [.a (.int .i64 x.f_code), .a (.int .i64 x.f_at)]
  is_ := fun | [.a (.int .i64 _), .a (.int .i64 _)] => true | _ => false
  dec := fun | [.a (.int .i64 x0), .a (.int .i64 x1)] => ⟨x0, x1⟩ | _ => zended
  k := 2
  len := fun _ => rfl
  one := fun x => by simp [oneD, Value.oneCell']
  ok := fun x => by simp
  back := fun x => by simp
  there := fun r h => by
    split at h
    · rfl
    · cases h
def dendeds (l : List Tended) : List (List D) := c_dendeds.rows l
def is_dendeds (r : List (List D)) : Bool := c_dendeds.isL r
def un_dendeds (r : List (List D)) : List Tended := c_dendeds.unL r
@[simp] theorem dendeds_len (l : List Tended) : (dendeds l).length = l.length := c_dendeds.rows_len l
@[simp] theorem dendeds_app (l m : List Tended) : dendeds (l ++ m) = dendeds l ++ dendeds m := c_dendeds.rows_app l m
@[simp] theorem dendeds_wid (l : List Tended) : wid 2 (dendeds l) = true := c_dendeds.rows_wid l
theorem dendeds_get {l : List Tended} {j : Nat} (h : j < l.length) : (dendeds l)[j]? = some ((fun x => [.a (.int .i64 x.f_code), .a (.int .i64 x.f_at)]) l[j]) := c_dendeds.rows_get h
@[simp] theorem dendeds_at {l : List Tended} {j : Nat} (h : j < (dendeds l).length) : (dendeds l)[j] = (fun x => [.a (.int .i64 x.f_code), .a (.int .i64 x.f_at)]) (l[j]'(by simpa using h)) := by
  have h2 := dendeds_get (l := l) (j := j) (by simpa using h)
  rw [List.getElem?_eq_getElem h] at h2; injection h2
@[simp] theorem dendeds_drop (l : List Tended) (i : Nat) : (dendeds l).drop i = dendeds (l.drop i) := c_dendeds.rows_drop l i
@[simp] theorem dendeds_take (l : List Tended) (i : Nat) : (dendeds l).take i = dendeds (l.take i) := c_dendeds.rows_take l i
@[simp] theorem is_dendeds_rows (l : List Tended) : is_dendeds (dendeds l) = true := c_dendeds.isL_rows l
@[simp] theorem is_dendeds_nil : is_dendeds [] = true := id rfl
@[simp] theorem is_dendeds_app (r q : List (List D)) : is_dendeds (r ++ q) = (is_dendeds r && is_dendeds q) := c_dendeds.isL_app r q
@[simp] theorem un_dendeds_rows (l : List Tended) : un_dendeds (dendeds l) = l := c_dendeds.unL_rows l
@[simp] theorem un_dendeds_nil : un_dendeds [] = [] := id rfl
@[simp] theorem un_dendeds_app (r q : List (List D)) : un_dendeds (r ++ q) = un_dendeds r ++ un_dendeds q := c_dendeds.unL_app r q
@[simp] theorem dendeds_flat (l : List Tended) : rowsFlat (dendeds l) = true := c_dendeds.rows_flat (fun _ => rfl) l
structure There where
  f_delim : ByteArray
  f_tabs : Bool
def zhere : There := ⟨.empty, false⟩
def c_dheres : Codec There where
  enc := fun x => [.a (.string x.f_delim), .a (.bool x.f_tabs)]
  is_ := fun | [.a (.string _), .a (.bool _)] => true | _ => false
  dec := fun | [.a (.string x0), .a (.bool x1)] => ⟨x0, x1⟩ | _ => zhere
  k := 2
  len := fun _ => rfl
  one := fun x => by simp [oneD, Value.oneCell']
  ok := fun x => by simp
  back := fun x => by simp
  there := fun r h => by
    split at h
    · rfl
    · cases h
def dheres (l : List There) : List (List D) := c_dheres.rows l
def is_dheres (r : List (List D)) : Bool := c_dheres.isL r
def un_dheres (r : List (List D)) : List There := c_dheres.unL r
@[simp] theorem dheres_len (l : List There) : (dheres l).length = l.length := c_dheres.rows_len l
@[simp] theorem dheres_app (l m : List There) : dheres (l ++ m) = dheres l ++ dheres m := c_dheres.rows_app l m
@[simp] theorem dheres_wid (l : List There) : wid 2 (dheres l) = true := c_dheres.rows_wid l
theorem dheres_get {l : List There} {j : Nat} (h : j < l.length) : (dheres l)[j]? = some ((fun x => [.a (.string x.f_delim), .a (.bool x.f_tabs)]) l[j]) := c_dheres.rows_get h
@[simp] theorem dheres_at {l : List There} {j : Nat} (h : j < (dheres l).length) : (dheres l)[j] = (fun x => [.a (.string x.f_delim), .a (.bool x.f_tabs)]) (l[j]'(by simpa using h)) := by
  have h2 := dheres_get (l := l) (j := j) (by simpa using h)
  rw [List.getElem?_eq_getElem h] at h2; injection h2
@[simp] theorem dheres_drop (l : List There) (i : Nat) : (dheres l).drop i = dheres (l.drop i) := c_dheres.rows_drop l i
@[simp] theorem dheres_take (l : List There) (i : Nat) : (dheres l).take i = dheres (l.take i) := c_dheres.rows_take l i
@[simp] theorem is_dheres_rows (l : List There) : is_dheres (dheres l) = true := c_dheres.isL_rows l
@[simp] theorem is_dheres_nil : is_dheres [] = true := id rfl
@[simp] theorem is_dheres_app (r q : List (List D)) : is_dheres (r ++ q) = (is_dheres r && is_dheres q) := c_dheres.isL_app r q
@[simp] theorem un_dheres_rows (l : List There) : un_dheres (dheres l) = l := c_dheres.unL_rows l
@[simp] theorem un_dheres_nil : un_dheres [] = [] := id rfl
@[simp] theorem un_dheres_app (r q : List (List D)) : un_dheres (r ++ q) = un_dheres r ++ un_dheres q := c_dheres.unL_app r q
theorem rows_un_dheres {r : List (List D)} (h : is_dheres r = true) : dheres (un_dheres r) = r := c_dheres.rows_unL h
@[simp] theorem dheres_flat (l : List There) : rowsFlat (dheres l) = true := c_dheres.rows_flat (fun _ => rfl) l
structure Tparser where
  f_s : ByteArray
  f_at : Int
  f_pending : List There
  f_nest : Int
  f_open : List ByteArray
  f_count : Int
def zparser : Tparser := ⟨.empty, 0, [], 0, [], 0⟩
def c_dparsers : Codec Tparser where
  enc := fun x => [.a (.string x.f_s), .a (.int .i64 x.f_at), .l (dheres x.f_pending), .a (.int .i64 x.f_nest), .l (strs x.f_open), .a (.int .i64 x.f_count)]
  is_ := fun | [.a (.string _), .a (.int .i64 _), .l r2, .a (.int .i64 _), .l r4, .a (.int .i64 _)] => is_dheres r2 && is_strs r4 | _ => false
  dec := fun | [.a (.string x0), .a (.int .i64 x1), .l r2, .a (.int .i64 x3), .l r4, .a (.int .i64 x5)] => ⟨x0, x1, un_dheres r2, x3, un_strs r4, x5⟩ | _ => zparser
  k := 6
  len := fun _ => rfl
  one := fun x => by simp [oneD, Value.oneCell']
  ok := fun x => by simp
  back := fun x => by simp
  there := fun r h => by
    split at h
    · simp only [Bool.and_eq_true] at h; simp [rows_un_dheres h.1, rows_un_strs h.2]
    · cases h
def dparsers (l : List Tparser) : List (List D) := c_dparsers.rows l
def is_dparsers (r : List (List D)) : Bool := c_dparsers.isL r
def un_dparsers (r : List (List D)) : List Tparser := c_dparsers.unL r
@[simp] theorem dparsers_len (l : List Tparser) : (dparsers l).length = l.length := c_dparsers.rows_len l
@[simp] theorem dparsers_app (l m : List Tparser) : dparsers (l ++ m) = dparsers l ++ dparsers m := c_dparsers.rows_app l m
@[simp] theorem dparsers_wid (l : List Tparser) : wid 6 (dparsers l) = true := c_dparsers.rows_wid l
theorem dparsers_get {l : List Tparser} {j : Nat} (h : j < l.length) : (dparsers l)[j]? = some ((fun x => [.a (.string x.f_s), .a (.int .i64 x.f_at), .l (dheres x.f_pending), .a (.int .i64 x.f_nest), .l (strs x.f_open), .a (.int .i64 x.f_count)]) l[j]) := c_dparsers.rows_get h
@[simp] theorem dparsers_at {l : List Tparser} {j : Nat} (h : j < (dparsers l).length) : (dparsers l)[j] = (fun x => [.a (.string x.f_s), .a (.int .i64 x.f_at), .l (dheres x.f_pending), .a (.int .i64 x.f_nest), .l (strs x.f_open), .a (.int .i64 x.f_count)]) (l[j]'(by simpa using h)) := by
  have h2 := dparsers_get (l := l) (j := j) (by simpa using h)
  rw [List.getElem?_eq_getElem h] at h2; injection h2
@[simp] theorem dparsers_drop (l : List Tparser) (i : Nat) : (dparsers l).drop i = dparsers (l.drop i) := c_dparsers.rows_drop l i
@[simp] theorem dparsers_take (l : List Tparser) (i : Nat) : (dparsers l).take i = dparsers (l.take i) := c_dparsers.rows_take l i
@[simp] theorem is_dparsers_rows (l : List Tparser) : is_dparsers (dparsers l) = true := c_dparsers.isL_rows l
@[simp] theorem is_dparsers_nil : is_dparsers [] = true := id rfl
@[simp] theorem is_dparsers_app (r q : List (List D)) : is_dparsers (r ++ q) = (is_dparsers r && is_dparsers q) := c_dparsers.isL_app r q
@[simp] theorem un_dparsers_rows (l : List Tparser) : un_dparsers (dparsers l) = l := c_dparsers.unL_rows l
@[simp] theorem un_dparsers_nil : un_dparsers [] = [] := id rfl
@[simp] theorem un_dparsers_app (r q : List (List D)) : un_dparsers (r ++ q) = un_dparsers r ++ un_dparsers q := c_dparsers.unL_app r q
structure Ttoken where
  f_kind : Int
  f_text : ByteArray
  f_plain : Bool
def ztoken : Ttoken := ⟨0, .empty, false⟩
def c_dtokens : Codec Ttoken where
  enc := fun x => [.a (.int .i64 x.f_kind), .a (.string x.f_text), .a (.bool x.f_plain)]
  is_ := fun | [.a (.int .i64 _), .a (.string _), .a (.bool _)] => true | _ => false
  dec := fun | [.a (.int .i64 x0), .a (.string x1), .a (.bool x2)] => ⟨x0, x1, x2⟩ | _ => ztoken
  k := 3
  len := fun _ => rfl
  one := fun x => by simp [oneD, Value.oneCell']
  ok := fun x => by simp
  back := fun x => by simp
  there := fun r h => by
    split at h
    · rfl
    · cases h
def dtokens (l : List Ttoken) : List (List D) := c_dtokens.rows l
def is_dtokens (r : List (List D)) : Bool := c_dtokens.isL r
def un_dtokens (r : List (List D)) : List Ttoken := c_dtokens.unL r
@[simp] theorem dtokens_len (l : List Ttoken) : (dtokens l).length = l.length := c_dtokens.rows_len l
@[simp] theorem dtokens_app (l m : List Ttoken) : dtokens (l ++ m) = dtokens l ++ dtokens m := c_dtokens.rows_app l m
@[simp] theorem dtokens_wid (l : List Ttoken) : wid 3 (dtokens l) = true := c_dtokens.rows_wid l
theorem dtokens_get {l : List Ttoken} {j : Nat} (h : j < l.length) : (dtokens l)[j]? = some ((fun x => [.a (.int .i64 x.f_kind), .a (.string x.f_text), .a (.bool x.f_plain)]) l[j]) := c_dtokens.rows_get h
@[simp] theorem dtokens_at {l : List Ttoken} {j : Nat} (h : j < (dtokens l).length) : (dtokens l)[j] = (fun x => [.a (.int .i64 x.f_kind), .a (.string x.f_text), .a (.bool x.f_plain)]) (l[j]'(by simpa using h)) := by
  have h2 := dtokens_get (l := l) (j := j) (by simpa using h)
  rw [List.getElem?_eq_getElem h] at h2; injection h2
@[simp] theorem dtokens_drop (l : List Ttoken) (i : Nat) : (dtokens l).drop i = dtokens (l.drop i) := c_dtokens.rows_drop l i
@[simp] theorem dtokens_take (l : List Ttoken) (i : Nat) : (dtokens l).take i = dtokens (l.take i) := c_dtokens.rows_take l i
@[simp] theorem is_dtokens_rows (l : List Ttoken) : is_dtokens (dtokens l) = true := c_dtokens.isL_rows l
@[simp] theorem is_dtokens_nil : is_dtokens [] = true := id rfl
@[simp] theorem is_dtokens_app (r q : List (List D)) : is_dtokens (r ++ q) = (is_dtokens r && is_dtokens q) := c_dtokens.isL_app r q
@[simp] theorem un_dtokens_rows (l : List Ttoken) : un_dtokens (dtokens l) = l := c_dtokens.unL_rows l
@[simp] theorem un_dtokens_nil : un_dtokens [] = [] := id rfl
@[simp] theorem un_dtokens_app (r q : List (List D)) : un_dtokens (r ++ q) = un_dtokens r ++ un_dtokens q := c_dtokens.unL_app r q
@[simp] theorem dtokens_flat (l : List Ttoken) : rowsFlat (dtokens l) = true := c_dtokens.rows_flat (fun _ => rfl) l
structure TRef where
  Kind : Int
  N : Int
  Text : ByteArray
  End : Int
def zRef : TRef := ⟨0, 0, .empty, 0⟩
def c_dRefs : Codec TRef where
  enc := fun x => [.a (.int .i64 x.Kind), .a (.int .i64 x.N), .a (.string x.Text), .a (.int .i64 x.End)]
  is_ := fun | [.a (.int .i64 _), .a (.int .i64 _), .a (.string _), .a (.int .i64 _)] => true | _ => false
  dec := fun | [.a (.int .i64 x0), .a (.int .i64 x1), .a (.string x2), .a (.int .i64 x3)] => ⟨x0, x1, x2, x3⟩ | _ => zRef
  k := 4
  len := fun _ => rfl
  one := fun x => by simp [oneD, Value.oneCell']
  ok := fun x => by simp
  back := fun x => by simp
  there := fun r h => by
    split at h
    · rfl
    · cases h
def dRefs (l : List TRef) : List (List D) := c_dRefs.rows l
def is_dRefs (r : List (List D)) : Bool := c_dRefs.isL r
def un_dRefs (r : List (List D)) : List TRef := c_dRefs.unL r
@[simp] theorem dRefs_len (l : List TRef) : (dRefs l).length = l.length := c_dRefs.rows_len l
@[simp] theorem dRefs_app (l m : List TRef) : dRefs (l ++ m) = dRefs l ++ dRefs m := c_dRefs.rows_app l m
@[simp] theorem dRefs_wid (l : List TRef) : wid 4 (dRefs l) = true := c_dRefs.rows_wid l
theorem dRefs_get {l : List TRef} {j : Nat} (h : j < l.length) : (dRefs l)[j]? = some ((fun x => [.a (.int .i64 x.Kind), .a (.int .i64 x.N), .a (.string x.Text), .a (.int .i64 x.End)]) l[j]) := c_dRefs.rows_get h
@[simp] theorem dRefs_at {l : List TRef} {j : Nat} (h : j < (dRefs l).length) : (dRefs l)[j] = (fun x => [.a (.int .i64 x.Kind), .a (.int .i64 x.N), .a (.string x.Text), .a (.int .i64 x.End)]) (l[j]'(by simpa using h)) := by
  have h2 := dRefs_get (l := l) (j := j) (by simpa using h)
  rw [List.getElem?_eq_getElem h] at h2; injection h2
@[simp] theorem dRefs_drop (l : List TRef) (i : Nat) : (dRefs l).drop i = dRefs (l.drop i) := c_dRefs.rows_drop l i
@[simp] theorem dRefs_take (l : List TRef) (i : Nat) : (dRefs l).take i = dRefs (l.take i) := c_dRefs.rows_take l i
@[simp] theorem is_dRefs_rows (l : List TRef) : is_dRefs (dRefs l) = true := c_dRefs.isL_rows l
@[simp] theorem is_dRefs_nil : is_dRefs [] = true := id rfl
@[simp] theorem is_dRefs_app (r q : List (List D)) : is_dRefs (r ++ q) = (is_dRefs r && is_dRefs q) := c_dRefs.isL_app r q
@[simp] theorem un_dRefs_rows (l : List TRef) : un_dRefs (dRefs l) = l := c_dRefs.unL_rows l
@[simp] theorem un_dRefs_nil : un_dRefs [] = [] := id rfl
@[simp] theorem un_dRefs_app (r q : List (List D)) : un_dRefs (r ++ q) = un_dRefs r ++ un_dRefs q := c_dRefs.unL_app r q
@[simp] theorem dRefs_flat (l : List TRef) : rowsFlat (dRefs l) = true := c_dRefs.rows_flat (fun _ => rfl) l
structure TEd where
  Vi : Bool
  Mode : Int
  Line : TLine
  Count : Int
  Op : Int
  OpCount : Int
  Wait : Int
  FindR : Int
  FindHow : Int
  Last : Int
  Ring : TRing
  Undo : TUndo
  Nav : Int
  Own : TLine
  Query : List Int
  Hit : Int
  Back : TLine
def zEd : TEd := ⟨false, 0, ⟨[], 0⟩, 0, 0, 0, 0, 0, 0, 0, ⟨[]⟩, ⟨[]⟩, 0, ⟨[], 0⟩, [], 0, ⟨[], 0⟩⟩
def c_dEds : Codec TEd where
  enc := fun x => [.a (.bool x.Vi), .a (.int .i64 x.Mode), .l (ints x.Line.Text), .a (.int .i64 x.Line.At), .a (.int .i64 x.Count), .a (.int .i64 x.Op), .a (.int .i64 x.OpCount), .a (.int .i64 x.Wait), .a (.int .i64 x.FindR), .a (.int .i64 x.FindHow), .a (.int .i64 x.Last), .l (dPieces x.Ring.Pieces), .l (dLines x.Undo.Lines), .a (.int .i64 x.Nav), .l (ints x.Own.Text), .a (.int .i64 x.Own.At), .l (ints x.Query), .a (.int .i64 x.Hit), .l (ints x.Back.Text), .a (.int .i64 x.Back.At)]
  is_ := fun | [.a (.bool _), .a (.int .i64 _), .l r2, .a (.int .i64 _), .a (.int .i64 _), .a (.int .i64 _), .a (.int .i64 _), .a (.int .i64 _), .a (.int .i64 _), .a (.int .i64 _), .a (.int .i64 _), .l r11, .l r12, .a (.int .i64 _), .l r14, .a (.int .i64 _), .l r16, .a (.int .i64 _), .l r18, .a (.int .i64 _)] => is_ints r2 && is_dPieces r11 && is_dLines r12 && is_ints r14 && is_ints r16 && is_ints r18 | _ => false
  dec := fun | [.a (.bool x0), .a (.int .i64 x1), .l r2, .a (.int .i64 x3), .a (.int .i64 x4), .a (.int .i64 x5), .a (.int .i64 x6), .a (.int .i64 x7), .a (.int .i64 x8), .a (.int .i64 x9), .a (.int .i64 x10), .l r11, .l r12, .a (.int .i64 x13), .l r14, .a (.int .i64 x15), .l r16, .a (.int .i64 x17), .l r18, .a (.int .i64 x19)] => ⟨x0, x1, ⟨un_ints r2, x3⟩, x4, x5, x6, x7, x8, x9, x10, ⟨un_dPieces r11⟩, ⟨un_dLines r12⟩, x13, ⟨un_ints r14, x15⟩, un_ints r16, x17, ⟨un_ints r18, x19⟩⟩ | _ => zEd
  k := 20
  len := fun _ => rfl
  one := fun x => by simp [oneD, Value.oneCell']
  ok := fun x => by simp
  back := fun x => by simp
  there := fun r h => by
    split at h
    · simp only [Bool.and_eq_true] at h; simp [rows_un_ints h.1.1.1.1.1, rows_un_dPieces h.1.1.1.1.2, rows_un_dLines h.1.1.1.2, rows_un_ints h.1.1.2, rows_un_ints h.1.2, rows_un_ints h.2]
    · cases h
def dEds (l : List TEd) : List (List D) := c_dEds.rows l
def is_dEds (r : List (List D)) : Bool := c_dEds.isL r
def un_dEds (r : List (List D)) : List TEd := c_dEds.unL r
@[simp] theorem dEds_len (l : List TEd) : (dEds l).length = l.length := c_dEds.rows_len l
@[simp] theorem dEds_app (l m : List TEd) : dEds (l ++ m) = dEds l ++ dEds m := c_dEds.rows_app l m
@[simp] theorem dEds_wid (l : List TEd) : wid 20 (dEds l) = true := c_dEds.rows_wid l
theorem dEds_get {l : List TEd} {j : Nat} (h : j < l.length) : (dEds l)[j]? = some ((fun x => [.a (.bool x.Vi), .a (.int .i64 x.Mode), .l (ints x.Line.Text), .a (.int .i64 x.Line.At), .a (.int .i64 x.Count), .a (.int .i64 x.Op), .a (.int .i64 x.OpCount), .a (.int .i64 x.Wait), .a (.int .i64 x.FindR), .a (.int .i64 x.FindHow), .a (.int .i64 x.Last), .l (dPieces x.Ring.Pieces), .l (dLines x.Undo.Lines), .a (.int .i64 x.Nav), .l (ints x.Own.Text), .a (.int .i64 x.Own.At), .l (ints x.Query), .a (.int .i64 x.Hit), .l (ints x.Back.Text), .a (.int .i64 x.Back.At)]) l[j]) := c_dEds.rows_get h
@[simp] theorem dEds_at {l : List TEd} {j : Nat} (h : j < (dEds l).length) : (dEds l)[j] = (fun x => [.a (.bool x.Vi), .a (.int .i64 x.Mode), .l (ints x.Line.Text), .a (.int .i64 x.Line.At), .a (.int .i64 x.Count), .a (.int .i64 x.Op), .a (.int .i64 x.OpCount), .a (.int .i64 x.Wait), .a (.int .i64 x.FindR), .a (.int .i64 x.FindHow), .a (.int .i64 x.Last), .l (dPieces x.Ring.Pieces), .l (dLines x.Undo.Lines), .a (.int .i64 x.Nav), .l (ints x.Own.Text), .a (.int .i64 x.Own.At), .l (ints x.Query), .a (.int .i64 x.Hit), .l (ints x.Back.Text), .a (.int .i64 x.Back.At)]) (l[j]'(by simpa using h)) := by
  have h2 := dEds_get (l := l) (j := j) (by simpa using h)
  rw [List.getElem?_eq_getElem h] at h2; injection h2
@[simp] theorem dEds_drop (l : List TEd) (i : Nat) : (dEds l).drop i = dEds (l.drop i) := c_dEds.rows_drop l i
@[simp] theorem dEds_take (l : List TEd) (i : Nat) : (dEds l).take i = dEds (l.take i) := c_dEds.rows_take l i
@[simp] theorem is_dEds_rows (l : List TEd) : is_dEds (dEds l) = true := c_dEds.isL_rows l
@[simp] theorem is_dEds_nil : is_dEds [] = true := id rfl
@[simp] theorem is_dEds_app (r q : List (List D)) : is_dEds (r ++ q) = (is_dEds r && is_dEds q) := c_dEds.isL_app r q
@[simp] theorem un_dEds_rows (l : List TEd) : un_dEds (dEds l) = l := c_dEds.unL_rows l
@[simp] theorem un_dEds_nil : un_dEds [] = [] := id rfl
@[simp] theorem un_dEds_app (r q : List (List D)) : un_dEds (r ++ q) = un_dEds r ++ un_dEds q := c_dEds.unL_app r q
structure Tsheet where
  f_w : Int
  f_x : Int
  f_y : Int
  f_rows : List (List Int)
def zsheet : Tsheet := ⟨0, 0, 0, []⟩
def c_dsheets : Codec Tsheet where
  enc := fun x => [.a (.int .i64 x.f_w), .a (.int .i64 x.f_x), .a (.int .i64 x.f_y), .l (intss x.f_rows)]
  is_ := fun | [.a (.int .i64 _), .a (.int .i64 _), .a (.int .i64 _), .l r3] => is_intss r3 | _ => false
  dec := fun | [.a (.int .i64 x0), .a (.int .i64 x1), .a (.int .i64 x2), .l r3] => ⟨x0, x1, x2, un_intss r3⟩ | _ => zsheet
  k := 4
  len := fun _ => rfl
  one := fun x => by simp [oneD, Value.oneCell']
  ok := fun x => by simp
  back := fun x => by simp
  there := fun r h => by
    split at h
    · simp only [rows_un_intss h]
    · cases h
def dsheets (l : List Tsheet) : List (List D) := c_dsheets.rows l
def is_dsheets (r : List (List D)) : Bool := c_dsheets.isL r
def un_dsheets (r : List (List D)) : List Tsheet := c_dsheets.unL r
@[simp] theorem dsheets_len (l : List Tsheet) : (dsheets l).length = l.length := c_dsheets.rows_len l
@[simp] theorem dsheets_app (l m : List Tsheet) : dsheets (l ++ m) = dsheets l ++ dsheets m := c_dsheets.rows_app l m
@[simp] theorem dsheets_wid (l : List Tsheet) : wid 4 (dsheets l) = true := c_dsheets.rows_wid l
theorem dsheets_get {l : List Tsheet} {j : Nat} (h : j < l.length) : (dsheets l)[j]? = some ((fun x => [.a (.int .i64 x.f_w), .a (.int .i64 x.f_x), .a (.int .i64 x.f_y), .l (intss x.f_rows)]) l[j]) := c_dsheets.rows_get h
@[simp] theorem dsheets_at {l : List Tsheet} {j : Nat} (h : j < (dsheets l).length) : (dsheets l)[j] = (fun x => [.a (.int .i64 x.f_w), .a (.int .i64 x.f_x), .a (.int .i64 x.f_y), .l (intss x.f_rows)]) (l[j]'(by simpa using h)) := by
  have h2 := dsheets_get (l := l) (j := j) (by simpa using h)
  rw [List.getElem?_eq_getElem h] at h2; injection h2
@[simp] theorem dsheets_drop (l : List Tsheet) (i : Nat) : (dsheets l).drop i = dsheets (l.drop i) := c_dsheets.rows_drop l i
@[simp] theorem dsheets_take (l : List Tsheet) (i : Nat) : (dsheets l).take i = dsheets (l.take i) := c_dsheets.rows_take l i
@[simp] theorem is_dsheets_rows (l : List Tsheet) : is_dsheets (dsheets l) = true := c_dsheets.isL_rows l
@[simp] theorem is_dsheets_nil : is_dsheets [] = true := id rfl
@[simp] theorem is_dsheets_app (r q : List (List D)) : is_dsheets (r ++ q) = (is_dsheets r && is_dsheets q) := c_dsheets.isL_app r q
@[simp] theorem un_dsheets_rows (l : List Tsheet) : un_dsheets (dsheets l) = l := c_dsheets.unL_rows l
@[simp] theorem un_dsheets_nil : un_dsheets [] = [] := id rfl
@[simp] theorem un_dsheets_app (r q : List (List D)) : un_dsheets (r ++ q) = un_dsheets r ++ un_dsheets q := c_dsheets.unL_app r q
structure TPaint where
  W : Int
  H : Int
  Known : Bool
  Shown : TGrid
def zPaint : TPaint := ⟨0, 0, false, ⟨0, 0, [], 0, 0, false⟩⟩
def c_dPaints : Codec TPaint where
  enc := fun x => [.a (.int .i64 x.W), .a (.int .i64 x.H), .a (.bool x.Known), .a (.int .i64 x.Shown.W), .a (.int .i64 x.Shown.H), .l (ints x.Shown.Cells), .a (.int .i64 x.Shown.X), .a (.int .i64 x.Shown.Y), .a (.bool x.Shown.Wrap)]
  is_ := fun | [.a (.int .i64 _), .a (.int .i64 _), .a (.bool _), .a (.int .i64 _), .a (.int .i64 _), .l r5, .a (.int .i64 _), .a (.int .i64 _), .a (.bool _)] => is_ints r5 | _ => false
  dec := fun | [.a (.int .i64 x0), .a (.int .i64 x1), .a (.bool x2), .a (.int .i64 x3), .a (.int .i64 x4), .l r5, .a (.int .i64 x6), .a (.int .i64 x7), .a (.bool x8)] => ⟨x0, x1, x2, ⟨x3, x4, un_ints r5, x6, x7, x8⟩⟩ | _ => zPaint
  k := 9
  len := fun _ => rfl
  one := fun x => by simp [oneD, Value.oneCell']
  ok := fun x => by simp
  back := fun x => by simp
  there := fun r h => by
    split at h
    · simp only [rows_un_ints h]
    · cases h
def dPaints (l : List TPaint) : List (List D) := c_dPaints.rows l
def is_dPaints (r : List (List D)) : Bool := c_dPaints.isL r
def un_dPaints (r : List (List D)) : List TPaint := c_dPaints.unL r
@[simp] theorem dPaints_len (l : List TPaint) : (dPaints l).length = l.length := c_dPaints.rows_len l
@[simp] theorem dPaints_app (l m : List TPaint) : dPaints (l ++ m) = dPaints l ++ dPaints m := c_dPaints.rows_app l m
@[simp] theorem dPaints_wid (l : List TPaint) : wid 9 (dPaints l) = true := c_dPaints.rows_wid l
theorem dPaints_get {l : List TPaint} {j : Nat} (h : j < l.length) : (dPaints l)[j]? = some ((fun x => [.a (.int .i64 x.W), .a (.int .i64 x.H), .a (.bool x.Known), .a (.int .i64 x.Shown.W), .a (.int .i64 x.Shown.H), .l (ints x.Shown.Cells), .a (.int .i64 x.Shown.X), .a (.int .i64 x.Shown.Y), .a (.bool x.Shown.Wrap)]) l[j]) := c_dPaints.rows_get h
@[simp] theorem dPaints_at {l : List TPaint} {j : Nat} (h : j < (dPaints l).length) : (dPaints l)[j] = (fun x => [.a (.int .i64 x.W), .a (.int .i64 x.H), .a (.bool x.Known), .a (.int .i64 x.Shown.W), .a (.int .i64 x.Shown.H), .l (ints x.Shown.Cells), .a (.int .i64 x.Shown.X), .a (.int .i64 x.Shown.Y), .a (.bool x.Shown.Wrap)]) (l[j]'(by simpa using h)) := by
  have h2 := dPaints_get (l := l) (j := j) (by simpa using h)
  rw [List.getElem?_eq_getElem h] at h2; injection h2
@[simp] theorem dPaints_drop (l : List TPaint) (i : Nat) : (dPaints l).drop i = dPaints (l.drop i) := c_dPaints.rows_drop l i
@[simp] theorem dPaints_take (l : List TPaint) (i : Nat) : (dPaints l).take i = dPaints (l.take i) := c_dPaints.rows_take l i
@[simp] theorem is_dPaints_rows (l : List TPaint) : is_dPaints (dPaints l) = true := c_dPaints.isL_rows l
@[simp] theorem is_dPaints_nil : is_dPaints [] = true := id rfl
@[simp] theorem is_dPaints_app (r q : List (List D)) : is_dPaints (r ++ q) = (is_dPaints r && is_dPaints q) := c_dPaints.isL_app r q
@[simp] theorem un_dPaints_rows (l : List TPaint) : un_dPaints (dPaints l) = l := c_dPaints.unL_rows l
@[simp] theorem un_dPaints_nil : un_dPaints [] = [] := id rfl
@[simp] theorem un_dPaints_app (r q : List (List D)) : un_dPaints (r ++ q) = un_dPaints r ++ un_dPaints q := c_dPaints.unL_app r q
structure TEvent where
  Kind : Int
  A : Int
  B : Int
  Cuts : List Int
def zEvent : TEvent := ⟨0, 0, 0, []⟩
def c_dEvents : Codec TEvent where
  enc := fun x => [.a (.int .i64 x.Kind), .a (.int .i64 x.A), .a (.int .i64 x.B), .l (ints x.Cuts)]
  is_ := fun | [.a (.int .i64 _), .a (.int .i64 _), .a (.int .i64 _), .l r3] => is_ints r3 | _ => false
  dec := fun | [.a (.int .i64 x0), .a (.int .i64 x1), .a (.int .i64 x2), .l r3] => ⟨x0, x1, x2, un_ints r3⟩ | _ => zEvent
  k := 4
  len := fun _ => rfl
  one := fun x => by simp [oneD, Value.oneCell']
  ok := fun x => by simp
  back := fun x => by simp
  there := fun r h => by
    split at h
    · simp only [rows_un_ints h]
    · cases h
def dEvents (l : List TEvent) : List (List D) := c_dEvents.rows l
def is_dEvents (r : List (List D)) : Bool := c_dEvents.isL r
def un_dEvents (r : List (List D)) : List TEvent := c_dEvents.unL r
@[simp] theorem dEvents_len (l : List TEvent) : (dEvents l).length = l.length := c_dEvents.rows_len l
@[simp] theorem dEvents_app (l m : List TEvent) : dEvents (l ++ m) = dEvents l ++ dEvents m := c_dEvents.rows_app l m
@[simp] theorem dEvents_wid (l : List TEvent) : wid 4 (dEvents l) = true := c_dEvents.rows_wid l
theorem dEvents_get {l : List TEvent} {j : Nat} (h : j < l.length) : (dEvents l)[j]? = some ((fun x => [.a (.int .i64 x.Kind), .a (.int .i64 x.A), .a (.int .i64 x.B), .l (ints x.Cuts)]) l[j]) := c_dEvents.rows_get h
@[simp] theorem dEvents_at {l : List TEvent} {j : Nat} (h : j < (dEvents l).length) : (dEvents l)[j] = (fun x => [.a (.int .i64 x.Kind), .a (.int .i64 x.A), .a (.int .i64 x.B), .l (ints x.Cuts)]) (l[j]'(by simpa using h)) := by
  have h2 := dEvents_get (l := l) (j := j) (by simpa using h)
  rw [List.getElem?_eq_getElem h] at h2; injection h2
@[simp] theorem dEvents_drop (l : List TEvent) (i : Nat) : (dEvents l).drop i = dEvents (l.drop i) := c_dEvents.rows_drop l i
@[simp] theorem dEvents_take (l : List TEvent) (i : Nat) : (dEvents l).take i = dEvents (l.take i) := c_dEvents.rows_take l i
@[simp] theorem is_dEvents_rows (l : List TEvent) : is_dEvents (dEvents l) = true := c_dEvents.isL_rows l
@[simp] theorem is_dEvents_nil : is_dEvents [] = true := id rfl
@[simp] theorem is_dEvents_app (r q : List (List D)) : is_dEvents (r ++ q) = (is_dEvents r && is_dEvents q) := c_dEvents.isL_app r q
@[simp] theorem un_dEvents_rows (l : List TEvent) : un_dEvents (dEvents l) = l := c_dEvents.unL_rows l
@[simp] theorem un_dEvents_nil : un_dEvents [] = [] := id rfl
@[simp] theorem un_dEvents_app (r q : List (List D)) : un_dEvents (r ++ q) = un_dEvents r ++ un_dEvents q := c_dEvents.unL_app r q
structure TSent where
  Text : ByteArray
  Bad : Bool
  Code : Int
def zSent : TSent := ⟨.empty, false, 0⟩
def c_dSents : Codec TSent where
  enc := fun x => [.a (.string x.Text), .a (.bool x.Bad), .a (.int .i64 x.Code)]
  is_ := fun | [.a (.string _), .a (.bool _), .a (.int .i64 _)] => true | _ => false
  dec := fun | [.a (.string x0), .a (.bool x1), .a (.int .i64 x2)] => ⟨x0, x1, x2⟩ | _ => zSent
  k := 3
  len := fun _ => rfl
  one := fun x => by simp [oneD, Value.oneCell']
  ok := fun x => by simp
  back := fun x => by simp
  there := fun r h => by
    split at h
    · rfl
    · cases h
def dSents (l : List TSent) : List (List D) := c_dSents.rows l
def is_dSents (r : List (List D)) : Bool := c_dSents.isL r
def un_dSents (r : List (List D)) : List TSent := c_dSents.unL r
@[simp] theorem dSents_len (l : List TSent) : (dSents l).length = l.length := c_dSents.rows_len l
@[simp] theorem dSents_app (l m : List TSent) : dSents (l ++ m) = dSents l ++ dSents m := c_dSents.rows_app l m
@[simp] theorem dSents_wid (l : List TSent) : wid 3 (dSents l) = true := c_dSents.rows_wid l
theorem dSents_get {l : List TSent} {j : Nat} (h : j < l.length) : (dSents l)[j]? = some ((fun x => [.a (.string x.Text), .a (.bool x.Bad), .a (.int .i64 x.Code)]) l[j]) := c_dSents.rows_get h
@[simp] theorem dSents_at {l : List TSent} {j : Nat} (h : j < (dSents l).length) : (dSents l)[j] = (fun x => [.a (.string x.Text), .a (.bool x.Bad), .a (.int .i64 x.Code)]) (l[j]'(by simpa using h)) := by
  have h2 := dSents_get (l := l) (j := j) (by simpa using h)
  rw [List.getElem?_eq_getElem h] at h2; injection h2
@[simp] theorem dSents_drop (l : List TSent) (i : Nat) : (dSents l).drop i = dSents (l.drop i) := c_dSents.rows_drop l i
@[simp] theorem dSents_take (l : List TSent) (i : Nat) : (dSents l).take i = dSents (l.take i) := c_dSents.rows_take l i
@[simp] theorem is_dSents_rows (l : List TSent) : is_dSents (dSents l) = true := c_dSents.isL_rows l
@[simp] theorem is_dSents_nil : is_dSents [] = true := id rfl
@[simp] theorem is_dSents_app (r q : List (List D)) : is_dSents (r ++ q) = (is_dSents r && is_dSents q) := c_dSents.isL_app r q
@[simp] theorem un_dSents_rows (l : List TSent) : un_dSents (dSents l) = l := c_dSents.unL_rows l
@[simp] theorem un_dSents_nil : un_dSents [] = [] := id rfl
@[simp] theorem un_dSents_app (r q : List (List D)) : un_dSents (r ++ q) = un_dSents r ++ un_dSents q := c_dSents.unL_app r q
@[simp] theorem dSents_flat (l : List TSent) : rowsFlat (dSents l) = true := c_dSents.rows_flat (fun _ => rfl) l
structure Tl01Cur where
  f_b : List UInt8
  f_i : Int
  f_h : Int
def zl01Cur : Tl01Cur := ⟨[], 0, 0⟩
def c_dl01Curs : Codec Tl01Cur where
  enc := fun x => [.l (byts x.f_b), .a (.int .i64 x.f_i), .a (.int .i64 x.f_h)]
  is_ := fun | [.l r0, .a (.int .i64 _), .a (.int .i64 _)] => is_byts r0 | _ => false
  dec := fun | [.l r0, .a (.int .i64 x1), .a (.int .i64 x2)] => ⟨un_byts r0, x1, x2⟩ | _ => zl01Cur
  k := 3
  len := fun _ => rfl
  one := fun x => by simp [oneD, Value.oneCell']
  ok := fun x => by simp
  back := fun x => by simp
  there := fun r h => by
    split at h
    · simp only [rows_un_byts h]
    · cases h
def dl01Curs (l : List Tl01Cur) : List (List D) := c_dl01Curs.rows l
def is_dl01Curs (r : List (List D)) : Bool := c_dl01Curs.isL r
def un_dl01Curs (r : List (List D)) : List Tl01Cur := c_dl01Curs.unL r
@[simp] theorem dl01Curs_len (l : List Tl01Cur) : (dl01Curs l).length = l.length := c_dl01Curs.rows_len l
@[simp] theorem dl01Curs_app (l m : List Tl01Cur) : dl01Curs (l ++ m) = dl01Curs l ++ dl01Curs m := c_dl01Curs.rows_app l m
@[simp] theorem dl01Curs_wid (l : List Tl01Cur) : wid 3 (dl01Curs l) = true := c_dl01Curs.rows_wid l
theorem dl01Curs_get {l : List Tl01Cur} {j : Nat} (h : j < l.length) : (dl01Curs l)[j]? = some ((fun x => [.l (byts x.f_b), .a (.int .i64 x.f_i), .a (.int .i64 x.f_h)]) l[j]) := c_dl01Curs.rows_get h
@[simp] theorem dl01Curs_at {l : List Tl01Cur} {j : Nat} (h : j < (dl01Curs l).length) : (dl01Curs l)[j] = (fun x => [.l (byts x.f_b), .a (.int .i64 x.f_i), .a (.int .i64 x.f_h)]) (l[j]'(by simpa using h)) := by
  have h2 := dl01Curs_get (l := l) (j := j) (by simpa using h)
  rw [List.getElem?_eq_getElem h] at h2; injection h2
@[simp] theorem dl01Curs_drop (l : List Tl01Cur) (i : Nat) : (dl01Curs l).drop i = dl01Curs (l.drop i) := c_dl01Curs.rows_drop l i
@[simp] theorem dl01Curs_take (l : List Tl01Cur) (i : Nat) : (dl01Curs l).take i = dl01Curs (l.take i) := c_dl01Curs.rows_take l i
@[simp] theorem is_dl01Curs_rows (l : List Tl01Cur) : is_dl01Curs (dl01Curs l) = true := c_dl01Curs.isL_rows l
@[simp] theorem is_dl01Curs_nil : is_dl01Curs [] = true := id rfl
@[simp] theorem is_dl01Curs_app (r q : List (List D)) : is_dl01Curs (r ++ q) = (is_dl01Curs r && is_dl01Curs q) := c_dl01Curs.isL_app r q
@[simp] theorem un_dl01Curs_rows (l : List Tl01Cur) : un_dl01Curs (dl01Curs l) = l := c_dl01Curs.unL_rows l
@[simp] theorem un_dl01Curs_nil : un_dl01Curs [] = [] := id rfl
@[simp] theorem un_dl01Curs_app (r q : List (List D)) : un_dl01Curs (r ++ q) = un_dl01Curs r ++ un_dl01Curs q := c_dl01Curs.unL_app r q
end Go.Proofs.YtjhdikdopdcfcaaGreatDoor
namespace Go.Proofs.YtjhdikdopdcfcaaGreatDoor
open Go.RowKit
def Ext (w w' : World) : Prop := Below w.heap.size w w'
theorem Ext.refl (w : World) : Ext w w := Below.refl _ _
theorem Ext.trans {a b c : World} (h : Ext a b) (k : Ext b c) : Ext a c := Below.trans h (Below.mono k (Below.size h))
theorem Ext.cell {w w' : World} (h : Ext w w') {p : Addr} {v : Value} (hc : w.cell? p = some v) : w'.cell? p = some v :=
  (Below.cell h (World.block_lt_of_cell? w p hc)).trans hc
theorem Ext.size {w w' : World} (h : Ext w w') : w.heap.size ≤ w'.heap.size := Below.size h
theorem Ext.alloc {a w : World} (h : Ext a w) (o : Obj) : Ext a (w.alloc o) := Below.alloc h (Below.size h) o
theorem Ext.drew {a w : World} (h : Ext a w) : Ext a w.drew := Below.drew h
theorem rowAll {w : World} {g : Nat} {T : TypeId} {cs : Array Value} (h : w.heap[g]? = some (.cells cs T (0, 0))) : (∀ i, w.cell? ⟨g, i, none⟩ = cs[i]?) ∧ (∀ i, w.frozen? ⟨g, i, none⟩ = false) ∧ g < w.heap.size :=
  ⟨fun i => cell_of_row w g i cs T (0, 0) h, fun i => frozen_of_row w g i cs T h, (Array.getElem?_eq_some_iff.1 h).1⟩
theorem row_new (w : World) (o : Obj) : (w.alloc o).heap[w.heap.size]? = some o := heap_alloc_new w o
theorem row_ext {w w' : World} {g : Nat} {o : Obj} (h : w.heap[g]? = some o) (x : Ext w w') : w'.heap[g]? = some o := (Below.block x g (Array.getElem?_eq_some_iff.1 h).1).trans h
theorem Ext.row {W w w' : World} {g : Nat} (h : Ext W w) (x : w.grownBy w' (some g)) (hg : W.heap.size ≤ g) : Ext W w' := Below.grown h x h.size (fun k hk => by injection hk with hk; omega)
structure Pc where
  P : World → List Nat → Prop
  st : ∀ {w w' : World} {F : List Nat}, P w F → (∀ b ∈ F, w'.heap[b]? = w.heap[b]?) → P w' F
inductive Sep (w : World) : List Pc → List Nat → Prop
  | nil : Sep w [] []
  | cons {h : Pc} {L : List Pc} {F G : List Nat} : h.P w F → Sep w L G → Sep w (h :: L) (F ++ G)
theorem Sep.st {w w' : World} {L : List Pc} {F : List Nat} (h : Sep w L F) (hk : ∀ b ∈ F, w'.heap[b]? = w.heap[b]?) : Sep w' L F := by
  induction h with
  | nil => exact .nil
  | cons h1 _ ih => exact .cons (Pc.st _ h1 fun b hb => hk b (List.mem_append_left _ hb)) (ih fun b hb => hk b (List.mem_append_right _ hb))
theorem Sep.uncons {w : World} {h : Pc} {L : List Pc} {F : List Nat} (s : Sep w (h :: L) F) : ∃ F1 G, F = F1 ++ G ∧ h.P w F1 ∧ Sep w L G := by
  cases s with
  | cons a b => exact ⟨_, _, rfl, a, b⟩
structure St (W w : World) (L : List Pc) : Prop where
  ext : Ext W w
  sep : ∃ F, Sep w L F ∧ F.Nodup ∧ ∀ b ∈ F, W.heap.size ≤ b ∧ b < w.heap.size
theorem St.refl (w : World) : St w w [] := ⟨Ext.refl w, [], .nil, List.nodup_nil, fun _ h => by cases h⟩
theorem St.of {W w : World} (x : Ext W w) : St W w [] := ⟨x, [], .nil, List.nodup_nil, fun _ h => by cases h⟩
theorem St.call {W w w' : World} {L : List Pc} (S : St W w L) (x : Ext w w') : St W w' L := by
  obtain ⟨F, s, n, hb⟩ := S.sep
  refine ⟨S.ext.trans x, F, s.st fun b h => Below.block x b (hb b h).2, n, fun b h => ⟨(hb b h).1, ?_⟩⟩
  have := x.size; have := (hb b h).2; omega
theorem St.drew {W w : World} {L : List Pc} (S : St W w L) : St W w.drew L := S.call (Ext.refl w).drew
theorem St.drop {W w : World} {h : Pc} {L : List Pc} (S : St W w (h :: L)) : St W w L := by
  obtain ⟨F, s, n, hb⟩ := S.sep
  obtain ⟨F1, G, rfl, _, g⟩ := s.uncons
  exact ⟨S.ext, G, g, (List.nodup_append.1 n).2.1, fun b h => hb b (List.mem_append_right _ h)⟩
theorem Sep.swap {w : World} {h k : Pc} {L : List Pc} {F : List Nat} (s : Sep w (h :: k :: L) F) : ∃ F', Sep w (k :: h :: L) F' ∧ F'.Perm F := by
  obtain ⟨F1, G, rfl, a, g⟩ := s.uncons
  obtain ⟨F2, G2, rfl, b, g2⟩ := g.uncons
  refine ⟨F2 ++ (F1 ++ G2), .cons b (.cons a g2), ?_⟩
  rw [← List.append_assoc, ← List.append_assoc]
  exact List.Perm.append_right _ List.perm_append_comm
theorem St.swap {W w : World} {h k : Pc} {L : List Pc} (S : St W w (h :: k :: L)) : St W w (k :: h :: L) := by
  obtain ⟨F, s, n, hb⟩ := S.sep
  obtain ⟨F', s', p⟩ := s.swap
  exact ⟨S.ext, F', s', p.nodup_iff.2 n, fun b h => hb b (p.mem_iff.1 h)⟩
theorem St.tail {W w : World} {h : Pc} {L L' : List Pc} (S : St W w (h :: L)) (f : ∀ F, Sep w L F → ∃ F', Sep w L' F' ∧ F'.Perm F) : St W w (h :: L') := by
  obtain ⟨F, s, n, hb⟩ := S.sep
  obtain ⟨F1, G, rfl, a, g⟩ := s.uncons
  obtain ⟨G', g', p⟩ := f G g
  have p2 : (F1 ++ G').Perm (F1 ++ G) := List.Perm.append_left _ p
  exact ⟨S.ext, _, .cons a g', p2.nodup_iff.2 n, fun b h => hb b (p2.mem_iff.1 h)⟩
theorem Sep.bring {w : World} : ∀ (i : Nat) {h : Pc} {L : List Pc} {F : List Nat}, Sep w L F → L[i]? = some h → ∃ F', Sep w (h :: L.eraseIdx i) F' ∧ F'.Perm F
  | 0, h, [], F, _, e => by cases e
  | i + 1, h, [], F, _, e => by cases e
  | 0, h, k :: L, F, s, e => by
    simp only [List.getElem?_cons_zero, Option.some.injEq] at e
    subst e
    exact ⟨F, s, List.Perm.refl _⟩
  | i + 1, h, k :: L, F, s, e => by
    obtain ⟨F1, G, rfl, a, g⟩ := s.uncons
    obtain ⟨G', g', p⟩ := Sep.bring i (L := L) g (by simpa using e)
    obtain ⟨F', s', p'⟩ := Sep.swap (.cons a g')
    exact ⟨F', s', p'.trans (List.Perm.append_left _ p)⟩
theorem St.bring {W w : World} {L : List Pc} (S : St W w L) (i : Nat) {h : Pc} (e : L[i]? = some h) : St W w (h :: L.eraseIdx i) := by
  obtain ⟨F, s, n, hb⟩ := S.sep
  obtain ⟨F', s', p⟩ := s.bring i e
  exact ⟨S.ext, F', s', p.nodup_iff.2 n, fun b h => hb b (p.mem_iff.1 h)⟩
theorem St.open_ {W w : World} {h : Pc} {L : List Pc} (S : St W w (h :: L)) : ∃ F, h.P w F ∧ F.Nodup ∧ (∀ b ∈ F, W.heap.size ≤ b ∧ b < w.heap.size) ∧
    ∀ (w' : World) (h' : Pc) (F' : List Nat), w'.os = w.os → w'.tape = w.tape → w'.output = w.output → w.heap.size ≤ w'.heap.size → (∀ b, b < w.heap.size → b ∉ F → w'.heap[b]? = w.heap[b]?) →
      h'.P w' F' → F'.Nodup → (∀ b ∈ F', (b ∈ F ∨ w.heap.size ≤ b) ∧ b < w'.heap.size) → St W w' (h' :: L) := by
  obtain ⟨F, s, n, hb⟩ := S.sep
  obtain ⟨F1, G, rfl, a, g⟩ := s.uncons
  obtain ⟨n1, n2, n3⟩ := List.nodup_append.1 n
  refine ⟨F1, a, n1, fun b h => hb b (List.mem_append_left _ h), fun w' h' F' e1 e2 e3 hs hk hp hn hF => ?_⟩
  refine ⟨?_, F' ++ G, .cons hp (g.st fun b h => hk b (hb b (List.mem_append_right _ h)).2 fun h1 => n3 b h1 b h rfl), ?_, ?_⟩
  · refine ⟨e1.trans S.ext.os, e2.trans S.ext.tape, e3.trans S.ext.output, Nat.le_trans S.ext.size hs, fun k hk2 => ?_⟩
    have := S.ext.size
    exact (hk k (by omega) fun h1 => by have := (hb k (List.mem_append_left _ h1)).1; omega).trans (Below.block S.ext k hk2)
  · refine List.nodup_append.2 ⟨hn, n2, fun b h1 c h2 e => ?_⟩
    subst e
    rcases (hF b h1).1 with h3 | h3
    · exact n3 b h3 b h2 rfl
    · have := (hb b (List.mem_append_right _ h2)).2; omega
  · intro b h
    rcases List.mem_append.1 h with h1 | h1
    · refine ⟨?_, (hF b h1).2⟩
      rcases (hF b h1).1 with h3 | h3
      · exact (hb b (List.mem_append_left _ h3)).1
      · have := S.ext.size; omega
    · have := hb b (List.mem_append_right _ h1)
      exact ⟨this.1, by omega⟩
theorem St.more {W w w' : World} {L : List Pc} (S : St W w L) (x : Ext w w') {h : Pc} {F : List Nat} (hp : h.P w' F) (hn : F.Nodup) (hF : ∀ b ∈ F, w.heap.size ≤ b ∧ b < w'.heap.size) : St W w' (h :: L) := by
  obtain ⟨G, s, n, hb⟩ := S.sep
  have hs := x.size
  have hs2 := S.ext.size
  refine ⟨S.ext.trans x, F ++ G, .cons hp (s.st fun b h => Below.block x b (hb b h).2), List.nodup_append.2 ⟨hn, n, fun b h1 c h2 e => ?_⟩, fun b h => ?_⟩
  · subst e; have := (hF b h1).1; have := (hb b h2).2; omega
  · rcases List.mem_append.1 h with h1 | h1
    · have := hF b h1; exact ⟨by omega, this.2⟩
    · have := hb b h1; exact ⟨this.1, by omega⟩
def rowP (b : Nat) (T : TypeId) (cs : Array Value) : Pc := ⟨fun w F => F = [b] ∧ w.heap[b]? = some (.cells cs T (0, 0)), fun h k => ⟨h.1, (k b (by rw [h.1]; simp)).trans h.2⟩⟩
theorem St.row {W w : World} {b : Nat} {T : TypeId} {cs : Array Value} {L : List Pc} (S : St W w L) (i : Nat) (e : L[i]? = some (rowP b T cs)) : w.heap[b]? = some (.cells cs T (0, 0)) := by
  obtain ⟨F, s, -, -⟩ := (S.bring i e).sep
  obtain ⟨_, _, _, a, _⟩ := s.uncons
  exact a.2
theorem St.cells {W w : World} {b : Nat} {T : TypeId} {cs : Array Value} {L : List Pc} (S : St W w L) (i : Nat) (e : L[i]? = some (rowP b T cs)) : (∀ i, w.cell? ⟨b, i, none⟩ = cs[i]?) ∧ (∀ i, w.frozen? ⟨b, i, none⟩ = false) ∧ b < w.heap.size := rowAll (S.row i e)
theorem St.alloc {W w : World} {L : List Pc} (S : St W w L) (cs : Array Value) (T : TypeId) : St W (w.alloc (.cells cs T)) (rowP w.heap.size T cs :: L) :=
  S.more ((Ext.refl w).alloc _) (F := [w.heap.size]) ⟨rfl, row_new w _⟩ (by simp) (by simp)
theorem St.skip {W w : World} {L : List Pc} (S : St W w L) (o : Obj) : St W (w.alloc o) L := S.call ((Ext.refl w).alloc o)
theorem St.set {W w w' : World} {b : Nat} {T : TypeId} {cs cs' : Array Value} {L : List Pc} (S : St W w (rowP b T cs :: L)) (h : w'.heap[b]? = some (.cells cs' T (0, 0))) (g : w.grownBy w' (some b)) : St W w' (rowP b T cs' :: L) := by
  obtain ⟨F, ⟨rfl, _⟩, _, hb, k⟩ := S.open_
  have hb2 := hb b (by simp)
  refine k w' _ [b] g.os g.tape g.output g.size (fun c hc hne => g.block c hc (fun e => hne (by injection e with e; simp [e]))) ⟨rfl, h⟩ (by simp) (fun c hc => ?_)
  have := g.size
  simp at hc; subst hc; exact ⟨.inl (by simp), by omega⟩
theorem flat_get {α : Type} {k : Nat} : ∀ (rows : List (List α)) (i j : Nat) (r : List α) (d : α), (∀ r ∈ rows, r.length = k) → rows[i]? = some r → r[j]? = some d → rows.flatten[i * k + j]? = some d
  | [], i, j, r, d, _, h, _ => by simp at h
  | r0 :: rows, 0, j, r, d, u, h, e => by
    simp at h; subst h
    rw [List.flatten_cons, Nat.zero_mul, Nat.zero_add, List.getElem?_append_left (List.getElem?_eq_some_iff.1 e).1]; exact e
  | r0 :: rows, i + 1, j, r, d, u, h, e => by
    have h0 : r0.length = k := u r0 (by simp)
    rw [List.flatten_cons, List.getElem?_append_right (by rw [h0, Nat.succ_mul]; omega), h0, show (i + 1) * k + j - k = i * k + j by rw [Nat.succ_mul]; omega]
    exact flat_get rows i j r d (fun r hr => u r (List.mem_cons_of_mem _ hr)) (by simpa using h) e
theorem flat_len {α : Type} {k : Nat} : ∀ (rows : List (List α)), (∀ r ∈ rows, r.length = k) → rows.flatten.length = rows.length * k
  | [], _ => by simp
  | r0 :: rows, u => by
    rw [List.flatten_cons, List.length_append, u r0 (by simp), flat_len rows fun r hr => u r (List.mem_cons_of_mem _ hr), List.length_cons, Nat.succ_mul]; omega
theorem flat_set {α : Type} {k : Nat} : ∀ (rows : List (List α)) (i j : Nat) (r : List α) (d : α), (∀ r ∈ rows, r.length = k) → rows[i]? = some r → j < k → (rows.set i (r.set j d)).flatten = rows.flatten.set (i * k + j) d
  | [], i, j, r, d, _, h, _ => by simp at h
  | r0 :: rows, 0, j, r, d, u, h, e => by
    simp at h; subst h
    have h0 : r0.length = k := u r0 (by simp)
    simp [h0, e]
  | r0 :: rows, i + 1, j, r, d, u, h, e => by
    have h0 : r0.length = k := u r0 (by simp)
    have hn : ¬ ((i + 1) * k + j < r0.length) := by rw [h0, Nat.succ_mul]; omega
    simp only [List.set_cons_succ, List.flatten_cons, List.set_append, hn, if_false]
    rw [flat_set rows i j r d (fun r hr => u r (List.mem_cons_of_mem _ hr)) (by simpa using h) e, h0, show (i + 1) * k + j - k = i * k + j by rw [Nat.succ_mul]; omega]
def heapOf (w : World) : Nat → Obj → Prop := fun b o => w.heap[b]? = some o
inductive RdD (G : Nat → Obj → Prop) : D → Value → Prop
  | a (x : Value) : RdD G (.a x) x
  | gone (u : Value) (h : u.oneCell' = true) : RdD G .gone u
  | nil (A : Option Addr) (c : Nat) (hm : c ≤ 9223372036854775807) (hA0 : A = none → c = 0) : RdD G (.l []) (.slice A 0 c)
  | l (rows : List (List D)) (n c b o k : Nat) (T : TypeId) (fr : Nat × Nat) (cs : Array Value) (us : Nat → Value) (hn : rows.length = n) (h0 : 0 < n) (hc : n ≤ c) (hm : c ≤ 9223372036854775807) (hk : 0 < k) (hu : ∀ r ∈ rows, r.length = k) (hb : G b (.cells cs T fr))
      (hcell : ∀ i d, rows.flatten[i]? = some d → cs[o + i]? = some (us i)) (hr : ∀ i d, rows.flatten[i]? = some d → RdD G d (us i)) : RdD G (.l rows) (.slice (some ⟨b, o, none⟩) n c)
theorem RdD.mono {G G' : Nat → Obj → Prop} {v : Value} {d : D} (h : RdD G d v) (x : ∀ b o, G b o → G' b o) : RdD G' d v := by
  induction h with
  | a v => exact .a v
  | gone u hu => exact .gone u hu
  | nil A c h1 h2 => exact .nil A c h1 h2
  | l rows n c b o k T fr cs us h1 h2 h3 h4 h5 h6 h7 h8 _ ih => exact .l rows n c b o k T fr cs us h1 h2 h3 h4 h5 h6 (x _ _ h7) h8 ih
theorem RdD.atom {G : Nat → Obj → Prop} {v u : Value} (h : RdD G (.a v) u) : u = v := by cases h; rfl
theorem RdD.len {G : Nat → Obj → Prop} {v : Value} {rows : List (List D)} (h : RdD G (.l rows) v) : ∃ A c, v = .slice A rows.length c ∧ rows.length ≤ c ∧ c ≤ 9223372036854775807 ∧ (A = none → c = 0) := by
  cases h with
  | nil A c h1 h2 => exact ⟨A, c, rfl, Nat.zero_le _, h1, h2⟩
  | l _ n c b o k T fr cs us h1 h2 h3 h4 => exact ⟨some ⟨b, o, none⟩, c, by rw [h1], by omega, h4, fun h => by cases h⟩
theorem RdD.at_ {G : Nat → Obj → Prop} {v : Value} {rows : List (List D)} (h : RdD G (.l rows) v) {i : Nat} {r : List D} (hi : rows[i]? = some r) :
    ∃ c b o T fr cs, v = .slice (some ⟨b, o, none⟩) rows.length c ∧ G b (.cells cs T fr) ∧ ∀ (j : Nat) (d : D), r[j]? = some d → ∃ u, cs[o + (i * r.length + j)]? = some u ∧ RdD G d u := by
  cases h with
  | nil A c h1 h2 => simp at hi
  | l _ n c b o k T fr cs us h1 h2 h3 h4 h5 h6 h7 h8 h9 =>
    have hk : r.length = k := h6 r (List.mem_of_getElem? hi)
    refine ⟨c, b, o, T, fr, cs, by rw [h1], h7, fun j d e => ?_⟩
    have f := flat_get rows i j r d h6 hi e
    rw [hk]
    exact ⟨_, h8 _ _ f, h9 _ _ f⟩
inductive OwnD (w : World) : D → Value → List Nat → Prop
  | a (x : Value) : OwnD w (.a x) x []
  | gone (u : Value) (h : u.oneCell' = true) : OwnD w .gone u []
  | nil (A : Option Addr) (F : List Nat) : OwnD w (.l []) (.slice A 0 0) F
  | l (rows : List (List D)) (n c g o k : Nat) (T : TypeId) (cs : Array Value) (us : Nat → Value) (fs : Nat → List Nat) (hn : rows.length = n) (hc : n ≤ c) (hm : c ≤ maxLen) (hk : 0 < k) (hu : ∀ r ∈ rows, r.length = k) (hs : cs.size = o + c * k) (h0 : rows = [] → c = 0)
      (hb : w.heap[g]? = some (.cells cs T (0, 0))) (hcell : ∀ i d, rows.flatten[i]? = some d → cs[o + i]? = some (us i)) (hr : ∀ i d, rows.flatten[i]? = some d → OwnD w d (us i) (fs i)) :
      OwnD w (.l rows) (.slice (some ⟨g, o, none⟩) n c) (g :: (List.range rows.flatten.length).flatMap fs)
theorem OwnD.st {w w' : World} {v : Value} {d : D} {F : List Nat} (h : OwnD w d v F) (hk : ∀ b ∈ F, w'.heap[b]? = w.heap[b]?) : OwnD w' d v F := by
  induction h with
  | a v => exact .a v
  | gone u hu => exact .gone u hu
  | nil A F => exact .nil A F
  | l rows n c g o k T cs us fs h1 h2 h3 h4 h5 h6 h0 h7 h8 _ ih =>
    refine .l rows n c g o k T cs us fs h1 h2 h3 h4 h5 h6 h0 ((hk g List.mem_cons_self).trans h7) h8 (fun i d e => ih i d e fun b hb => hk b (List.mem_cons_of_mem _ (List.mem_flatMap.2 ⟨i, ?_, hb⟩)))
    exact List.mem_range.2 (List.getElem?_eq_some_iff.1 e).1
theorem OwnD.rd {w : World} {v : Value} {d : D} {F : List Nat} (h : OwnD w d v F) {G : Nat → Obj → Prop} (x : ∀ b ∈ F, ∀ o, w.heap[b]? = some o → G b o) : RdD G d v := by
  induction h with
  | a v => exact .a v
  | gone u hu => exact .gone u hu
  | nil A F => exact .nil A 0 (by omega) (fun _ => rfl)
  | l rows n c g o k T cs us fs h1 h2 h3 h4 h5 h6 h00 h7 h8 _ ih =>
    rcases Nat.eq_zero_or_pos n with h0 | h0
    · subst h0
      obtain rfl : rows = [] := List.eq_nil_of_length_eq_zero h1
      exact .nil _ c (by unfold maxLen at h3; omega) (fun h => nomatch h)
    · refine .l rows n c g o k T (0, 0) cs us h1 h0 h2 (by unfold maxLen at h3; omega) h4 h5 (x g List.mem_cons_self _ h7) (fun i d e => h8 i d e) (fun i d e => ih i d e fun b hb => x b (List.mem_cons_of_mem _ (List.mem_flatMap.2 ⟨i, ?_, hb⟩)))
      exact List.mem_range.2 (List.getElem?_eq_some_iff.1 e).1
def ownP (u : Value) (rows : List (List D)) : Pc := ⟨fun w F => OwnD w (.l rows) u F, fun h k => h.st k⟩
structure Hd where
  v : Value
  cv : Nat → Value
structure TreeD (w : World) (rows : List (List D)) (h : Hd) (F : List Nat) : Prop where
  own : OwnD w (.l rows) h.v F
  hd : ∀ (g o n c : Nat) (cs : Array Value) (T : TypeId) (fr : Nat × Nat) (m : Nat) (r' : List (List D)), h.v = .slice (some ⟨g, o, none⟩) n c → w.heap[g]? = some (.cells cs T fr) → rows.flatten[m]? = some (.l r') → cs[o + m]? = some (h.cv m)
theorem TreeD.st {w w' : World} {rows : List (List D)} {h : Hd} {F : List Nat} (t : TreeD w rows h F) (hk : ∀ b ∈ F, w'.heap[b]? = w.heap[b]?) : TreeD w' rows h F := by
  refine ⟨t.own.st hk, fun g ob n c cs T fr m r' e1 e2 e3 => t.hd g ob n c cs T fr m r' e1 ?_ e3⟩
  rw [← hk g ?_]; exact e2
  have o := t.own
  rw [e1] at o
  cases o with
  | nil A F => simp at e3
  | l => exact List.mem_cons_self
theorem OwnD.tree {w : World} {rows : List (List D)} {u : Value} {F : List Nat} (o : OwnD w (.l rows) u F) : ∃ h : Hd, h.v = u ∧ TreeD w rows h F := by
  cases o with
  | nil A F => exact ⟨⟨.slice A 0 0, fun _ => undef⟩, rfl, .nil A F, fun g ob n c cs T fr m r' e1 e2 e3 => by simp at e3⟩
  | l _ n c g ob k T cs us fs h1 h2 h3 h4 h5 h6 h0 h7 h8 h9 =>
    refine ⟨⟨_, us⟩, rfl, .l rows n c g ob k T cs us fs h1 h2 h3 h4 h5 h6 h0 h7 h8 h9, fun g' ob' n' c' cs' T' fr m r' e1 e2 e3 => ?_⟩
    injection e1 with e1 _ _; injection e1 with e1; injection e1 with e1 eo _
    subst e1; subst eo
    rw [h7] at e2; injection e2 with e2; injection e2 with e2 _ _
    rw [← e2]; exact h8 m _ e3
def treeP (h : Hd) (rows : List (List D)) : Pc := ⟨fun w F => TreeD w rows h F, fun t k => t.st k⟩
def nilHd : Hd := ⟨.slice none 0 0, fun _ => undef⟩
theorem TreeD.nil (w : World) : TreeD w [] nilHd [] := ⟨.nil none [], fun g ob n c cs T fr m r' e1 => by cases e1⟩
theorem St.untree {W w : World} {h : Hd} {rows : List (List D)} {L : List Pc} (S : St W w (treeP h rows :: L)) : St W w (ownP h.v rows :: L) := by
  obtain ⟨F, s, n, hb⟩ := S.sep
  obtain ⟨F1, G, rfl, a, g⟩ := s.uncons
  exact ⟨S.ext, _, .cons (h := ownP h.v rows) (TreeD.own a) g, n, hb⟩
theorem St.tree {W w : World} {u : Value} {rows : List (List D)} {L : List Pc} (S : St W w (ownP u rows :: L)) : ∃ h : Hd, h.v = u ∧ St W w (treeP h rows :: L) := by
  obtain ⟨F, s, n, hb⟩ := S.sep
  obtain ⟨F1, G, rfl, a, g⟩ := s.uncons
  obtain ⟨h, e, t⟩ := OwnD.tree a
  exact ⟨h, e, S.ext, _, .cons (h := treeP h rows) t g, n, hb⟩
theorem St.tree_at {W w : World} {h : Hd} {rows : List (List D)} {L : List Pc} (S : St W w L) (hm : treeP h rows ∈ L) : ∃ F, TreeD w rows h F := by
  obtain ⟨i, e⟩ := List.getElem?_of_mem hm
  obtain ⟨F, s, _, _⟩ := (S.bring i e).sep
  obtain ⟨F1, _, rfl, a, _⟩ := s.uncons
  exact ⟨F1, a⟩
theorem St.own_at {W w : World} {u : Value} {rows : List (List D)} {L : List Pc} (S : St W w L) (h : ownP u rows ∈ L) : ∃ F, OwnD w (.l rows) u F := by
  obtain ⟨i, e⟩ := List.getElem?_of_mem h
  obtain ⟨F, s, _, _⟩ := (S.bring i e).sep
  obtain ⟨F1, _, rfl, a, _⟩ := s.uncons
  exact ⟨F1, a⟩
theorem St.rd {W w : World} {u : Value} {rows : List (List D)} {L : List Pc} (S : St W w L) (h : ownP u rows ∈ L) : RdD (heapOf w) (.l rows) u := by
  obtain ⟨F, a⟩ := S.own_at h
  exact a.rd fun _ _ _ e => e
theorem St.row_at {W w : World} {b : Nat} {T : TypeId} {cs : Array Value} {L : List Pc} (S : St W w L) (h : rowP b T cs ∈ L) : w.heap[b]? = some (.cells cs T (0, 0)) := by
  obtain ⟨i, e⟩ := List.getElem?_of_mem h
  exact S.row i e
def snapP (w0 : World) (F : List Nat) : Pc := ⟨fun w F' => F' = F ∧ ∀ b ∈ F, w.heap[b]? = w0.heap[b]?, fun h k => ⟨h.1, fun b hb => (k b (by rw [h.1]; exact hb)).trans (h.2 b hb)⟩⟩
theorem St.snap_at {W w w0 : World} {F : List Nat} {L : List Pc} (S : St W w L) (h : snapP w0 F ∈ L) : ∀ b ∈ F, w.heap[b]? = w0.heap[b]? := by
  obtain ⟨i, e⟩ := List.getElem?_of_mem h
  obtain ⟨G, s, _, _⟩ := (S.bring i e).sep
  obtain ⟨F1, _, rfl, a, _⟩ := s.uncons
  exact a.2
end Go.Proofs.YtjhdikdopdcfcaaGreatDoor
namespace Go.Proofs.YtjhdikdopdcfcaaGreatDoor
open Go.RowKit
theorem cell_keep {W w : World} (h : ∀ b o, heapOf W b o → w.heap[b]? = some o) {b i : Nat} {v : Value} (hc : W.cell? ⟨b, i, none⟩ = some v) : w.cell? ⟨b, i, none⟩ = some v := by
  have hb : b < W.heap.size := World.block_lt_of_cell? W _ hc
  have e0 : W.heap[b]? = some W.heap[b] := Array.getElem?_eq_getElem hb
  have e : w.heap[b]? = W.heap[b]? := (h b _ e0).trans e0.symm
  unfold World.cell? at hc ⊢
  rw [e]; exact hc
def ZSplit (w : World) : Prop := ∃ m : Int, w.cell? ⟨0, 0, none⟩ = some (.int .i64 m)
theorem ZSplit.keep {W w : World} (h : ∀ b o, heapOf W b o → w.heap[b]? = some o) (z : ZSplit W) : ZSplit w := z.imp fun _ e => cell_keep h e
def ZW (w : World) : Prop := True
  ∧ ZSplit w
def Zed (K : Nat → Obj → Prop) : Prop := ∀ w : World, (∀ b o, K b o → w.heap[b]? = some o) → ZW w
theorem zed_top {W : World} (z : ZW W) : Zed (heapOf W) := fun w h => by
  exact ⟨trivial, z.2.keep h⟩
end Go.Proofs.YtjhdikdopdcfcaaGreatDoor
namespace Go.Proofs.YtjhdikdopdcfcaaGreatDoor
open Go.RowKit
set_option linter.unusedSimpArgs false
set_option linter.unusedVariables false
def IsMp (es : List (Int × Int)) (ents : Array MapEntry) : Prop := ents.toList.map (fun e => (e.key, e.val)) = es.map fun p => (Value.int .i64 p.1, Value.int .i64 p.2)
def MpIn (G : Nat → Obj → Prop) (es : List (Int × Int)) (u : Value) : Prop := ∃ b ents clock, u = .map (some b) ∧ G b (.map ents clock) ∧ IsMp es ents
theorem MpIn.mono {G G' : Nat → Obj → Prop} {es : List (Int × Int)} {u : Value} (h : MpIn G es u) (x : ∀ b o, G b o → G' b o) : MpIn G' es u := by
  obtain ⟨b, ents, clock, h1, h2, h3⟩ := h
  exact ⟨b, ents, clock, h1, x _ _ h2, h3⟩
structure Rel where
  K : Nat → Obj → Prop
  Z : Nat → Obj → Prop
  src : Nat → Value
  bl : Nat → Nat
  hd : Nat → Hd
  Lb : Nat → Prop
  Lt : Nat → Prop
mutual
def RV (ρ : Rel) : V → Value → Prop
  | .v x, u => u = x
  | .nil, u => u = .slice none 0 0
  | .lst o rows, u => RdD ρ.K (.l rows) u ∧ ∀ j, o = some j → ρ.src j = u
  | .own p, u => ρ.Lt p ∧ u = (ρ.hd p).v
  | .inn p i j k, u => ρ.Lt p ∧ u = (ρ.hd p).cv (i * k + j) ∧ u.oneCell' = true
  | .fz rows, u => RdD ρ.Z (.l rows) u
  | .mp es, u => MpIn ρ.Z es u
  | .ref b off, u => ρ.Lb b ∧ u = .pointer (some ⟨ρ.bl b, off, none⟩)
  | .pe base k i off, u => ∃ ub, RV ρ base ub ∧ ∃ g o n c, ub = .slice (some ⟨g, o, none⟩) n c ∧ i < n ∧ u = .pointer (some ⟨g, o + (i * k + off), none⟩)
  | .agg cs, u => ∃ us, u = .agg us.toArray ∧ RVs ρ cs us
  | .tup cs, u => ∃ us, u = .tuple us.toArray ∧ RVs ρ cs us
  | .fn f cs, u => ∃ us, u = .func (.func f) #[] us.toArray ∧ RVs ρ cs us
  | .dead, _ => True
def RVs (ρ : Rel) : List V → List Value → Prop
  | [], us => us = []
  | v :: r, us => ∃ u q, us = u :: q ∧ RV ρ v u ∧ RVs ρ r q
end
structure Rel.le (ρ ρ' : Rel) : Prop where
  K : ∀ b o, ρ.K b o → ρ'.K b o
  Z : ∀ b o, ρ.Z b o → ρ'.Z b o
  src : ρ'.src = ρ.src
  b : ∀ b, ρ.Lb b → ρ'.Lb b ∧ ρ'.bl b = ρ.bl b
  t : ∀ p, ρ.Lt p → ρ'.Lt p ∧ ρ'.hd p = ρ.hd p
theorem Rel.le.refl (ρ : Rel) : ρ.le ρ := ⟨fun _ _ h => h, fun _ _ h => h, rfl, fun _ h => ⟨h, rfl⟩, fun _ h => ⟨h, rfl⟩⟩
mutual
theorem RV.le {ρ ρ' : Rel} (e : ρ.le ρ') : ∀ {v : V} {u : Value}, RV ρ v u → RV ρ' v u
  | .v _, _, h => h
  | .nil, _, h => h
  | .lst _ _, _, h => ⟨h.1.mono e.K, fun j i => by rw [e.src]; exact h.2 j i⟩
  | .own p, _, h => ⟨(e.t p h.1).1, by rw [(e.t p h.1).2]; exact h.2⟩
  | .inn p _ _ _, _, h => ⟨(e.t p h.1).1, by rw [(e.t p h.1).2]; exact h.2⟩
  | .fz _, _, h => RdD.mono h e.Z
  | .mp _, _, h => MpIn.mono h e.Z
  | .ref b _, _, h => ⟨(e.b b h.1).1, by rw [(e.b b h.1).2]; exact h.2⟩
  | .pe _ _ _ _, _, h => by obtain ⟨ub, h1, h2⟩ := h; exact ⟨ub, RV.le e h1, h2⟩
  | .agg _, _, h => by obtain ⟨us, h1, h2⟩ := h; exact ⟨us, h1, RVs.le e h2⟩
  | .tup _, _, h => by obtain ⟨us, h1, h2⟩ := h; exact ⟨us, h1, RVs.le e h2⟩
  | .fn _ _, _, h => by obtain ⟨us, h1, h2⟩ := h; exact ⟨us, h1, RVs.le e h2⟩
  | .dead, _, _ => trivial
theorem RVs.le {ρ ρ' : Rel} (e : ρ.le ρ') : ∀ {vs : List V} {us : List Value}, RVs ρ vs us → RVs ρ' vs us
  | [], _, h => h
  | _ :: _, _, h => by obtain ⟨u, q, h1, h2, h3⟩ := h; exact ⟨u, q, h1, RV.le e h2, RVs.le e h3⟩
end
mutual
theorem RV.less {ρ ρ' : Rel} {p : Nat} (hK : ρ'.K = ρ.K) (hZ : ∀ b o, ρ.Z b o → ρ'.Z b o) (hs : ρ'.src = ρ.src) (hb : ∀ b, ρ.Lb b → ρ'.Lb b ∧ ρ'.bl b = ρ.bl b) (ht : ∀ q, q ≠ p → ρ.Lt q → ρ'.Lt q ∧ ρ'.hd q = ρ.hd q) :
    ∀ {v : V} {u : Value}, mentions p v = false → RV ρ v u → RV ρ' v u
  | .v _, _, _, h => h
  | .nil, _, _, h => h
  | .lst _ _, _, _, h => ⟨by rw [hK]; exact h.1, fun j i => by rw [hs]; exact h.2 j i⟩
  | .own q, _, m, h => by
    have hq : q ≠ p := by intro e; subst e; simp [mentions] at m
    exact ⟨(ht q hq h.1).1, by rw [(ht q hq h.1).2]; exact h.2⟩
  | .inn q _ _ _, _, m, h => by
    have hq : q ≠ p := by intro e; subst e; simp [mentions] at m
    exact ⟨(ht q hq h.1).1, by rw [(ht q hq h.1).2]; exact h.2⟩
  | .fz _, _, _, h => RdD.mono h hZ
  | .mp _, _, _, h => MpIn.mono h hZ
  | .ref b _, _, _, h => ⟨(hb b h.1).1, by rw [(hb b h.1).2]; exact h.2⟩
  | .pe _ _ _ _, _, m, h => by obtain ⟨ub, h1, h2⟩ := h; exact ⟨ub, RV.less hK hZ hs hb ht (by simpa [mentions] using m) h1, h2⟩
  | .agg _, _, m, h => by obtain ⟨us, h1, h2⟩ := h; exact ⟨us, h1, RVs.less hK hZ hs hb ht (by simpa [mentions] using m) h2⟩
  | .tup _, _, m, h => by obtain ⟨us, h1, h2⟩ := h; exact ⟨us, h1, RVs.less hK hZ hs hb ht (by simpa [mentions] using m) h2⟩
  | .fn _ _, _, m, h => by obtain ⟨us, h1, h2⟩ := h; exact ⟨us, h1, RVs.less hK hZ hs hb ht (by simpa [mentions] using m) h2⟩
  | .dead, _, _, _ => trivial
theorem RVs.less {ρ ρ' : Rel} {p : Nat} (hK : ρ'.K = ρ.K) (hZ : ∀ b o, ρ.Z b o → ρ'.Z b o) (hs : ρ'.src = ρ.src) (hb : ∀ b, ρ.Lb b → ρ'.Lb b ∧ ρ'.bl b = ρ.bl b) (ht : ∀ q, q ≠ p → ρ.Lt q → ρ'.Lt q ∧ ρ'.hd q = ρ.hd q) :
    ∀ {vs : List V} {us : List Value}, mentions.any p vs = false → RVs ρ vs us → RVs ρ' vs us
  | [], _, _, h => h
  | _ :: _, _, m, h => by
    simp [mentions.any] at m
    obtain ⟨u, q, h1, h2, h3⟩ := h; exact ⟨u, q, h1, RV.less hK hZ hs hb ht m.1 h2, RVs.less hK hZ hs hb ht m.2 h3⟩
end
theorem RVs.len {ρ : Rel} : ∀ {vs : List V} {us : List Value}, RVs ρ vs us → us.length = vs.length
  | [], _, h => by rw [show _ = [] from h]; rfl
  | _ :: _, _, h => by obtain ⟨u, q, rfl, h2, h3⟩ := h; rw [List.length_cons, List.length_cons, h3.len]
theorem RVs.get {ρ : Rel} : ∀ {vs : List V} {us : List Value} {i : Nat} {v : V}, RVs ρ vs us → vs[i]? = some v → ∃ u, us[i]? = some u ∧ RV ρ v u
  | [], _, i, v, _, e => by simp at e
  | _ :: _, _, 0, v, h, e => by obtain ⟨u, q, rfl, h2, h3⟩ := h; simp at e; subst e; exact ⟨u, rfl, h2⟩
  | _ :: _, _, i + 1, v, h, e => by obtain ⟨u, q, rfl, h2, h3⟩ := h; simpa using h3.get (i := i) (by simpa using e)
theorem RVs.of {ρ : Rel} : ∀ {vs : List V} {us : List Value}, us.length = vs.length → (∀ (i : Nat) (v : V) (u : Value), vs[i]? = some v → us[i]? = some u → RV ρ v u) → RVs ρ vs us
  | [], us, hl, _ => by cases us with | nil => rfl | cons => simp at hl
  | v :: vs, us, hl, h => by
    cases us with
    | nil => simp at hl
    | cons u us => exact ⟨u, us, rfl, h 0 v u rfl rfl, RVs.of (by simpa using hl) fun i v' u' e1 e2 => h (i + 1) v' u' (by simpa using e1) (by simpa using e2)⟩
theorem RVs.app {ρ : Rel} : ∀ {vs ws : List V} {us xs : List Value}, RVs ρ vs us → RVs ρ ws xs → RVs ρ (vs ++ ws) (us ++ xs)
  | [], _, _, _, h, k => by rw [show _ = [] from h]; exact k
  | _ :: _, _, _, _, h, k => by obtain ⟨u, q, rfl, h2, h3⟩ := h; exact ⟨u, q ++ _, rfl, h2, h3.app k⟩
theorem RVs.drop {ρ : Rel} : ∀ (n : Nat) {vs : List V} {us : List Value}, RVs ρ vs us → RVs ρ (vs.drop n) (us.drop n)
  | 0, _, _, h => h
  | n + 1, [], _, h => by rw [show _ = [] from h]; rfl
  | n + 1, _ :: _, _, h => by obtain ⟨u, q, rfl, h2, h3⟩ := h; exact h3.drop n
theorem RVs.take {ρ : Rel} : ∀ (n : Nat) {vs : List V} {us : List Value}, RVs ρ vs us → RVs ρ (vs.take n) (us.take n)
  | 0, _, _, _ => rfl
  | n + 1, [], _, h => by rw [show _ = [] from h]; rfl
  | n + 1, _ :: _, _, h => by obtain ⟨u, q, rfl, h2, h3⟩ := h; exact ⟨u, _, rfl, h2, h3.take n⟩
theorem RVs.set {ρ : Rel} {v : V} {u : Value} (k : RV ρ v u) : ∀ (n : Nat) {vs : List V} {us : List Value}, RVs ρ vs us → RVs ρ (vs.set n v) (us.set n u)
  | _, [], _, h => by rw [show _ = [] from h]; rfl
  | 0, _ :: _, _, h => by obtain ⟨u', q, rfl, h2, h3⟩ := h; exact ⟨u, q, rfl, k, h3⟩
  | n + 1, _ :: _, _, h => by obtain ⟨u', q, rfl, h2, h3⟩ := h; exact ⟨u', _, rfl, h2, h3.set k n⟩
section
variable {α : Type}
theorem look_put {k : Nat} {x : α} : ∀ {l : List (Nat × α)} (j : Nat), look j (put k x l) = if j = k then some x else look j l
  | [], j => by simp only [put, look]
  | (i, y) :: r, j => by
    unfold put
    by_cases h : k = i
    · subst h; rw [if_pos rfl]; simp only [look]; split <;> rfl
    · rw [if_neg h]
      by_cases h2 : i < k
      · rw [if_pos h2]; simp only [look]
      · rw [if_neg h2]; simp only [look]
        by_cases h3 : j = i
        · subst h3; rw [if_pos rfl, if_pos rfl, if_neg fun e => h e.symm]
        · rw [if_neg h3, if_neg h3, look_put j]
theorem look_drop1 {k : Nat} : ∀ {l : List (Nat × α)} (j : Nat), look j (drop1 k l) = if j = k then none else look j l
  | [], j => by simp only [drop1, look]; split <;> rfl
  | (i, y) :: r, j => by
    unfold drop1
    by_cases h : k = i
    · subst h; rw [if_pos rfl, look_drop1 j]; simp only [look]
      by_cases h3 : j = k
      · rw [if_pos h3, if_pos h3]
      · rw [if_neg h3, if_neg h3, if_neg h3]
    · rw [if_neg h]; simp only [look]
      by_cases h3 : j = i
      · subst h3; rw [if_pos rfl, if_pos rfl, if_neg fun e => h e.symm]
      · rw [if_neg h3, if_neg h3, look_drop1 j]
theorem look_mem {k : Nat} {x : α} : ∀ {l : List (Nat × α)}, look k l = some x → (k, x) ∈ l
  | [], h => by cases h
  | (i, y) :: r, h => by
    simp only [look] at h
    split at h
    · rename_i e; subst e; injection h with h; subst h; exact List.mem_cons_self
    · exact List.mem_cons_of_mem _ (look_mem h)
theorem look_none {k : Nat} : ∀ {l : List (Nat × α)}, look k l = none → k ∉ l.map (·.1)
  | [], _ => by simp
  | (i, y) :: r, h => by
    simp only [look] at h
    split at h
    · cases h
    · rename_i e; simp only [List.map_cons, List.mem_cons, not_or]; exact ⟨e, look_none h⟩
theorem look_of_mem {k : Nat} {x : α} : ∀ {l : List (Nat × α)}, (l.map (·.1)).Nodup → (k, x) ∈ l → look k l = some x
  | [], _, h => by cases h
  | (i, y) :: r, n, h => by
    simp only [List.map_cons, List.nodup_cons] at n
    simp only [look]
    rcases List.mem_cons.1 h with h | hm
    · injection h with h1 h2; subst h1; subst h2; rw [if_pos rfl]
    · have : k ≠ i := by intro e; subst e; exact n.1 (List.mem_map.2 ⟨(k, x), hm, rfl⟩)
      rw [if_neg this]; exact look_of_mem n.2 hm
theorem upd_keys {k : Nat} {x : α} : ∀ (l : List (Nat × α)), (upd k x l).map (·.1) = l.map (·.1)
  | [] => rfl
  | (i, y) :: r => by
    unfold upd; split
    · rename_i e; subst e; rfl
    · rw [List.map_cons, List.map_cons, upd_keys r]
theorem mem_upd {k j : Nat} {x y : α} : ∀ {l : List (Nat × α)}, (l.map (·.1)).Nodup → (j, y) ∈ upd k x l → (j = k ∧ y = x) ∨ (j ≠ k ∧ (j, y) ∈ l)
  | [], _, h => by cases h
  | (i, z) :: r, n, h => by
    simp only [List.map_cons, List.nodup_cons] at n
    unfold upd at h
    split at h
    · rename_i e; subst e
      rcases List.mem_cons.1 h with h | hm
      · injection h with h1 h2; exact .inl ⟨h1, h2⟩
      · exact .inr ⟨fun e => n.1 (by rw [← e]; exact List.mem_map.2 ⟨(j, y), hm, rfl⟩), List.mem_cons_of_mem _ hm⟩
    · rename_i e
      rcases List.mem_cons.1 h with h | h
      · injection h with h1 h2; subst h1; subst h2; exact .inr ⟨fun e2 => e e2.symm, List.mem_cons_self⟩
      · rcases mem_upd n.2 h with h | h
        · exact .inl h
        · exact .inr ⟨h.1, List.mem_cons_of_mem _ h.2⟩
theorem look_split {k : Nat} {x : α} : ∀ {l : List (Nat × α)}, look k l = some x → ∃ a b, l = a ++ (k, x) :: b ∧ (∀ y, upd k y l = a ++ (k, y) :: b) ∧ ((l.map (·.1)).Nodup → drop1 k l = a ++ b)
  | [], h => by cases h
  | (i, z) :: r, h => by
    simp only [look] at h
    by_cases e : k = i
    · subst e; rw [if_pos rfl] at h; injection h with h; subst h
      refine ⟨[], r, rfl, fun y => by unfold upd; rw [if_pos rfl]; rfl, fun n => ?_⟩
      simp only [List.map_cons, List.nodup_cons] at n
      unfold drop1; rw [if_pos rfl]
      have : ∀ {l : List (Nat × α)}, k ∉ l.map (·.1) → drop1 k l = l := by
        intro l; induction l with
        | nil => intro _; rfl
        | cons y l ih => intro hn; simp only [List.map_cons, List.mem_cons, not_or] at hn; obtain ⟨j, y⟩ := y; unfold drop1; rw [if_neg hn.1, ih hn.2]
      exact this n.1
    · rw [if_neg e] at h
      obtain ⟨a, b, h1, h2, h3⟩ := look_split h
      refine ⟨(i, z) :: a, b, by rw [h1]; rfl, fun y => by unfold upd; rw [if_neg e, h2]; rfl, fun n => ?_⟩
      simp only [List.map_cons, List.nodup_cons] at n
      unfold drop1; rw [if_neg e, h3 n.2]; rfl
end
structure Ctx where
  W : World
  L : List Pc
  K : Nat → Obj → Prop
  src : Nat → Value
  n : Nat
  hK : ∀ w, St W w L → ∀ b o, K b o → w.heap[b]? = some o
  bF : Nat → Nat
  hF : Nat → Hd
  zed : Zed K
def boxPs (bl : Nat → Nat) (T : Nat → TypeId) (us : Nat → Array Value) (l : List (Nat × List V)) : List Pc := l.map fun x => rowP (bl x.1) (T x.1) (us x.1)
def treePs (hd : Nat → Hd) (l : List (Nat × List (List D))) : List Pc := l.map fun x => treeP (hd x.1) x.2
def froPs (w0 : Nat → World) (F : Nat → List Nat) (l : List (Nat × List (List D))) : List Pc := l.map fun x => snapP (w0 x.1) (F x.1)
structure Lay where
  bl : Nat → Nat
  hd : Nat → Hd
  T : Nat → TypeId
  us : Nat → Array Value
  w0 : Nat → World
  F : Nat → List Nat
def relOf (c : Ctx) (s : S) (y : Lay) : Rel :=
  { K := c.K, Z := fun b o => ∃ p, p ∈ s.fro.map (·.1) ∧ b ∈ y.F p ∧ (y.w0 p).heap[b]? = some o, src := c.src, bl := y.bl, hd := y.hd, Lb := fun b => b ∈ s.box.map (·.1), Lt := fun p => p ∈ (s.tree ++ s.fro).map (·.1) }
structure At (c : Ctx) (s : S) (y : Lay) (a : Act) (w : World) : Prop where
  defers : a.defers = []
  size : a.tmps.size = c.n
  st : St c.W w (boxPs y.bl y.T y.us s.box ++ (treePs y.hd s.tree ++ (froPs y.w0 y.F s.fro ++ c.L)))
  env : ∀ t v, look t s.env = some v → RV (relOf c s y) v (a.tmps.getD t undef)
  box : ∀ b cs, (b, cs) ∈ s.box → RVs (relOf c s y) cs (y.us b).toList
  fro : ∀ p rows, (p, rows) ∈ s.fro → TreeD (y.w0 p) rows (y.hd p) (y.F p)
  nb : (s.box.map (·.1)).Nodup
  nt : ((s.tree ++ s.fro).map (·.1)).Nodup
  fix : c.n ≤ parBase ∧ ∀ i, parBase ≤ i → i < 2 * parBase → y.bl i = c.bF i ∧ y.hd i = c.hF i
def Good (c : Ctx) (s : S) (a : Act) (w : World) : Prop := ∃ y, At c s y a w
theorem Sep.perm {w : World} {L L' : List Pc} (p : L.Perm L') : ∀ {F : List Nat}, Sep w L F → ∃ F', Sep w L' F' ∧ F'.Perm F := by
  induction p with
  | nil => intro F s; exact ⟨F, s, List.Perm.refl _⟩
  | cons x _ ih =>
    intro F s
    obtain ⟨F1, G, rfl, a, g⟩ := s.uncons
    obtain ⟨G', g', pg⟩ := ih g
    exact ⟨F1 ++ G', .cons a g', List.Perm.append_left _ pg⟩
  | swap x y l => intro F s; exact s.swap
  | trans _ _ ih1 ih2 =>
    intro F s
    obtain ⟨F1, s1, p1⟩ := ih1 s
    obtain ⟨F2, s2, p2⟩ := ih2 s1
    exact ⟨F2, s2, p2.trans p1⟩
theorem St.perm {W w : World} {L L' : List Pc} (S : St W w L) (p : L.Perm L') : St W w L' := by
  obtain ⟨F, s, n, hb⟩ := S.sep
  obtain ⟨F', s', pf⟩ := s.perm p
  exact ⟨S.ext, F', s', pf.nodup_iff.2 n, fun b h => hb b (pf.mem_iff.1 h)⟩
theorem St.dropL {W w : World} : ∀ {L1 L2 : List Pc}, St W w (L1 ++ L2) → St W w L2
  | [], _, S => S
  | _ :: _, _, S => St.dropL S.drop
end Go.Proofs.YtjhdikdopdcfcaaGreatDoor
