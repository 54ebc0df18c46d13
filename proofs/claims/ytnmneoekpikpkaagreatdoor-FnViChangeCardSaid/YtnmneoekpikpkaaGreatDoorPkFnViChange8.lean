/- Part 8 of a proof in several texts (an abstract evaluator, what the functions compute). -/
import Derived.Test.YtnmneoekpikpkaaGreatDoorPkFnViChange7
import Derived.Shelf.Strings.Search1
import Derived.Shelf.Strings.Search2
import Derived.Shelf.Strings.Search3
import Derived.Shelf.Strings.Count
import Derived.Shelf.LaysM
import Derived.Shelf.Strings.Shaped
import Derived.Shelf.Strings.Split
import Derived.Shelf.Strings.SplitShaped
import Derived.Shelf.Unicode.DecodeSlow
import Derived.Test.YtnmneoekpikpkaaGreatDoorProg
namespace Go.Proofs
open Go.Shelf
def Tryz.lays217_ren : Go.Shelf.Ren := ⟨fun | 217 => 93 | 266 => 137 | n => n, fun | 9 => 9 | 5 => 5 | 3 => 3 | n => n, fun | n => n⟩
theorem Tryz.lays217 : Go.Proofs.Lays.n217 Tryz.prog Tryz.lays217_ren := {
  mixed := by kernel_rfl
  f217 := Tryz.func93.trans (congrArg some (by kernel_rfl))
  f266 := Tryz.func137.trans (congrArg some (by kernel_rfl))
  t3 := Tryz.underlying3
  a3 := Tryz.isAgg3
  z3 := Tryz.sizeOf3
  v3 := Tryz.zeroValue3
  t5 := Tryz.underlying5
  a5 := Tryz.isAgg5
  z5 := Tryz.sizeOf5
  v5 := Tryz.zeroValue5
  t9 := Tryz.underlying9
  a9 := Tryz.isAgg9
  z9 := Tryz.sizeOf9
  v9 := Tryz.zeroValue9 }
open Go.RowKit Go.Lib in
theorem Tryz.stringslite_IndexByte (s : ByteArray) (c : Int) (w : World) :
    Calls Tryz.prog 93 #[.string s, .int .u8 c] w fun e w' => e = .returned (.int .i64 (Lib.indexByte s.data.toList c.toNat.toUInt8)) ∧ w' = w := Any.stringslite_IndexByte Tryz.lays217 s c w
def Tryz.lays224_ren : Go.Shelf.Ren := ⟨fun | 224 => 95 | n => n, fun | 3 => 3 | n => n, fun | n => n⟩
theorem Tryz.lays224 : Go.Proofs.Lays.n224 Tryz.prog Tryz.lays224_ren := {
  mixed := by kernel_rfl
  f224 := Tryz.func95.trans (congrArg some (by kernel_rfl))
  t3 := Tryz.underlying3
  a3 := Tryz.isAgg3
  z3 := Tryz.sizeOf3
  v3 := Tryz.zeroValue3 }
open Go.RowKit Go.Lib in
theorem Tryz.bytealg_Cutover (n : Int) (h0 : 0 ≤ n) (h1 : n < 4611686018427387904) (w : World) :
    Calls Tryz.prog 95 #[.int .i64 n] w fun e w' => e = .returned (.int .i64 ((n + 16) / 8)) ∧ w' = w := Any.bytealg_Cutover Tryz.lays224 n h0 h1 w
def Tryz.lays314_ren : Go.Shelf.Ren := ⟨fun | 314 => 138 | n => n, fun | 9 => 9 | 51 => 146 | 3 => 3 | 4 => 4 | 5 => 5 | 46 => 97 | n => n, fun | n => n⟩
theorem Tryz.lays314 : Go.Proofs.Lays.n314 Tryz.prog Tryz.lays314_ren := {
  mixed := by kernel_rfl
  f314 := Tryz.func138.trans (congrArg some (by kernel_rfl))
  t3 := Tryz.underlying3
  a3 := Tryz.isAgg3
  z3 := Tryz.sizeOf3
  v3 := Tryz.zeroValue3
  t4 := Tryz.underlying4
  a4 := Tryz.isAgg4
  z4 := Tryz.sizeOf4
  v4 := Tryz.zeroValue4
  t5 := Tryz.underlying5
  a5 := Tryz.isAgg5
  z5 := Tryz.sizeOf5
  v5 := Tryz.zeroValue5
  t9 := Tryz.underlying9
  a9 := Tryz.isAgg9
  z9 := Tryz.sizeOf9
  v9 := Tryz.zeroValue9
  t46 := Tryz.underlying97
  a46 := Tryz.isAgg97
  z46 := Tryz.sizeOf97
  v46 := Tryz.zeroValue97
  t51 := Tryz.underlying146
  a51 := Tryz.isAgg146
  z51 := Tryz.sizeOf146
  v51 := Tryz.zeroValue146 }
open Go.RowKit Go.Lib in
theorem Tryz.bytealg_hashStr (sep : ByteArray) (hs : sep.size < 4294967281) (w : World) :
    Calls Tryz.prog 138 #[.string sep] w fun e w' => e = .returned (.tuple #[.int .u32 (RK.H sep.data.toList % 4294967296), .int .u32 (16777619 ^ sep.size % 4294967296)]) ∧ w' = w := Any.bytealg_hashStr Tryz.lays314 sep hs w
def Tryz.lays267_ren : Go.Shelf.Ren := ⟨fun | 267 => 96 | 314 => 138 | n => n, fun | 9 => 9 | 3 => 3 | 146 => 147 | 51 => 146 | 4 => 4 | 5 => 5 | 46 => 97 | n => n, fun | n => n⟩
theorem Tryz.lays267 : Go.Proofs.Lays.n267 Tryz.prog Tryz.lays267_ren := {
  mixed := by kernel_rfl
  f267 := Tryz.func96.trans (congrArg some (by kernel_rfl))
  f314 := Tryz.func138.trans (congrArg some (by kernel_rfl))
  t3 := Tryz.underlying3
  a3 := Tryz.isAgg3
  z3 := Tryz.sizeOf3
  v3 := Tryz.zeroValue3
  t4 := Tryz.underlying4
  a4 := Tryz.isAgg4
  z4 := Tryz.sizeOf4
  v4 := Tryz.zeroValue4
  t5 := Tryz.underlying5
  a5 := Tryz.isAgg5
  z5 := Tryz.sizeOf5
  v5 := Tryz.zeroValue5
  t9 := Tryz.underlying9
  a9 := Tryz.isAgg9
  z9 := Tryz.sizeOf9
  v9 := Tryz.zeroValue9
  t46 := Tryz.underlying97
  a46 := Tryz.isAgg97
  z46 := Tryz.sizeOf97
  v46 := Tryz.zeroValue97
  t51 := Tryz.underlying146
  a51 := Tryz.isAgg146
  z51 := Tryz.sizeOf146
  v51 := Tryz.zeroValue146
  t146 := Tryz.underlying147
  a146 := Tryz.isAgg147
  z146 := Tryz.sizeOf147
  v146 := Tryz.zeroValue147 }
open Go.RowKit Go.Lib in
theorem Tryz.bytealg_IndexRabinKarp (s sep : ByteArray) (h1 : 1 ≤ sep.size) (h2 : sep.size ≤ s.size) (hs : s.size < 4294967281) (w : World) :
    Calls Tryz.prog 96 #[.string s, .string sep] w fun e w' => e = .returned (.int .i64 (Lib.index s.data.toList sep.data.toList)) ∧ w' = w := Any.bytealg_IndexRabinKarp Tryz.lays267 s sep h1 h2 hs w
def Tryz.lays219_ren : Go.Shelf.Ren := ⟨fun | 219 => 74 | 217 => 93 | 225 => 94 | 224 => 95 | 267 => 96 | 266 => 137 | 314 => 138 | n => n, fun | 9 => 9 | 3 => 3 | 4 => 4 | 5 => 5 | 46 => 97 | 146 => 147 | 51 => 146 | n => n, fun | 1 => 0 | n => n⟩
theorem Tryz.lays219 : Go.Proofs.Lays.n219 Tryz.prog Tryz.lays219_ren := {
  mixed := by kernel_rfl
  f217 := Tryz.func93.trans (congrArg some (by kernel_rfl))
  f219 := Tryz.func74.trans (congrArg some (by kernel_rfl))
  f224 := Tryz.func95.trans (congrArg some (by kernel_rfl))
  f225 := Tryz.func94.trans (congrArg some (by kernel_rfl))
  f266 := Tryz.func137.trans (congrArg some (by kernel_rfl))
  f267 := Tryz.func96.trans (congrArg some (by kernel_rfl))
  f314 := Tryz.func138.trans (congrArg some (by kernel_rfl))
  t3 := Tryz.underlying3
  a3 := Tryz.isAgg3
  z3 := Tryz.sizeOf3
  v3 := Tryz.zeroValue3
  t4 := Tryz.underlying4
  a4 := Tryz.isAgg4
  z4 := Tryz.sizeOf4
  v4 := Tryz.zeroValue4
  t5 := Tryz.underlying5
  a5 := Tryz.isAgg5
  z5 := Tryz.sizeOf5
  v5 := Tryz.zeroValue5
  t9 := Tryz.underlying9
  a9 := Tryz.isAgg9
  z9 := Tryz.sizeOf9
  v9 := Tryz.zeroValue9
  t46 := Tryz.underlying97
  a46 := Tryz.isAgg97
  z46 := Tryz.sizeOf97
  v46 := Tryz.zeroValue97
  t51 := Tryz.underlying146
  a51 := Tryz.isAgg146
  z51 := Tryz.sizeOf146
  v51 := Tryz.zeroValue146
  t146 := Tryz.underlying147
  a146 := Tryz.isAgg147
  z146 := Tryz.sizeOf147
  v146 := Tryz.zeroValue147
  g1 := by kernel_rfl }
open Go.RowKit Go.Lib in
theorem Tryz.stringslite_Index_one (s : ByteArray) (c : UInt8) (w : World) :
    Calls Tryz.prog 74 #[.string s, .string ⟨#[c]⟩] w fun e w' => e = .returned (.int .i64 (Lib.indexByte s.data.toList c)) ∧ w' = w := Any.stringslite_Index_one Tryz.lays219 s c w
open Go.RowKit Go.Lib in
theorem Tryz.stringslite_Index (s sub : ByteArray) (m : Int) (w : World) (hs : s.size < 4294967281) (hm : w.cell? ⟨0, 0, none⟩ = some (.int .i64 m)) :
    Calls Tryz.prog 74 #[.string s, .string sub] w fun e w' => e = .returned (.int .i64 (Lib.index s.data.toList sub.data.toList)) ∧ w' = w := Any.stringslite_Index Tryz.lays219 s sub m w hs hm
def Tryz.lays143_ren : Go.Shelf.Ren := ⟨fun | 143 => 56 | 219 => 74 | 217 => 93 | 225 => 94 | 224 => 95 | 267 => 96 | 266 => 137 | 314 => 138 | n => n, fun | 9 => 9 | 3 => 3 | 4 => 4 | 5 => 5 | 46 => 97 | 146 => 147 | 51 => 146 | n => n, fun | 1 => 0 | n => n⟩
theorem Tryz.lays143 : Go.Proofs.Lays.n143 Tryz.prog Tryz.lays143_ren := {
  mixed := by kernel_rfl
  f143 := Tryz.func56.trans (congrArg some (by kernel_rfl))
  f217 := Tryz.func93.trans (congrArg some (by kernel_rfl))
  f219 := Tryz.func74.trans (congrArg some (by kernel_rfl))
  f224 := Tryz.func95.trans (congrArg some (by kernel_rfl))
  f225 := Tryz.func94.trans (congrArg some (by kernel_rfl))
  f266 := Tryz.func137.trans (congrArg some (by kernel_rfl))
  f267 := Tryz.func96.trans (congrArg some (by kernel_rfl))
  f314 := Tryz.func138.trans (congrArg some (by kernel_rfl))
  t3 := Tryz.underlying3
  a3 := Tryz.isAgg3
  z3 := Tryz.sizeOf3
  v3 := Tryz.zeroValue3
  t4 := Tryz.underlying4
  a4 := Tryz.isAgg4
  z4 := Tryz.sizeOf4
  v4 := Tryz.zeroValue4
  t5 := Tryz.underlying5
  a5 := Tryz.isAgg5
  z5 := Tryz.sizeOf5
  v5 := Tryz.zeroValue5
  t9 := Tryz.underlying9
  a9 := Tryz.isAgg9
  z9 := Tryz.sizeOf9
  v9 := Tryz.zeroValue9
  t46 := Tryz.underlying97
  a46 := Tryz.isAgg97
  z46 := Tryz.sizeOf97
  v46 := Tryz.zeroValue97
  t51 := Tryz.underlying146
  a51 := Tryz.isAgg146
  z51 := Tryz.sizeOf146
  v51 := Tryz.zeroValue146
  t146 := Tryz.underlying147
  a146 := Tryz.isAgg147
  z146 := Tryz.sizeOf147
  v146 := Tryz.zeroValue147
  g1 := by kernel_rfl }
open Go.RowKit Go.Lib in
theorem Tryz.strings_Index_one (s : ByteArray) (c : UInt8) (w : World) :
    Calls Tryz.prog 56 #[.string s, .string ⟨#[c]⟩] w fun e w' => e = .returned (.int .i64 (Lib.indexByte s.data.toList c)) ∧ w' = w := Any.strings_Index_one Tryz.lays143 s c w
open Go.RowKit Go.Lib in
theorem Tryz.strings_Index (s sub : ByteArray) (m : Int) (w : World) (hs : s.size < 4294967281) (hm : w.cell? ⟨0, 0, none⟩ = some (.int .i64 m)) :
    Calls Tryz.prog 56 #[.string s, .string sub] w fun e w' => e = .returned (.int .i64 (Lib.index s.data.toList sub.data.toList)) ∧ w' = w := Any.strings_Index Tryz.lays143 s sub m w hs hm
def Tryz.lays144_ren : Go.Shelf.Ren := ⟨fun | 144 => 37 | 143 => 56 | 219 => 74 | 217 => 93 | 225 => 94 | 224 => 95 | 267 => 96 | 266 => 137 | 314 => 138 | n => n, fun | 9 => 9 | 4 => 4 | 3 => 3 | 5 => 5 | 46 => 97 | 146 => 147 | 51 => 146 | n => n, fun | 1 => 0 | n => n⟩
theorem Tryz.lays144 : Go.Proofs.Lays.n144 Tryz.prog Tryz.lays144_ren := {
  mixed := by kernel_rfl
  f143 := Tryz.func56.trans (congrArg some (by kernel_rfl))
  f144 := Tryz.func37.trans (congrArg some (by kernel_rfl))
  f217 := Tryz.func93.trans (congrArg some (by kernel_rfl))
  f219 := Tryz.func74.trans (congrArg some (by kernel_rfl))
  f224 := Tryz.func95.trans (congrArg some (by kernel_rfl))
  f225 := Tryz.func94.trans (congrArg some (by kernel_rfl))
  f266 := Tryz.func137.trans (congrArg some (by kernel_rfl))
  f267 := Tryz.func96.trans (congrArg some (by kernel_rfl))
  f314 := Tryz.func138.trans (congrArg some (by kernel_rfl))
  t3 := Tryz.underlying3
  a3 := Tryz.isAgg3
  z3 := Tryz.sizeOf3
  v3 := Tryz.zeroValue3
  t4 := Tryz.underlying4
  a4 := Tryz.isAgg4
  z4 := Tryz.sizeOf4
  v4 := Tryz.zeroValue4
  t5 := Tryz.underlying5
  a5 := Tryz.isAgg5
  z5 := Tryz.sizeOf5
  v5 := Tryz.zeroValue5
  t9 := Tryz.underlying9
  a9 := Tryz.isAgg9
  z9 := Tryz.sizeOf9
  v9 := Tryz.zeroValue9
  t46 := Tryz.underlying97
  a46 := Tryz.isAgg97
  z46 := Tryz.sizeOf97
  v46 := Tryz.zeroValue97
  t51 := Tryz.underlying146
  a51 := Tryz.isAgg146
  z51 := Tryz.sizeOf146
  v51 := Tryz.zeroValue146
  t146 := Tryz.underlying147
  a146 := Tryz.isAgg147
  z146 := Tryz.sizeOf147
  v146 := Tryz.zeroValue147
  g1 := by kernel_rfl }
open Go.RowKit Go.Lib in
theorem Tryz.strings_Contains_one (s : ByteArray) (c : UInt8) (w : World) :
    Calls Tryz.prog 37 #[.string s, .string ⟨#[c]⟩] w fun e w' => e = .returned (.bool (decide (0 ≤ Lib.indexByte s.data.toList c))) ∧ w' = w := Any.strings_Contains_one Tryz.lays144 s c w
open Go.RowKit Go.Lib in
theorem Tryz.strings_Contains (s sub : ByteArray) (m : Int) (w : World) (hs : s.size < 4294967281) (hm : w.cell? ⟨0, 0, none⟩ = some (.int .i64 m)) :
    Calls Tryz.prog 37 #[.string s, .string sub] w fun e w' => e = .returned (.bool (Lib.contains s.data.toList sub.data.toList)) ∧ w' = w := Any.strings_Contains Tryz.lays144 s sub m w hs hm
def Tryz.lays138_ren : Go.Shelf.Ren := ⟨fun | 138 => 78 | 195 => 98 | 218 => 100 | 143 => 56 | 219 => 74 | 217 => 93 | 225 => 94 | 224 => 95 | 267 => 96 | 266 => 137 | 314 => 138 | n => n, fun | 9 => 9 | 3 => 3 | 4 => 4 | 5 => 5 | 0 => 0 | 46 => 97 | 146 => 147 | 51 => 146 | n => n, fun | 1 => 0 | n => n⟩
theorem Tryz.lays138 : Go.Proofs.Lays.n138 Tryz.prog Tryz.lays138_ren := {
  mixed := by kernel_rfl
  f138 := Tryz.func78.trans (congrArg some (by kernel_rfl))
  f143 := Tryz.func56.trans (congrArg some (by kernel_rfl))
  f195 := Tryz.func98.trans (congrArg some (by kernel_rfl))
  f217 := Tryz.func93.trans (congrArg some (by kernel_rfl))
  f218 := Tryz.func100.trans (congrArg some (by kernel_rfl))
  f219 := Tryz.func74.trans (congrArg some (by kernel_rfl))
  f224 := Tryz.func95.trans (congrArg some (by kernel_rfl))
  f225 := Tryz.func94.trans (congrArg some (by kernel_rfl))
  f266 := Tryz.func137.trans (congrArg some (by kernel_rfl))
  f267 := Tryz.func96.trans (congrArg some (by kernel_rfl))
  f314 := Tryz.func138.trans (congrArg some (by kernel_rfl))
  t0 := Tryz.underlying0
  a0 := Tryz.isAgg0
  z0 := Tryz.sizeOf0
  v0 := Tryz.zeroValue0
  t3 := Tryz.underlying3
  a3 := Tryz.isAgg3
  z3 := Tryz.sizeOf3
  v3 := Tryz.zeroValue3
  t4 := Tryz.underlying4
  a4 := Tryz.isAgg4
  z4 := Tryz.sizeOf4
  v4 := Tryz.zeroValue4
  t5 := Tryz.underlying5
  a5 := Tryz.isAgg5
  z5 := Tryz.sizeOf5
  v5 := Tryz.zeroValue5
  t9 := Tryz.underlying9
  a9 := Tryz.isAgg9
  z9 := Tryz.sizeOf9
  v9 := Tryz.zeroValue9
  t46 := Tryz.underlying97
  a46 := Tryz.isAgg97
  z46 := Tryz.sizeOf97
  v46 := Tryz.zeroValue97
  t51 := Tryz.underlying146
  a51 := Tryz.isAgg146
  z51 := Tryz.sizeOf146
  v51 := Tryz.zeroValue146
  t146 := Tryz.underlying147
  a146 := Tryz.isAgg147
  z146 := Tryz.sizeOf147
  v146 := Tryz.zeroValue147
  g1 := by kernel_rfl }
open Go.RowKit Go.Lib in
theorem Tryz.strings_Count_one (s : ByteArray) (c : UInt8) (w : World) :
    Calls Tryz.prog 78 #[.string s, .string ⟨#[c]⟩] w fun e w' => e = .returned (.int .i64 (Lib.countByte s.data.toList c)) ∧ w' = w := Any.strings_Count_one Tryz.lays138 s c w
open Go.RowKit Go.Lib in
theorem Tryz.strings_Count (s sub : ByteArray) (m : Int) (w : World) (hs : s.size < 4294967281) (hm : w.cell? ⟨0, 0, none⟩ = some (.int .i64 m)) (h2 : 2 ≤ sub.size) :
    Calls Tryz.prog 78 #[.string s, .string sub] w fun e w' => e = .returned (.int .i64 (Lib.countB s sub)) ∧ w' = w := Any.strings_Count Tryz.lays138 s sub m w hs hm h2
def Tryz.laysM219_ren : Go.Shelf.Ren := ⟨fun | 219 => 74 | 217 => 93 | 225 => 94 | 224 => 95 | 267 => 96 | 266 => 137 | 314 => 138 | n => n, fun | 9 => 9 | 3 => 3 | 4 => 4 | 5 => 5 | 46 => 97 | 146 => 147 | 51 => 146 | n => n, fun | 1 => 0 | n => n⟩
theorem Tryz.laysM219 : Go.Proofs.LaysM.n219 Tryz.prog Tryz.laysM219_ren := {
  mixed := by kernel_rfl
  f217 := Tryz.func93.trans (congrArg some (by kernel_rfl))
  f219 := Tryz.func74.trans (congrArg some (by kernel_rfl))
  f224 := Tryz.func95.trans (congrArg some (by kernel_rfl))
  f225 := Tryz.func94.trans (congrArg some (by kernel_rfl))
  f266 := Tryz.func137.trans (congrArg some (by kernel_rfl))
  f267 := Tryz.func96.trans (congrArg some (by kernel_rfl))
  f314 := Tryz.func138.trans (congrArg some (by kernel_rfl))
  t3 := Tryz.underlying3
  a3 := Tryz.isAgg3
  z3 := Tryz.sizeOf3
  v3 := Tryz.zeroValue3
  t4 := Tryz.underlying4
  a4 := Tryz.isAgg4
  z4 := Tryz.sizeOf4
  v4 := Tryz.zeroValue4
  t5 := Tryz.underlying5
  a5 := Tryz.isAgg5
  z5 := Tryz.sizeOf5
  v5 := Tryz.zeroValue5
  t9 := Tryz.underlying9
  a9 := Tryz.isAgg9
  z9 := Tryz.sizeOf9
  v9 := Tryz.zeroValue9
  t46 := Tryz.underlying97
  a46 := Tryz.isAgg97
  z46 := Tryz.sizeOf97
  v46 := Tryz.zeroValue97
  t51 := Tryz.underlying146
  a51 := Tryz.isAgg146
  z51 := Tryz.sizeOf146
  v51 := Tryz.zeroValue146
  t146 := Tryz.underlying147
  a146 := Tryz.isAgg147
  z146 := Tryz.sizeOf147
  v146 := Tryz.zeroValue147
  g1 := by kernel_rfl
  i3 := by kernel_rfl
  i4 := by kernel_rfl
  i5 := by kernel_rfl
  i9 := by kernel_rfl
  i46 := by kernel_rfl
  i51 := by kernel_rfl
  i146 := by kernel_rfl
  m1 := by kernel_rfl
  s1_3 := fun w h => Go.Proofs.cell_of_shapedOpen_int (zero := #[.int .i64 0]) (t := 3) h (of_decide_eq_true (by kernel_rfl)) (by kernel_rfl) rfl (by kernel_rfl) (by kernel_rfl) Tryz.underlying3 }
open Go.RowKit Go.Lib in
theorem Tryz.stringslite_Index_shaped (s sub : ByteArray) (w : World) (h : w.ShapedOpen Tryz.prog) (hs : s.size < 4294967281) :
    Calls Tryz.prog 74 #[.string s, .string sub] w fun e w' => e = .returned (.int .i64 (Lib.index s.data.toList sub.data.toList)) ∧ w' = w := Any.stringslite_Index_shaped Tryz.laysM219 s sub w h hs
def Tryz.laysM143_ren : Go.Shelf.Ren := ⟨fun | 143 => 56 | 219 => 74 | 217 => 93 | 225 => 94 | 224 => 95 | 267 => 96 | 266 => 137 | 314 => 138 | n => n, fun | 9 => 9 | 3 => 3 | 4 => 4 | 5 => 5 | 46 => 97 | 146 => 147 | 51 => 146 | n => n, fun | 1 => 0 | n => n⟩
theorem Tryz.laysM143 : Go.Proofs.LaysM.n143 Tryz.prog Tryz.laysM143_ren := {
  mixed := by kernel_rfl
  f143 := Tryz.func56.trans (congrArg some (by kernel_rfl))
  f217 := Tryz.func93.trans (congrArg some (by kernel_rfl))
  f219 := Tryz.func74.trans (congrArg some (by kernel_rfl))
  f224 := Tryz.func95.trans (congrArg some (by kernel_rfl))
  f225 := Tryz.func94.trans (congrArg some (by kernel_rfl))
  f266 := Tryz.func137.trans (congrArg some (by kernel_rfl))
  f267 := Tryz.func96.trans (congrArg some (by kernel_rfl))
  f314 := Tryz.func138.trans (congrArg some (by kernel_rfl))
  t3 := Tryz.underlying3
  a3 := Tryz.isAgg3
  z3 := Tryz.sizeOf3
  v3 := Tryz.zeroValue3
  t4 := Tryz.underlying4
  a4 := Tryz.isAgg4
  z4 := Tryz.sizeOf4
  v4 := Tryz.zeroValue4
  t5 := Tryz.underlying5
  a5 := Tryz.isAgg5
  z5 := Tryz.sizeOf5
  v5 := Tryz.zeroValue5
  t9 := Tryz.underlying9
  a9 := Tryz.isAgg9
  z9 := Tryz.sizeOf9
  v9 := Tryz.zeroValue9
  t46 := Tryz.underlying97
  a46 := Tryz.isAgg97
  z46 := Tryz.sizeOf97
  v46 := Tryz.zeroValue97
  t51 := Tryz.underlying146
  a51 := Tryz.isAgg146
  z51 := Tryz.sizeOf146
  v51 := Tryz.zeroValue146
  t146 := Tryz.underlying147
  a146 := Tryz.isAgg147
  z146 := Tryz.sizeOf147
  v146 := Tryz.zeroValue147
  g1 := by kernel_rfl
  i3 := by kernel_rfl
  i4 := by kernel_rfl
  i5 := by kernel_rfl
  i9 := by kernel_rfl
  i46 := by kernel_rfl
  i51 := by kernel_rfl
  i146 := by kernel_rfl
  m1 := by kernel_rfl
  s1_3 := fun w h => Go.Proofs.cell_of_shapedOpen_int (zero := #[.int .i64 0]) (t := 3) h (of_decide_eq_true (by kernel_rfl)) (by kernel_rfl) rfl (by kernel_rfl) (by kernel_rfl) Tryz.underlying3 }
open Go.RowKit Go.Lib in
theorem Tryz.strings_Index_shaped (s sub : ByteArray) (w : World) (h : w.ShapedOpen Tryz.prog) (hs : s.size < 4294967281) :
    Calls Tryz.prog 56 #[.string s, .string sub] w fun e w' => e = .returned (.int .i64 (Lib.index s.data.toList sub.data.toList)) ∧ w' = w := Any.strings_Index_shaped Tryz.laysM143 s sub w h hs
def Tryz.laysM144_ren : Go.Shelf.Ren := ⟨fun | 144 => 37 | 143 => 56 | 219 => 74 | 217 => 93 | 225 => 94 | 224 => 95 | 267 => 96 | 266 => 137 | 314 => 138 | n => n, fun | 9 => 9 | 4 => 4 | 3 => 3 | 5 => 5 | 46 => 97 | 146 => 147 | 51 => 146 | n => n, fun | 1 => 0 | n => n⟩
theorem Tryz.laysM144 : Go.Proofs.LaysM.n144 Tryz.prog Tryz.laysM144_ren := {
  mixed := by kernel_rfl
  f143 := Tryz.func56.trans (congrArg some (by kernel_rfl))
  f144 := Tryz.func37.trans (congrArg some (by kernel_rfl))
  f217 := Tryz.func93.trans (congrArg some (by kernel_rfl))
  f219 := Tryz.func74.trans (congrArg some (by kernel_rfl))
  f224 := Tryz.func95.trans (congrArg some (by kernel_rfl))
  f225 := Tryz.func94.trans (congrArg some (by kernel_rfl))
  f266 := Tryz.func137.trans (congrArg some (by kernel_rfl))
  f267 := Tryz.func96.trans (congrArg some (by kernel_rfl))
  f314 := Tryz.func138.trans (congrArg some (by kernel_rfl))
  t3 := Tryz.underlying3
  a3 := Tryz.isAgg3
  z3 := Tryz.sizeOf3
  v3 := Tryz.zeroValue3
  t4 := Tryz.underlying4
  a4 := Tryz.isAgg4
  z4 := Tryz.sizeOf4
  v4 := Tryz.zeroValue4
  t5 := Tryz.underlying5
  a5 := Tryz.isAgg5
  z5 := Tryz.sizeOf5
  v5 := Tryz.zeroValue5
  t9 := Tryz.underlying9
  a9 := Tryz.isAgg9
  z9 := Tryz.sizeOf9
  v9 := Tryz.zeroValue9
  t46 := Tryz.underlying97
  a46 := Tryz.isAgg97
  z46 := Tryz.sizeOf97
  v46 := Tryz.zeroValue97
  t51 := Tryz.underlying146
  a51 := Tryz.isAgg146
  z51 := Tryz.sizeOf146
  v51 := Tryz.zeroValue146
  t146 := Tryz.underlying147
  a146 := Tryz.isAgg147
  z146 := Tryz.sizeOf147
  v146 := Tryz.zeroValue147
  g1 := by kernel_rfl
  i3 := by kernel_rfl
  i4 := by kernel_rfl
  i5 := by kernel_rfl
  i9 := by kernel_rfl
  i46 := by kernel_rfl
  i51 := by kernel_rfl
  i146 := by kernel_rfl
  m1 := by kernel_rfl
  s1_3 := fun w h => Go.Proofs.cell_of_shapedOpen_int (zero := #[.int .i64 0]) (t := 3) h (of_decide_eq_true (by kernel_rfl)) (by kernel_rfl) rfl (by kernel_rfl) (by kernel_rfl) Tryz.underlying3 }
open Go.RowKit Go.Lib in
theorem Tryz.strings_Contains_shaped (s sub : ByteArray) (w : World) (h : w.ShapedOpen Tryz.prog) (hs : s.size < 4294967281) :
    Calls Tryz.prog 37 #[.string s, .string sub] w fun e w' => e = .returned (.bool (Lib.contains s.data.toList sub.data.toList)) ∧ w' = w := Any.strings_Contains_shaped Tryz.laysM144 s sub w h hs
def Tryz.laysM138_ren : Go.Shelf.Ren := ⟨fun | 138 => 78 | 195 => 98 | 218 => 100 | 143 => 56 | 219 => 74 | 217 => 93 | 225 => 94 | 224 => 95 | 267 => 96 | 266 => 137 | 314 => 138 | n => n, fun | 9 => 9 | 3 => 3 | 4 => 4 | 5 => 5 | 0 => 0 | 46 => 97 | 146 => 147 | 51 => 146 | n => n, fun | 1 => 0 | n => n⟩
theorem Tryz.laysM138 : Go.Proofs.LaysM.n138 Tryz.prog Tryz.laysM138_ren := {
  mixed := by kernel_rfl
  f138 := Tryz.func78.trans (congrArg some (by kernel_rfl))
  f143 := Tryz.func56.trans (congrArg some (by kernel_rfl))
  f195 := Tryz.func98.trans (congrArg some (by kernel_rfl))
  f217 := Tryz.func93.trans (congrArg some (by kernel_rfl))
  f218 := Tryz.func100.trans (congrArg some (by kernel_rfl))
  f219 := Tryz.func74.trans (congrArg some (by kernel_rfl))
  f224 := Tryz.func95.trans (congrArg some (by kernel_rfl))
  f225 := Tryz.func94.trans (congrArg some (by kernel_rfl))
  f266 := Tryz.func137.trans (congrArg some (by kernel_rfl))
  f267 := Tryz.func96.trans (congrArg some (by kernel_rfl))
  f314 := Tryz.func138.trans (congrArg some (by kernel_rfl))
  t0 := Tryz.underlying0
  a0 := Tryz.isAgg0
  z0 := Tryz.sizeOf0
  v0 := Tryz.zeroValue0
  t3 := Tryz.underlying3
  a3 := Tryz.isAgg3
  z3 := Tryz.sizeOf3
  v3 := Tryz.zeroValue3
  t4 := Tryz.underlying4
  a4 := Tryz.isAgg4
  z4 := Tryz.sizeOf4
  v4 := Tryz.zeroValue4
  t5 := Tryz.underlying5
  a5 := Tryz.isAgg5
  z5 := Tryz.sizeOf5
  v5 := Tryz.zeroValue5
  t9 := Tryz.underlying9
  a9 := Tryz.isAgg9
  z9 := Tryz.sizeOf9
  v9 := Tryz.zeroValue9
  t46 := Tryz.underlying97
  a46 := Tryz.isAgg97
  z46 := Tryz.sizeOf97
  v46 := Tryz.zeroValue97
  t51 := Tryz.underlying146
  a51 := Tryz.isAgg146
  z51 := Tryz.sizeOf146
  v51 := Tryz.zeroValue146
  t146 := Tryz.underlying147
  a146 := Tryz.isAgg147
  z146 := Tryz.sizeOf147
  v146 := Tryz.zeroValue147
  g1 := by kernel_rfl
  i0 := by kernel_rfl
  i3 := by kernel_rfl
  i4 := by kernel_rfl
  i5 := by kernel_rfl
  i9 := by kernel_rfl
  i46 := by kernel_rfl
  i51 := by kernel_rfl
  i146 := by kernel_rfl
  m1 := by kernel_rfl
  s1_3 := fun w h => Go.Proofs.cell_of_shapedOpen_int (zero := #[.int .i64 0]) (t := 3) h (of_decide_eq_true (by kernel_rfl)) (by kernel_rfl) rfl (by kernel_rfl) (by kernel_rfl) Tryz.underlying3 }
open Go.RowKit Go.Lib in
theorem Tryz.strings_Count_shaped (s sub : ByteArray) (w : World) (h : w.ShapedOpen Tryz.prog) (hs : s.size < 4294967281) (h2 : 2 ≤ sub.size) :
    Calls Tryz.prog 78 #[.string s, .string sub] w fun e w' => e = .returned (.int .i64 (Lib.countB s sub)) ∧ w' = w := Any.strings_Count_shaped Tryz.laysM138 s sub w h hs h2
open Go.RowKit Go.Lib in
theorem Tryz.strings_Count_any (s sep : ByteArray) (m : Int) (w : World) (hs : s.size < 4294967281) (hm : w.cell? ⟨0, 0, none⟩ = some (.int .i64 m)) (h1 : 1 ≤ sep.size) :
    Calls Tryz.prog 78 #[.string s, .string sep] w fun e w' => e = .returned (.int .i64 (Lib.countB s sep)) ∧ w' = w := Any.strings_Count_any Tryz.lays138 s sep m w hs hm h1
def Tryz.lays221_ren : Go.Shelf.Ren := ⟨fun | 221 => 63 | 268 => 77 | 138 => 78 | 143 => 56 | 195 => 98 | 197 => 99 | 218 => 100 | 219 => 74 | 260 => 140 | 217 => 93 | 225 => 94 | 224 => 95 | 267 => 96 | 266 => 137 | 314 => 138 | n => n, fun | 9 => 9 | 3 => 3 | 31 => 34 | 4 => 4 | 0 => 0 | 105 => 121 | 21 => 21 | 5 => 5 | 46 => 97 | 119 => 161 | 139 => 164 | 138 => 163 | 146 => 147 | 51 => 146 | n => n, fun | 1 => 0 | 3 => 1 | 4 => 2 | n => n⟩
theorem Tryz.lays221 : Go.Proofs.Lays.n221 Tryz.prog Tryz.lays221_ren := {
  mixed := by kernel_rfl
  f138 := Tryz.func78.trans (congrArg some (by kernel_rfl))
  f143 := Tryz.func56.trans (congrArg some (by kernel_rfl))
  f195 := Tryz.func98.trans (congrArg some (by kernel_rfl))
  f197 := Tryz.func99.trans (congrArg some (by kernel_rfl))
  f217 := Tryz.func93.trans (congrArg some (by kernel_rfl))
  f218 := Tryz.func100.trans (congrArg some (by kernel_rfl))
  f219 := Tryz.func74.trans (congrArg some (by kernel_rfl))
  f221 := Tryz.func63.trans (congrArg some (by kernel_rfl))
  f224 := Tryz.func95.trans (congrArg some (by kernel_rfl))
  f225 := Tryz.func94.trans (congrArg some (by kernel_rfl))
  f260 := Tryz.func140.trans (congrArg some (by kernel_rfl))
  f266 := Tryz.func137.trans (congrArg some (by kernel_rfl))
  f267 := Tryz.func96.trans (congrArg some (by kernel_rfl))
  f268 := Tryz.func77.trans (congrArg some (by kernel_rfl))
  f314 := Tryz.func138.trans (congrArg some (by kernel_rfl))
  t0 := Tryz.underlying0
  a0 := Tryz.isAgg0
  z0 := Tryz.sizeOf0
  v0 := Tryz.zeroValue0
  t3 := Tryz.underlying3
  a3 := Tryz.isAgg3
  z3 := Tryz.sizeOf3
  v3 := Tryz.zeroValue3
  t4 := Tryz.underlying4
  a4 := Tryz.isAgg4
  z4 := Tryz.sizeOf4
  v4 := Tryz.zeroValue4
  t5 := Tryz.underlying5
  a5 := Tryz.isAgg5
  z5 := Tryz.sizeOf5
  v5 := Tryz.zeroValue5
  t9 := Tryz.underlying9
  a9 := Tryz.isAgg9
  z9 := Tryz.sizeOf9
  v9 := Tryz.zeroValue9
  t21 := Tryz.underlying21
  a21 := Tryz.isAgg21
  z21 := Tryz.sizeOf21
  v21 := Tryz.zeroValue21
  t31 := Tryz.underlying34
  a31 := Tryz.isAgg34
  z31 := Tryz.sizeOf34
  v31 := Tryz.zeroValue34
  t46 := Tryz.underlying97
  a46 := Tryz.isAgg97
  z46 := Tryz.sizeOf97
  v46 := Tryz.zeroValue97
  t51 := Tryz.underlying146
  a51 := Tryz.isAgg146
  z51 := Tryz.sizeOf146
  v51 := Tryz.zeroValue146
  t105 := Tryz.underlying121
  a105 := Tryz.isAgg121
  z105 := Tryz.sizeOf121
  v105 := Tryz.zeroValue121
  t119 := Tryz.underlying161
  a119 := Tryz.isAgg161
  z119 := Tryz.sizeOf161
  t138 := Tryz.underlying163
  a138 := Tryz.isAgg163
  z138 := Tryz.sizeOf163
  v138 := Tryz.zeroValue163
  t139 := Tryz.underlying164
  a139 := Tryz.isAgg164
  z139 := Tryz.sizeOf164
  v139 := Tryz.zeroValue164
  t146 := Tryz.underlying147
  a146 := Tryz.isAgg147
  z146 := Tryz.sizeOf147
  v146 := Tryz.zeroValue147
  g1 := by kernel_rfl
  g3 := by kernel_rfl
  g4 := by kernel_rfl }
open Go.RowKit Go.Lib in
theorem Tryz.strings_genSplit (s sep : ByteArray) (sv : Nat) (n : Int) (N : Nat) (m : Int) (w : World) (hs : s.size < 4294967281) (hm : w.cell? ⟨0, 0, none⟩ = some (.int .i64 m)) (h1 : 1 ≤ sep.size) (hsv : sv ≤ sep.size) (hn0 : n ≠ 0) (hn63 : n ≤ 9223372036854775807) (hN : (N : Int) = min (if n < 0 then (Lib.countB s sep : Int) + 1 else n) ((s.size : Int) + 1)) :
    Calls Tryz.prog 63 #[.string s, .string sep, .int .i64 sv, .int .i64 n] w fun e w' =>
      e = .returned (.slice (some ⟨w.heap.size, 0, none⟩) (Lib.splitB sep sv (N - 1) s).length N) ∧ w' = w.alloc (.cells (Lib.cellsOf (Lib.splitB sep sv (N - 1) s) N) 9) := Any.strings_genSplit Tryz.lays221 (by kernel_rfl) s sep sv n N m w hs hm h1 hsv hn0 hn63 hN
def Tryz.lays146_ren : Go.Shelf.Ren := ⟨fun | 146 => 44 | 221 => 63 | 268 => 77 | 138 => 78 | 143 => 56 | 195 => 98 | 197 => 99 | 218 => 100 | 219 => 74 | 260 => 140 | 217 => 93 | 225 => 94 | 224 => 95 | 267 => 96 | 266 => 137 | 314 => 138 | n => n, fun | 9 => 9 | 31 => 34 | 3 => 3 | 4 => 4 | 0 => 0 | 105 => 121 | 21 => 21 | 5 => 5 | 46 => 97 | 119 => 161 | 139 => 164 | 138 => 163 | 146 => 147 | 51 => 146 | n => n, fun | 1 => 0 | 3 => 1 | 4 => 2 | n => n⟩
theorem Tryz.lays146 : Go.Proofs.Lays.n146 Tryz.prog Tryz.lays146_ren := {
  mixed := by kernel_rfl
  f138 := Tryz.func78.trans (congrArg some (by kernel_rfl))
  f143 := Tryz.func56.trans (congrArg some (by kernel_rfl))
  f146 := Tryz.func44.trans (congrArg some (by kernel_rfl))
  f195 := Tryz.func98.trans (congrArg some (by kernel_rfl))
  f197 := Tryz.func99.trans (congrArg some (by kernel_rfl))
  f217 := Tryz.func93.trans (congrArg some (by kernel_rfl))
  f218 := Tryz.func100.trans (congrArg some (by kernel_rfl))
  f219 := Tryz.func74.trans (congrArg some (by kernel_rfl))
  f221 := Tryz.func63.trans (congrArg some (by kernel_rfl))
  f224 := Tryz.func95.trans (congrArg some (by kernel_rfl))
  f225 := Tryz.func94.trans (congrArg some (by kernel_rfl))
  f260 := Tryz.func140.trans (congrArg some (by kernel_rfl))
  f266 := Tryz.func137.trans (congrArg some (by kernel_rfl))
  f267 := Tryz.func96.trans (congrArg some (by kernel_rfl))
  f268 := Tryz.func77.trans (congrArg some (by kernel_rfl))
  f314 := Tryz.func138.trans (congrArg some (by kernel_rfl))
  t0 := Tryz.underlying0
  a0 := Tryz.isAgg0
  z0 := Tryz.sizeOf0
  v0 := Tryz.zeroValue0
  t3 := Tryz.underlying3
  a3 := Tryz.isAgg3
  z3 := Tryz.sizeOf3
  v3 := Tryz.zeroValue3
  t4 := Tryz.underlying4
  a4 := Tryz.isAgg4
  z4 := Tryz.sizeOf4
  v4 := Tryz.zeroValue4
  t5 := Tryz.underlying5
  a5 := Tryz.isAgg5
  z5 := Tryz.sizeOf5
  v5 := Tryz.zeroValue5
  t9 := Tryz.underlying9
  a9 := Tryz.isAgg9
  z9 := Tryz.sizeOf9
  v9 := Tryz.zeroValue9
  t21 := Tryz.underlying21
  a21 := Tryz.isAgg21
  z21 := Tryz.sizeOf21
  v21 := Tryz.zeroValue21
  t31 := Tryz.underlying34
  a31 := Tryz.isAgg34
  z31 := Tryz.sizeOf34
  v31 := Tryz.zeroValue34
  t46 := Tryz.underlying97
  a46 := Tryz.isAgg97
  z46 := Tryz.sizeOf97
  v46 := Tryz.zeroValue97
  t51 := Tryz.underlying146
  a51 := Tryz.isAgg146
  z51 := Tryz.sizeOf146
  v51 := Tryz.zeroValue146
  t105 := Tryz.underlying121
  a105 := Tryz.isAgg121
  z105 := Tryz.sizeOf121
  v105 := Tryz.zeroValue121
  t119 := Tryz.underlying161
  a119 := Tryz.isAgg161
  z119 := Tryz.sizeOf161
  t138 := Tryz.underlying163
  a138 := Tryz.isAgg163
  z138 := Tryz.sizeOf163
  v138 := Tryz.zeroValue163
  t139 := Tryz.underlying164
  a139 := Tryz.isAgg164
  z139 := Tryz.sizeOf164
  v139 := Tryz.zeroValue164
  t146 := Tryz.underlying147
  a146 := Tryz.isAgg147
  z146 := Tryz.sizeOf147
  v146 := Tryz.zeroValue147
  g1 := by kernel_rfl
  g3 := by kernel_rfl
  g4 := by kernel_rfl }
open Go.RowKit Go.Lib in
theorem Tryz.strings_Split (s sep : ByteArray) (m : Int) (w : World) (hs : s.size < 4294967281) (hm : w.cell? ⟨0, 0, none⟩ = some (.int .i64 m)) (h1 : 1 ≤ sep.size) :
    Calls Tryz.prog 44 #[.string s, .string sep] w fun e w' =>
      e = .returned (.slice (some ⟨w.heap.size, 0, none⟩) (Lib.countB s sep + 1) (Lib.countB s sep + 1)) ∧ w' = w.alloc (.cells ((Lib.splitB sep 0 (Lib.countB s sep) s).map Value.string).toArray 9) := Any.strings_Split Tryz.lays146 (by kernel_rfl) s sep m w hs hm h1
def Tryz.laysM146_ren : Go.Shelf.Ren := ⟨fun | 146 => 44 | 221 => 63 | 268 => 77 | 138 => 78 | 143 => 56 | 195 => 98 | 197 => 99 | 218 => 100 | 219 => 74 | 260 => 140 | 217 => 93 | 225 => 94 | 224 => 95 | 267 => 96 | 266 => 137 | 314 => 138 | n => n, fun | 9 => 9 | 31 => 34 | 3 => 3 | 4 => 4 | 0 => 0 | 105 => 121 | 21 => 21 | 5 => 5 | 46 => 97 | 119 => 161 | 139 => 164 | 138 => 163 | 146 => 147 | 51 => 146 | n => n, fun | 1 => 0 | 3 => 1 | 4 => 2 | n => n⟩
theorem Tryz.laysM146 : Go.Proofs.LaysM.n146 Tryz.prog Tryz.laysM146_ren := {
  mixed := by kernel_rfl
  f138 := Tryz.func78.trans (congrArg some (by kernel_rfl))
  f143 := Tryz.func56.trans (congrArg some (by kernel_rfl))
  f146 := Tryz.func44.trans (congrArg some (by kernel_rfl))
  f195 := Tryz.func98.trans (congrArg some (by kernel_rfl))
  f197 := Tryz.func99.trans (congrArg some (by kernel_rfl))
  f217 := Tryz.func93.trans (congrArg some (by kernel_rfl))
  f218 := Tryz.func100.trans (congrArg some (by kernel_rfl))
  f219 := Tryz.func74.trans (congrArg some (by kernel_rfl))
  f221 := Tryz.func63.trans (congrArg some (by kernel_rfl))
  f224 := Tryz.func95.trans (congrArg some (by kernel_rfl))
  f225 := Tryz.func94.trans (congrArg some (by kernel_rfl))
  f260 := Tryz.func140.trans (congrArg some (by kernel_rfl))
  f266 := Tryz.func137.trans (congrArg some (by kernel_rfl))
  f267 := Tryz.func96.trans (congrArg some (by kernel_rfl))
  f268 := Tryz.func77.trans (congrArg some (by kernel_rfl))
  f314 := Tryz.func138.trans (congrArg some (by kernel_rfl))
  t0 := Tryz.underlying0
  a0 := Tryz.isAgg0
  z0 := Tryz.sizeOf0
  v0 := Tryz.zeroValue0
  t3 := Tryz.underlying3
  a3 := Tryz.isAgg3
  z3 := Tryz.sizeOf3
  v3 := Tryz.zeroValue3
  t4 := Tryz.underlying4
  a4 := Tryz.isAgg4
  z4 := Tryz.sizeOf4
  v4 := Tryz.zeroValue4
  t5 := Tryz.underlying5
  a5 := Tryz.isAgg5
  z5 := Tryz.sizeOf5
  v5 := Tryz.zeroValue5
  t9 := Tryz.underlying9
  a9 := Tryz.isAgg9
  z9 := Tryz.sizeOf9
  v9 := Tryz.zeroValue9
  t21 := Tryz.underlying21
  a21 := Tryz.isAgg21
  z21 := Tryz.sizeOf21
  v21 := Tryz.zeroValue21
  t31 := Tryz.underlying34
  a31 := Tryz.isAgg34
  z31 := Tryz.sizeOf34
  v31 := Tryz.zeroValue34
  t46 := Tryz.underlying97
  a46 := Tryz.isAgg97
  z46 := Tryz.sizeOf97
  v46 := Tryz.zeroValue97
  t51 := Tryz.underlying146
  a51 := Tryz.isAgg146
  z51 := Tryz.sizeOf146
  v51 := Tryz.zeroValue146
  t105 := Tryz.underlying121
  a105 := Tryz.isAgg121
  z105 := Tryz.sizeOf121
  v105 := Tryz.zeroValue121
  t119 := Tryz.underlying161
  a119 := Tryz.isAgg161
  z119 := Tryz.sizeOf161
  t138 := Tryz.underlying163
  a138 := Tryz.isAgg163
  z138 := Tryz.sizeOf163
  v138 := Tryz.zeroValue163
  t139 := Tryz.underlying164
  a139 := Tryz.isAgg164
  z139 := Tryz.sizeOf164
  v139 := Tryz.zeroValue164
  t146 := Tryz.underlying147
  a146 := Tryz.isAgg147
  z146 := Tryz.sizeOf147
  v146 := Tryz.zeroValue147
  g1 := by kernel_rfl
  g3 := by kernel_rfl
  g4 := by kernel_rfl
  i0 := by kernel_rfl
  i3 := by kernel_rfl
  i4 := by kernel_rfl
  i5 := by kernel_rfl
  i9 := by kernel_rfl
  i21 := by kernel_rfl
  i31 := by kernel_rfl
  i46 := by kernel_rfl
  i51 := by kernel_rfl
  i105 := by kernel_rfl
  i138 := by kernel_rfl
  i139 := by kernel_rfl
  i146 := by kernel_rfl
  m1 := by kernel_rfl
  s1_3 := fun w h => Go.Proofs.cell_of_shapedOpen_int (zero := #[.int .i64 0]) (t := 3) h (of_decide_eq_true (by kernel_rfl)) (by kernel_rfl) rfl (by kernel_rfl) (by kernel_rfl) Tryz.underlying3
  m3 := by kernel_rfl
  m4 := by kernel_rfl }
open Go.RowKit Go.Lib in
theorem Tryz.strings_Split_shaped (s sep : ByteArray) (w : World) (h : w.ShapedOpen Tryz.prog) (hs : s.size < 4294967281) (h1 : 1 ≤ sep.size) :
    Calls Tryz.prog 44 #[.string s, .string sep] w fun e w' =>
      e = .returned (.slice (some ⟨w.heap.size, 0, none⟩) (Lib.countB s sep + 1) (Lib.countB s sep + 1)) ∧ w' = w.alloc (.cells ((Lib.splitB sep 0 (Lib.countB s sep) s).map Value.string).toArray 9) := Any.strings_Split_shaped Tryz.laysM146 s sep w h hs h1
def Tryz.lays260_ren : Go.Shelf.Ren := ⟨fun | 260 => 140 | n => n, fun | 9 => 9 | 21 => 21 | 3 => 3 | 4 => 4 | 5 => 5 | 119 => 161 | 0 => 0 | 46 => 97 | 139 => 164 | 138 => 163 | n => n, fun | 3 => 1 | 4 => 2 | n => n⟩
theorem Tryz.lays260 : Go.Proofs.Lays.n260 Tryz.prog Tryz.lays260_ren := {
  mixed := by kernel_rfl
  f260 := Tryz.func140.trans (congrArg some (by kernel_rfl))
  t0 := Tryz.underlying0
  a0 := Tryz.isAgg0
  z0 := Tryz.sizeOf0
  v0 := Tryz.zeroValue0
  t3 := Tryz.underlying3
  a3 := Tryz.isAgg3
  z3 := Tryz.sizeOf3
  v3 := Tryz.zeroValue3
  t4 := Tryz.underlying4
  a4 := Tryz.isAgg4
  z4 := Tryz.sizeOf4
  v4 := Tryz.zeroValue4
  t5 := Tryz.underlying5
  a5 := Tryz.isAgg5
  z5 := Tryz.sizeOf5
  v5 := Tryz.zeroValue5
  t9 := Tryz.underlying9
  a9 := Tryz.isAgg9
  z9 := Tryz.sizeOf9
  v9 := Tryz.zeroValue9
  t21 := Tryz.underlying21
  a21 := Tryz.isAgg21
  z21 := Tryz.sizeOf21
  v21 := Tryz.zeroValue21
  t46 := Tryz.underlying97
  a46 := Tryz.isAgg97
  z46 := Tryz.sizeOf97
  v46 := Tryz.zeroValue97
  t119 := Tryz.underlying161
  a119 := Tryz.isAgg161
  z119 := Tryz.sizeOf161
  t138 := Tryz.underlying163
  a138 := Tryz.isAgg163
  z138 := Tryz.sizeOf163
  v138 := Tryz.zeroValue163
  t139 := Tryz.underlying164
  a139 := Tryz.isAgg164
  z139 := Tryz.sizeOf164
  v139 := Tryz.zeroValue164
  g3 := by kernel_rfl
  g4 := by kernel_rfl }
open Go.RowKit Go.Lib in
theorem Tryz.utf8_decodeRuneInStringSlow (s : ByteArray) (w : World) (hT : Lib.Utf8Tabs 1 2 w) :
    Calls Tryz.prog 140 #[.string s] w fun e w' => e = .returned (.tuple #[.int .i32 (Lib.decodeGo s).1, .int .i64 (Lib.decodeGo s).2]) ∧ Below w.heap.size w w' := Any.utf8_decodeRuneInStringSlow Tryz.lays260 s w hT
end Go.Proofs
namespace Go.Proofs.YtnmneoekpikpkaaGreatDoor
open Go.RowKit
set_option linter.unusedSimpArgs false
set_option linter.unusedVariables false
def rowsS (l : List ByteArray) : List (List D) := l.map fun s => [D.a (.string s)]
theorem flat_rowsS (l : List ByteArray) : (rowsS l).flatten = l.map fun s => D.a (.string s) := by
  unfold rowsS
  induction l with
  | nil => rfl
  | cons a l ih => simp [ih]
theorem own_rowsS {w : World} {g : Nat} {T : TypeId} {l : List ByteArray} (hl : l ≠ []) (hm : l.length ≤ maxLen) (h : w.heap[g]? = some (.cells (l.map Value.string).toArray T (0, 0))) :
    OwnD w (.l (rowsS l)) (.slice (some ⟨g, 0, none⟩) l.length l.length) [g] := by
  have e : ([g] : List Nat) = g :: (List.range (rowsS l).flatten.length).flatMap fun _ => [] := by simp
  rw [e]
  refine .l (rowsS l) l.length l.length g 0 1 T _ (fun i => (l.map Value.string)[i]?.getD undef) (fun _ => []) (by simp [rowsS]) (Nat.le_refl _) hm (by omega) ?_ (by simp) (fun e => ?_) h ?_ ?_
  · intro r hr
    unfold rowsS at hr
    obtain ⟨s, -, rfl⟩ := List.mem_map.1 hr
    rfl
  · exact absurd (by simpa [rowsS] using e) hl
  · intro i d hi
    rw [flat_rowsS] at hi
    obtain ⟨s, hs, rfl⟩ := by simpa using hi
    simp [hs]
  · intro i d hi
    rw [flat_rowsS] at hi
    obtain ⟨s, hs, rfl⟩ := by simpa using hi
    simp only [List.getElem?_map, hs, Option.map_some, Option.getD_some]
    exact .a _
def splitOf (s sep : ByteArray) : List ByteArray := Lib.splitB sep 0 (Lib.countB s sep) s
def M_strings_Split : Mean := fun args boxes trees =>
  match args, boxes, trees with
  | [.v (.string s), .v (.string sep)], [], [] => if 1 ≤ sep.size ∧ s.size < 4294967281 then some ⟨.own 0, [], [(0, rowsS (splitOf s sep))]⟩ else none
  | _, _, _ => none
theorem S_strings_Split : Sound Tryz.prog 44 M_strings_Split where
  fn := ⟨_, Tryz.func44, by kernel_rfl, by kernel_rfl⟩
  run := fun c args boxes trees r hr y us w hM ha => by
    unfold M_strings_Split at hr
    split at hr
    · rename_i s sep
      split at hr
      · rename_i hc
        injection hr with hr; subst hr
        obtain ⟨u0, q0, rfl, h0, u1, q1, rfl, h1, h2⟩ := ha
        obtain rfl : u0 = .string s := h0
        obtain rfl : u1 = .string sep := h1
        obtain rfl : q1 = [] := h2
        have S : St c.W w c.L := hM.st
        obtain ⟨m, hm⟩ := (c.zed w (c.hK w S)).2
        have hle := Lib.countB_le sep hc.1 s.size s (Nat.le_refl _)
        have hlen : (splitOf s sep).length = Lib.countB s sep + 1 := Lib.splitB_all sep hc.1 0 _ s rfl
        refine (Tryz.strings_Split s sep m w hc.2 hm hc.1).mono fun e w' ⟨he, hw⟩ => ?_
        subst hw
        have hr : (w.alloc (.cells ((splitOf s sep).map Value.string).toArray 9)).heap[w.heap.size]? = some (.cells ((splitOf s sep).map Value.string).toArray 9 (0, 0)) := row_new w _
        have o := own_rowsS (l := splitOf s sep) (fun e => by rw [e] at hlen; simp at hlen) (by rw [hlen]; unfold maxLen; omega) hr
        rw [hlen] at o
        obtain ⟨h, hv, t⟩ := o.tree
        have S2 : St c.W (w.alloc (.cells ((splitOf s sep).map Value.string).toArray 9)) (treeP h (rowsS (splitOf s sep)) :: c.L) :=
          S.more ((Ext.refl w).alloc _) (F := [w.heap.size]) t (by simp) (by simp)
        refine ⟨_, { y with hd := fset y.hd 0 h }, he, ⟨?_, ?_, ?_, ?_, ?_⟩, ?_, ?_, ?_, ?_⟩
        · exact S2
        · intro b cs hb; cases hb
        · intro p rows hp; cases hp
        · exact List.nodup_nil
        · simp [resS]
        · exact ⟨List.mem_cons_self, hv.symm⟩
        · exact .inl rfl
        · intro i hi; rfl
        · intro q hq; exact absurd hq (by simp)
      · cases hr
    · cases hr
end Go.Proofs.YtnmneoekpikpkaaGreatDoor
namespace Go.Proofs.YtnmneoekpikpkaaGreatDoor
theorem hmix : Tryz.prog.follows .mixedOrders = true := by kernel_rfl
noncomputable def M_sl01New : Mean := evNew Tryz.prog [] ⟨[(3, [4, 3, 0], [])], [], [], []⟩ 18
theorem S_sl01New : Sound Tryz.prog 18 M_sl01New := soundN _ none_sound hmix Tryz.func18 (eqOf (by kernel_rfl))
noncomputable def M_sEdNew : Mean := evFun Tryz.prog [] ⟨[], [], [], []⟩ 19
theorem S_sEdNew : Sound Tryz.prog 19 M_sEdNew := sound _ none_sound hmix Tryz.func19 (eqOf (by kernel_rfl))
noncomputable def M_sl01Byte : Mean := evFun Tryz.prog [] ⟨[], [], [(2, [], []), (3, [], []), (4, [], [])], []⟩ 41
theorem S_sl01Byte : Sound Tryz.prog 41 M_sl01Byte := sound _ none_sound hmix Tryz.func41 (eqOf (by kernel_rfl))
noncomputable def M_sl01Below : Mean := evFun Tryz.prog [(41, false, M_sl01Byte)] ⟨[], [], [], []⟩ 22
theorem S_sl01Below : Sound Tryz.prog 22 M_sl01Below := sound _ (cons_sound S_sl01Byte none_sound) hmix Tryz.func22 (eqOf (by kernel_rfl))
noncomputable def M_sl02Rune : Mean := evFun Tryz.prog [(22, false, M_sl01Below)] ⟨[], [], [], []⟩ 75
theorem S_sl02Rune : Sound Tryz.prog 75 M_sl02Rune := sound _ (cons_sound S_sl01Below none_sound) hmix Tryz.func75 (eqOf (by kernel_rfl))
noncomputable def M_sl02Runes : Mean := evFun Tryz.prog [(22, false, M_sl01Below), (75, false, M_sl02Rune)] ⟨[(3, [6, 5, 0], [1000000000])], [], [], []⟩ 57
theorem S_sl02Runes : Sound Tryz.prog 57 M_sl02Runes := sound _ (cons_sound S_sl01Below (cons_sound S_sl02Rune none_sound)) hmix Tryz.func57 (eqOf (by kernel_rfl))
noncomputable def M_sl13Runes : Mean := evFun Tryz.prog [(57, false, M_sl02Runes), (22, false, M_sl01Below)] ⟨[(3, [13, 12, 5, 0], [1000000000])], [], [], []⟩ 39
theorem S_sl13Runes : Sound Tryz.prog 39 M_sl13Runes := sound _ (cons_sound S_sl02Runes (cons_sound S_sl01Below none_sound)) hmix Tryz.func39 (eqOf (by kernel_rfl))
noncomputable def M_sl13Draw : Mean := evFun Tryz.prog [(39, false, M_sl13Runes), (22, false, M_sl01Below)] ⟨[], [], [], []⟩ 20
theorem S_sl13Draw : Sound Tryz.prog 20 M_sl13Draw := sound _ (cons_sound S_sl13Runes (cons_sound S_sl01Below none_sound)) hmix Tryz.func20 (eqOf (by kernel_rfl))
noncomputable def M_sRuneOk : Mean := evFun Tryz.prog [] ⟨[], [], [], []⟩ 162
theorem S_sRuneOk : Sound Tryz.prog 162 M_sRuneOk := sound _ none_sound hmix Tryz.func162 (eqOf (by kernel_rfl))
noncomputable def M_sPrintable : Mean := evFun Tryz.prog [(162, false, M_sRuneOk)] ⟨[], [], [], []⟩ 139
theorem S_sPrintable : Sound Tryz.prog 139 M_sPrintable := sound _ (cons_sound S_sRuneOk none_sound) hmix Tryz.func139 (eqOf (by kernel_rfl))
noncomputable def M_sl13Typed : Mean := evFun Tryz.prog [(139, false, M_sPrintable)] ⟨[], [], [], []⟩ 97
theorem S_sl13Typed : Sound Tryz.prog 97 M_sl13Typed := sound _ (cons_sound S_sPrintable none_sound) hmix Tryz.func97 (eqOf (by kernel_rfl))
noncomputable def M_sl13AllTyped : Mean := evFun Tryz.prog [(97, false, M_sl13Typed)] ⟨[(2, [7, 6, 5], [])], [], [], []⟩ 76
theorem S_sl13AllTyped : Sound Tryz.prog 76 M_sl13AllTyped := sound _ (cons_sound S_sl13Typed none_sound) hmix Tryz.func76 (eqOf (by kernel_rfl))
noncomputable def M_sl15Piece : Mean := evFun Tryz.prog [(76, false, M_sl13AllTyped)] ⟨[], [], [], []⟩ 59
theorem S_sl15Piece : Sound Tryz.prog 59 M_sl15Piece := sound _ (cons_sound S_sl13AllTyped none_sound) hmix Tryz.func59 (eqOf (by kernel_rfl))
noncomputable def M_sRingOk : Mean := evFun Tryz.prog [(59, false, M_sl15Piece)] ⟨[(2, [8, 7, 6, 1], [1])], [], [], []⟩ 58
theorem S_sRingOk : Sound Tryz.prog 58 M_sRingOk := sound _ (cons_sound S_sl15Piece none_sound) hmix Tryz.func58 (eqOf (by kernel_rfl))
noncomputable def M_sl15Copy : Mean := evFun Tryz.prog [] ⟨[(3, [10, 9, 8, 3, 2], [3, 2])], [], [(5, [], [(7, [0, 1]), (8, []), (10, [])])], []⟩ 60
theorem S_sl15Copy : Sound Tryz.prog 60 M_sl15Copy := sound _ none_sound hmix Tryz.func60 (eqOf (by kernel_rfl))
noncomputable def M_sl13Join : Mean := evFun Tryz.prog [] ⟨[], [], [], []⟩ 61
theorem S_sl13Join : Sound Tryz.prog 61 M_sl13Join := sound _ none_sound hmix Tryz.func61 (eqOf (by kernel_rfl))
noncomputable def M_sRingPut : Mean := evFun Tryz.prog [(58, false, M_sRingOk), (59, false, M_sl15Piece), (60, false, M_sl15Copy), (61, false, M_sl13Join)] ⟨[], [], [(12, [0, 1, 2, 3, 5, 6, 4, 7, 8], [(4, [5, 6]), (7, [])])], []⟩ 40
theorem S_sRingPut : Sound Tryz.prog 40 M_sRingPut := sound _ (cons_sound S_sRingOk (cons_sound S_sl15Piece (cons_sound S_sl15Copy (cons_sound S_sl13Join none_sound)))) hmix Tryz.func40 (eqOf (by kernel_rfl))
noncomputable def M_sl15Ring : Mean := evFun Tryz.prog [(22, false, M_sl01Below), (39, false, M_sl13Runes), (40, false, M_sRingPut)] ⟨[(3, [4, 3, 2, 0], [1000000000, 3, 2])], [], [(5, [0, 1, 3, 2, 4, 5, 6, 7, 8, 9], [(2, [0, 3]), (4, [0]), (9, [8])])], []⟩ 21
theorem S_sl15Ring : Sound Tryz.prog 21 M_sl15Ring := sound _ (cons_sound S_sl01Below (cons_sound S_sl13Runes (cons_sound S_sRingPut none_sound))) hmix Tryz.func21 (eqOf (by kernel_rfl))
noncomputable def M_sl05Text : Mean := evFun Tryz.prog [(22, false, M_sl01Below)] ⟨[], [], [], []⟩ 43
theorem S_sl05Text : Sound Tryz.prog 43 M_sl05Text := sound _ (cons_sound S_sl01Below none_sound) hmix Tryz.func43 (eqOf (by kernel_rfl))
noncomputable def M_sHistOk : Mean := evFun Tryz.prog [] ⟨[(2, [8, 7, 6, 1], [1])], [], [], []⟩ 62
theorem S_sHistOk : Sound Tryz.prog 62 M_sHistOk := sound _ none_sound hmix Tryz.func62 (eqOf (by kernel_rfl))
noncomputable def M_sHistAdd : Mean := evFun Tryz.prog [(62, false, M_sHistOk)] ⟨[], [], [(1, [0, 1, 2, 3, 4, 5, 6, 7, 10, 8, 9, 11], [(8, [0, 1, 10]), (11, [])])], []⟩ 42
theorem S_sHistAdd : Sound Tryz.prog 42 M_sHistAdd := sound _ (cons_sound S_sHistOk none_sound) hmix Tryz.func42 (eqOf (by kernel_rfl))
noncomputable def M_sl16Draw : Mean := evFun Tryz.prog [(22, false, M_sl01Below), (43, false, M_sl05Text), (42, false, M_sHistAdd)] ⟨[(5, [4, 3, 2, 0], [1000000000, 3, 2])], [], [(7, [], [(2, [0]), (7, [6])])], []⟩ 23
theorem S_sl16Draw : Sound Tryz.prog 23 M_sl16Draw := sound _ (cons_sound S_sl01Below (cons_sound S_sl05Text (cons_sound S_sHistAdd none_sound))) hmix Tryz.func23 (eqOf (by kernel_rfl))
noncomputable def M_sMakeEmacs : Mean := evFun Tryz.prog [(18, false, M_sl01New), (19, false, M_sEdNew), (20, false, M_sl13Draw), (21, false, M_sl15Ring), (22, false, M_sl01Below), (23, false, M_sl16Draw)] ⟨[], [], [(7, [], [(2, [1]), (3, [])])], []⟩ 8
theorem S_sMakeEmacs : Sound Tryz.prog 8 M_sMakeEmacs := sound _ (cons_sound S_sl01New (cons_sound S_sEdNew (cons_sound S_sl13Draw (cons_sound S_sl15Ring (cons_sound S_sl01Below (cons_sound S_sl16Draw none_sound)))))) hmix Tryz.func8 (eqOf (by kernel_rfl))
noncomputable def M_iParts : Mean := evFun Tryz.prog [(44, false, M_strings_Split)] ⟨[], [], [], []⟩ 24
theorem S_iParts : Sound Tryz.prog 24 M_iParts := sound _ (cons_sound S_strings_Split none_sound) hmix Tryz.func24 (eqOf (by kernel_rfl))
noncomputable def M_iin : Mean := evFun Tryz.prog [] ⟨[], [], [], []⟩ 28
theorem S_iin : Sound Tryz.prog 28 M_iin := sound _ none_sound hmix Tryz.func28 (eqOf (by kernel_rfl))
noncomputable def M_iRuneOk : Mean := evFun Tryz.prog [(28, false, M_iin)] ⟨[], [], [], []⟩ 53
theorem S_iRuneOk : Sound Tryz.prog 53 M_iRuneOk := sound _ (cons_sound S_iin none_sound) hmix Tryz.func53 (eqOf (by kernel_rfl))
noncomputable def M_iRuneBytes : Mean := evFun Tryz.prog [(53, false, M_iRuneOk)] ⟨[], [], [], []⟩ 54
theorem S_iRuneBytes : Sound Tryz.prog 54 M_iRuneBytes := sound _ (cons_sound S_iRuneOk none_sound) hmix Tryz.func54 (eqOf (by kernel_rfl))
noncomputable def M_iRuneRead : Mean := evFun Tryz.prog [(28, false, M_iin), (54, false, M_iRuneBytes)] ⟨[(17, [57, 56, 55, 8, 7, 1, 0], [])], [], [(21, [], [])], []⟩ 64
theorem S_iRuneRead : Sound Tryz.prog 64 M_iRuneRead := sound _ (cons_sound S_iin (cons_sound S_iRuneBytes none_sound)) hmix Tryz.func64 (eqOf (by kernel_rfl))
noncomputable def M_iRunesOf : Mean := evFun Tryz.prog [(64, false, M_iRuneRead)] ⟨[(6, [6, 5, 4], [])], [], [], []⟩ 45
theorem S_iRunesOf : Sound Tryz.prog 45 M_iRunesOf := sound _ (cons_sound S_iRuneRead none_sound) hmix Tryz.func45 (eqOf (by kernel_rfl))
noncomputable def M_iPrintable : Mean := evFun Tryz.prog [(53, false, M_iRuneOk), (28, false, M_iin)] ⟨[], [], [], []⟩ 30
theorem S_iPrintable : Sound Tryz.prog 30 M_iPrintable := sound _ (cons_sound S_iRuneOk (cons_sound S_iin none_sound)) hmix Tryz.func30 (eqOf (by kernel_rfl))
noncomputable def M_iisLower : Mean := evFun Tryz.prog [(28, false, M_iin)] ⟨[], [], [], []⟩ 65
theorem S_iisLower : Sound Tryz.prog 65 M_iisLower := sound _ (cons_sound S_iin none_sound) hmix Tryz.func65 (eqOf (by kernel_rfl))
noncomputable def M_iKeyOk : Mean := evFun Tryz.prog [(30, false, M_iPrintable), (65, false, M_iisLower), (28, false, M_iin)] ⟨[], [], [], []⟩ 47
theorem S_iKeyOk : Sound Tryz.prog 47 M_iKeyOk := sound _ (cons_sound S_iPrintable (cons_sound S_iisLower (cons_sound S_iin none_sound))) hmix Tryz.func47 (eqOf (by kernel_rfl))
noncomputable def M_iTextOf : Mean := evFun Tryz.prog [(54, false, M_iRuneBytes)] ⟨[(3, [8, 7, 6, 3], [])], [], [], []⟩ 35
theorem S_iTextOf : Sound Tryz.prog 35 M_iTextOf := sound _ (cons_sound S_iRuneBytes none_sound) hmix Tryz.func35 (eqOf (by kernel_rfl))
noncomputable def M_iKeyText : Mean := evFun Tryz.prog [(47, false, M_iKeyOk), (35, false, M_iTextOf), (44, false, M_strings_Split)] ⟨[], [], [(12, [], [])], []⟩ 46
theorem S_iKeyText : Sound Tryz.prog 46 M_iKeyText := sound _ (cons_sound S_iKeyOk (cons_sound S_iTextOf (cons_sound S_strings_Split none_sound))) hmix Tryz.func46 (eqOf (by kernel_rfl))
noncomputable def M_iTextKey : Mean := evFun Tryz.prog [(44, false, M_strings_Split), (45, false, M_iRunesOf), (46, false, M_iKeyText)] ⟨[(2, [11, 10, 9, 2, 0], [2])], [], [], []⟩ 25
theorem S_iTextKey : Sound Tryz.prog 25 M_iTextKey := sound _ (cons_sound S_strings_Split (cons_sound S_iRunesOf (cons_sound S_iKeyText none_sound))) hmix Tryz.func25 (eqOf (by kernel_rfl))
noncomputable def M_iadmissible : Mean := evFun Tryz.prog [(30, false, M_iPrintable)] ⟨[], [], [], []⟩ 73
theorem S_iadmissible : Sound Tryz.prog 73 M_iadmissible := sound _ (cons_sound S_iPrintable none_sound) hmix Tryz.func73 (eqOf (by kernel_rfl))
noncomputable def M_iareAdmissible : Mean := evFun Tryz.prog [(73, false, M_iadmissible)] ⟨[(2, [7, 6, 5], [])], [], [], []⟩ 50
theorem S_iareAdmissible : Sound Tryz.prog 50 M_iareAdmissible := sound _ (cons_sound S_iadmissible none_sound) hmix Tryz.func50 (eqOf (by kernel_rfl))
noncomputable def M_iLineOk : Mean := evFun Tryz.prog [(50, false, M_iareAdmissible), (28, false, M_iin)] ⟨[], [], [], []⟩ 27
theorem S_iLineOk : Sound Tryz.prog 27 M_iLineOk := sound _ (cons_sound S_iareAdmissible (cons_sound S_iin none_sound)) hmix Tryz.func27 (eqOf (by kernel_rfl))
noncomputable def M_iisAtEnd : Mean := evFun Tryz.prog [] ⟨[], [], [], []⟩ 51
theorem S_iisAtEnd : Sound Tryz.prog 51 M_iisAtEnd := sound _ none_sound hmix Tryz.func51 (eqOf (by kernel_rfl))
noncomputable def M_iisAmong : Mean := evFun Tryz.prog [] ⟨[(2, [5, 1, 0], [])], [], [], []⟩ 52
theorem S_iisAmong : Sound Tryz.prog 52 M_iisAmong := sound _ none_sound hmix Tryz.func52 (eqOf (by kernel_rfl))
noncomputable def M_imodeOk : Mean := evFun Tryz.prog [(51, false, M_iisAtEnd), (52, false, M_iisAmong)] ⟨[], [], [], []⟩ 29
theorem S_imodeOk : Sound Tryz.prog 29 M_imodeOk := sound _ (cons_sound S_iisAtEnd (cons_sound S_iisAmong none_sound)) hmix Tryz.func29 (eqOf (by kernel_rfl))
noncomputable def M_iRingOk : Mean := evFun Tryz.prog [(50, false, M_iareAdmissible)] ⟨[(2, [8, 7, 6, 1], [1])], [], [], []⟩ 31
theorem S_iRingOk : Sound Tryz.prog 31 M_iRingOk := sound _ (cons_sound S_iareAdmissible none_sound) hmix Tryz.func31 (eqOf (by kernel_rfl))
noncomputable def M_iUndoOk : Mean := evFun Tryz.prog [(27, false, M_iLineOk)] ⟨[(2, [8, 7, 6, 1], [1])], [], [], []⟩ 32
theorem S_iUndoOk : Sound Tryz.prog 32 M_iUndoOk := sound _ (cons_sound S_iLineOk none_sound) hmix Tryz.func32 (eqOf (by kernel_rfl))
noncomputable def M_iemptyLine : Mean := evFun Tryz.prog [] ⟨[], [], [], []⟩ 33
theorem S_iemptyLine : Sound Tryz.prog 33 M_iemptyLine := sound _ none_sound hmix Tryz.func33 (eqOf (by kernel_rfl))
noncomputable def M_iEdOk : Mean := evFun Tryz.prog [(27, false, M_iLineOk), (28, false, M_iin), (29, false, M_imodeOk), (30, false, M_iPrintable), (31, false, M_iRingOk), (32, false, M_iUndoOk), (33, false, M_iemptyLine)] ⟨[(10, [109, 108, 107, 1], [1])], [], [], []⟩ 11
theorem S_iEdOk : Sound Tryz.prog 11 M_iEdOk := sound _ (cons_sound S_iLineOk (cons_sound S_iin (cons_sound S_imodeOk (cons_sound S_iPrintable (cons_sound S_iRingOk (cons_sound S_iUndoOk (cons_sound S_iemptyLine none_sound))))))) hmix Tryz.func11 (eqOf (by kernel_rfl))
noncomputable def M_iHistOk : Mean := evFun Tryz.prog [(28, false, M_iin)] ⟨[(4, [18, 17, 16], [])], [], [], []⟩ 34
theorem S_iHistOk : Sound Tryz.prog 34 M_iHistOk := sound _ (cons_sound S_iin none_sound) hmix Tryz.func34 (eqOf (by kernel_rfl))
noncomputable def M_icopyInts : Mean := evFun Tryz.prog [] ⟨[], [], [], []⟩ 69
theorem S_icopyInts : Sound Tryz.prog 69 M_icopyInts := sound _ none_sound hmix Tryz.func69 (eqOf (by kernel_rfl))
noncomputable def M_icopyLine : Mean := evFun Tryz.prog [(69, false, M_icopyInts)] ⟨[], [], [(1, [], [(6, [])])], []⟩ 66
theorem S_icopyLine : Sound Tryz.prog 66 M_icopyLine := sound _ (cons_sound S_icopyInts none_sound) hmix Tryz.func66 (eqOf (by kernel_rfl))
noncomputable def M_icopyRing : Mean := evFun Tryz.prog [(69, false, M_icopyInts)] ⟨[(3, [9, 8, 7, 3, 2], [3, 2])], [], [(5, [], [(6, [0, 1]), (7, []), (9, [])])], []⟩ 67
theorem S_icopyRing : Sound Tryz.prog 67 M_icopyRing := sound _ (cons_sound S_icopyInts none_sound) hmix Tryz.func67 (eqOf (by kernel_rfl))
noncomputable def M_icopyUndo : Mean := evFun Tryz.prog [(66, false, M_icopyLine)] ⟨[(3, [9, 8, 7, 3, 2], [3, 2])], [], [(5, [], [(4, [0, 1]), (5, []), (7, [])])], []⟩ 68
theorem S_icopyUndo : Sound Tryz.prog 68 M_icopyUndo := sound _ (cons_sound S_icopyLine none_sound) hmix Tryz.func68 (eqOf (by kernel_rfl))
noncomputable def M_icopyEd : Mean := evFun Tryz.prog [(66, false, M_icopyLine), (67, false, M_icopyRing), (68, false, M_icopyUndo), (69, false, M_icopyInts)] ⟨[], [], [(1, [], [(10, []), (12, []), (14, [])]), (2, [], [(7, []), (9, [])])], []⟩ 48
theorem S_icopyEd : Sound Tryz.prog 48 M_icopyEd := sound _ (cons_sound S_icopyLine (cons_sound S_icopyRing (cons_sound S_icopyUndo (cons_sound S_icopyInts none_sound)))) hmix Tryz.func48 (eqOf (by kernel_rfl))
noncomputable def M_icanKey : Mean := evFun Tryz.prog [(11, false, M_iEdOk), (34, false, M_iHistOk), (47, false, M_iKeyOk)] ⟨[], [], [], []⟩ 79
theorem S_icanKey : Sound Tryz.prog 79 M_icanKey := sound _ (cons_sound S_iEdOk (cons_sound S_iHistOk (cons_sound S_iKeyOk none_sound))) hmix Tryz.func79 (eqOf (by kernel_rfl))
noncomputable def M_itimes : Mean := evFun Tryz.prog [] ⟨[(3, [6, 5, 1, 0], [])], [], [], []⟩ 102
theorem S_itimes : Sound Tryz.prog 102 M_itimes := sound _ none_sound hmix Tryz.func102 (eqOf (by kernel_rfl))
noncomputable def M_iLinePut : Mean := evFun Tryz.prog [(27, false, M_iLineOk), (69, false, M_icopyInts)] ⟨[], [], [(3, [0, 1, 2, 3, 4, 5, 6, 8, 9, 10, 11, 12, 14, 15, 16, 17, 18, 20, 7, 13, 19, 21], [(7, [8, 9, 10, 11, 12, 14, 15, 16, 17, 18, 20]), (13, [14, 15, 16, 17, 18, 20]), (21, [])])], []⟩ 141
theorem S_iLinePut : Sound Tryz.prog 141 M_iLinePut := sound _ (cons_sound S_iLineOk (cons_sound S_icopyInts none_sound)) hmix Tryz.func141 (eqOf (by kernel_rfl))
noncomputable def M_isettled : Mean := evFun Tryz.prog [(48, false, M_icopyEd)] ⟨[], [], [], []⟩ 123
theorem S_isettled : Sound Tryz.prog 123 M_isettled := sound _ (cons_sound S_icopyEd none_sound) hmix Tryz.func123 (eqOf (by kernel_rfl))
noncomputable def M_ibell : Mean := evFun Tryz.prog [(123, false, M_isettled)] ⟨[], [], [], []⟩ 87
theorem S_ibell : Sound Tryz.prog 87 M_ibell := sound _ (cons_sound S_isettled none_sound) hmix Tryz.func87 (eqOf (by kernel_rfl))
noncomputable def M_isameInts : Mean := evFun Tryz.prog [] ⟨[(4, [13, 12, 1, 0], [])], [], [(6, [], [])], []⟩ 145
theorem S_isameInts : Sound Tryz.prog 145 M_isameInts := sound _ none_sound hmix Tryz.func145 (eqOf (by kernel_rfl))
noncomputable def M_iUndoPut : Mean := evFun Tryz.prog [(32, false, M_iUndoOk), (27, false, M_iLineOk), (68, false, M_icopyUndo), (145, false, M_isameInts), (66, false, M_icopyLine)] ⟨[], [], [(5, [], []), (7, [], [(4, [0, 1]), (5, []), (7, [])])], []⟩ 151
theorem S_iUndoPut : Sound Tryz.prog 151 M_iUndoPut := sound _ (cons_sound S_iUndoOk (cons_sound S_iLineOk (cons_sound S_icopyUndo (cons_sound S_isameInts (cons_sound S_icopyLine none_sound))))) hmix Tryz.func151 (eqOf (by kernel_rfl))
noncomputable def M_iinCommand : Mean := evFun Tryz.prog [(51, false, M_iisAtEnd)] ⟨[], [], [], []⟩ 125
theorem S_iinCommand : Sound Tryz.prog 125 M_iinCommand := sound _ (cons_sound S_iisAtEnd none_sound) hmix Tryz.func125 (eqOf (by kernel_rfl))
noncomputable def M_iset : Mean := evFun Tryz.prog [(123, false, M_isettled), (145, false, M_isameInts), (151, false, M_iUndoPut), (66, false, M_icopyLine), (125, false, M_iinCommand)] ⟨[], [], [(4, [], [(6, [])])], []⟩ 117
theorem S_iset : Sound Tryz.prog 117 M_iset := sound _ (cons_sound S_isettled (cons_sound S_isameInts (cons_sound S_iUndoPut (cons_sound S_icopyLine (cons_sound S_iinCommand none_sound))))) hmix Tryz.func117 (eqOf (by kernel_rfl))
noncomputable def M_iinsert : Mean := evFun Tryz.prog [(141, false, M_iLinePut), (87, false, M_ibell), (117, false, M_iset)] ⟨[], [], [], []⟩ 101
theorem S_iinsert : Sound Tryz.prog 101 M_iinsert := sound _ (cons_sound S_iLinePut (cons_sound S_ibell (cons_sound S_iset none_sound))) hmix Tryz.func101 (eqOf (by kernel_rfl))
noncomputable def M_iinLine : Mean := evFun Tryz.prog [(27, false, M_iLineOk)] ⟨[], [], [], []⟩ 147
theorem S_iinLine : Sound Tryz.prog 147 M_iinLine := sound _ (cons_sound S_iLineOk none_sound) hmix Tryz.func147 (eqOf (by kernel_rfl))
noncomputable def M_iLineCut : Mean := evFun Tryz.prog [(147, false, M_iinLine), (69, false, M_icopyInts)] ⟨[], [], [(3, [0, 1, 2, 3, 4, 5, 6, 7, 8, 10, 11, 13, 9, 12, 14], [(9, [10, 11, 13]), (14, [])]), (8, [], [(7, [])])], []⟩ 116
theorem S_iLineCut : Sound Tryz.prog 116 M_iLineCut := sound _ (cons_sound S_iinLine (cons_sound S_icopyInts none_sound)) hmix Tryz.func116 (eqOf (by kernel_rfl))
noncomputable def M_iput : Mean := evFun Tryz.prog [(117, false, M_iset)] ⟨[], [], [], []⟩ 105
theorem S_iput : Sound Tryz.prog 105 M_iput := sound _ (cons_sound S_iset none_sound) hmix Tryz.func105 (eqOf (by kernel_rfl))
noncomputable def M_icut : Mean := evFun Tryz.prog [(116, false, M_iLineCut), (87, false, M_ibell), (105, false, M_iput)] ⟨[], [], [], []⟩ 104
theorem S_icut : Sound Tryz.prog 104 M_icut := sound _ (cons_sound S_iLineCut (cons_sound S_ibell (cons_sound S_iput none_sound))) hmix Tryz.func104 (eqOf (by kernel_rfl))
noncomputable def M_iRingPut : Mean := evFun Tryz.prog [(31, false, M_iRingOk), (28, false, M_iin), (50, false, M_iareAdmissible), (67, false, M_icopyRing), (69, false, M_icopyInts)] ⟨[], [], [(7, [0, 1, 2, 4, 5, 3, 6, 7, 8], [(3, [4, 5]), (6, []), (8, [])]), (10, [], [(8, [0, 1]), (11, [])]), (4, [], [(9, [0, 1]), (12, [])])], []⟩ 118
theorem S_iRingPut : Sound Tryz.prog 118 M_iRingPut := sound _ (cons_sound S_iRingOk (cons_sound S_iin (cons_sound S_iareAdmissible (cons_sound S_icopyRing (cons_sound S_icopyInts none_sound))))) hmix Tryz.func118 (eqOf (by kernel_rfl))
noncomputable def M_ikill : Mean := evFun Tryz.prog [(116, false, M_iLineCut), (87, false, M_ibell), (117, false, M_iset), (118, false, M_iRingPut)] ⟨[], [], [], []⟩ 85
theorem S_ikill : Sound Tryz.prog 85 M_ikill := sound _ (cons_sound S_iLineCut (cons_sound S_ibell (cons_sound S_iset (cons_sound S_iRingPut none_sound)))) hmix Tryz.func85 (eqOf (by kernel_rfl))
noncomputable def M_iwithin : Mean := evFun Tryz.prog [] ⟨[], [], [], []⟩ 114
theorem S_iwithin : Sound Tryz.prog 114 M_iwithin := sound _ none_sound hmix Tryz.func114 (eqOf (by kernel_rfl))
noncomputable def M_iisUpper : Mean := evFun Tryz.prog [(28, false, M_iin)] ⟨[], [], [], []⟩ 148
theorem S_iisUpper : Sound Tryz.prog 148 M_iisUpper := sound _ (cons_sound S_iin none_sound) hmix Tryz.func148 (eqOf (by kernel_rfl))
noncomputable def M_iisDigit : Mean := evFun Tryz.prog [(28, false, M_iin)] ⟨[], [], [], []⟩ 111
theorem S_iisDigit : Sound Tryz.prog 111 M_iisDigit := sound _ (cons_sound S_iin none_sound) hmix Tryz.func111 (eqOf (by kernel_rfl))
noncomputable def M_iClassOf : Mean := evFun Tryz.prog [(65, false, M_iisLower), (148, false, M_iisUpper), (111, false, M_iisDigit), (30, false, M_iPrintable)] ⟨[], [], [], []⟩ 115
theorem S_iClassOf : Sound Tryz.prog 115 M_iClassOf := sound _ (cons_sound S_iisLower (cons_sound S_iisUpper (cons_sound S_iisDigit (cons_sound S_iPrintable none_sound)))) hmix Tryz.func115 (eqOf (by kernel_rfl))
noncomputable def M_iclassAt : Mean := evFun Tryz.prog [(115, false, M_iClassOf)] ⟨[], [], [], []⟩ 163
theorem S_iclassAt : Sound Tryz.prog 163 M_iclassAt := sound _ (cons_sound S_iClassOf none_sound) hmix Tryz.func163 (eqOf (by kernel_rfl))
noncomputable def M_iViWordBack : Mean := evFun Tryz.prog [(114, false, M_iwithin), (163, false, M_iclassAt)] ⟨[(7, [7, 2, 1, 0], []), (2, [2, 1, 0], [])], [], [], []⟩ 142
theorem S_iViWordBack : Sound Tryz.prog 142 M_iViWordBack := sound _ (cons_sound S_iwithin (cons_sound S_iclassAt none_sound)) hmix Tryz.func142 (eqOf (by kernel_rfl))
noncomputable def M_iplainCtrl : Mean := evFun Tryz.prog [(48, false, M_icopyEd), (104, false, M_icut), (85, false, M_ikill), (142, false, M_iViWordBack)] ⟨[], [], [(1, [], []), (16, [], [(11, [10])])], []⟩ 103
theorem S_iplainCtrl : Sound Tryz.prog 103 M_iplainCtrl := sound _ (cons_sound S_icopyEd (cons_sound S_icut (cons_sound S_ikill (cons_sound S_iViWordBack none_sound)))) hmix Tryz.func103 (eqOf (by kernel_rfl))
noncomputable def M_igoTo : Mean := evFun Tryz.prog [(69, false, M_icopyInts)] ⟨[], [], [(1, [], [(10, [])])], []⟩ 106
theorem S_igoTo : Sound Tryz.prog 106 M_igoTo := sound _ (cons_sound S_icopyInts none_sound) hmix Tryz.func106 (eqOf (by kernel_rfl))
noncomputable def M_iHistLast : Mean := evFun Tryz.prog [(34, false, M_iHistOk)] ⟨[], [], [], []⟩ 14
theorem S_iHistLast : Sound Tryz.prog 14 M_iHistLast := sound _ (cons_sound S_iHistOk none_sound) hmix Tryz.func14 (eqOf (by kernel_rfl))
noncomputable def M_iHistGet : Mean := evFun Tryz.prog [(34, false, M_iHistOk), (28, false, M_iin)] ⟨[], [], [], []⟩ 13
theorem S_iHistGet : Sound Tryz.prog 13 M_iHistGet := sound _ (cons_sound S_iHistOk (cons_sound S_iin none_sound)) hmix Tryz.func13 (eqOf (by kernel_rfl))
noncomputable def M_iLineOf : Mean := evFun Tryz.prog [(45, false, M_iRunesOf), (27, false, M_iLineOk)] ⟨[], [], [], []⟩ 153
theorem S_iLineOf : Sound Tryz.prog 153 M_iLineOf := sound _ (cons_sound S_iRunesOf (cons_sound S_iLineOk none_sound)) hmix Tryz.func153 (eqOf (by kernel_rfl))
noncomputable def M_iEdStep : Mean := evFun Tryz.prog [(11, false, M_iEdOk), (123, false, M_isettled), (14, false, M_iHistLast), (66, false, M_icopyLine), (125, false, M_iinCommand), (13, false, M_iHistGet), (153, false, M_iLineOf)] ⟨[], [], [(10, [], [(7, [])])], []⟩ 143
theorem S_iEdStep : Sound Tryz.prog 143 M_iEdStep := sound _ (cons_sound S_iEdOk (cons_sound S_isettled (cons_sound S_iHistLast (cons_sound S_icopyLine (cons_sound S_iinCommand (cons_sound S_iHistGet (cons_sound S_iLineOf none_sound))))))) hmix Tryz.func143 (eqOf (by kernel_rfl))
noncomputable def M_istep : Mean := evFun Tryz.prog [(143, false, M_iEdStep), (87, false, M_ibell)] ⟨[], [], [], []⟩ 107
theorem S_istep : Sound Tryz.prog 107 M_istep := sound _ (cons_sound S_iEdStep (cons_sound S_ibell none_sound)) hmix Tryz.func107 (eqOf (by kernel_rfl))
noncomputable def M_iplain : Mean := evFun Tryz.prog [(102, false, M_itimes), (101, false, M_iinsert), (48, false, M_icopyEd), (103, false, M_iplainCtrl), (104, false, M_icut), (106, false, M_igoTo), (105, false, M_iput), (107, false, M_istep)] ⟨[], [], [(1, [], []), (7, [], [(10, [9])]), (9, [], [(8, [7])]), (19, [], [(11, [10])]), (21, [], [(11, [10])]), (23, [], [(8, [7])]), (25, [], [(9, [8])])], []⟩ 80
theorem S_iplain : Sound Tryz.prog 80 M_iplain := sound _ (cons_sound S_itimes (cons_sound S_iinsert (cons_sound S_icopyEd (cons_sound S_iplainCtrl (cons_sound S_icut (cons_sound S_igoTo (cons_sound S_iput (cons_sound S_istep none_sound)))))))) hmix Tryz.func80 (eqOf (by kernel_rfl))
noncomputable def M_iWordBack : Mean := evFun Tryz.prog [(114, false, M_iwithin), (115, false, M_iClassOf)] ⟨[(4, [1, 0], []), (2, [1, 0], [])], [], [], []⟩ 84
theorem S_iWordBack : Sound Tryz.prog 84 M_iWordBack := sound _ (cons_sound S_iwithin (cons_sound S_iClassOf none_sound)) hmix Tryz.func84 (eqOf (by kernel_rfl))
noncomputable def M_impl_EmacsKey_1 : Mean := evFun Tryz.prog [(84, false, M_iWordBack)] ⟨[], [], [], []⟩ 83
theorem S_impl_EmacsKey_1 : Sound Tryz.prog 83 M_impl_EmacsKey_1 := sound _ (cons_sound S_iWordBack none_sound) hmix Tryz.func83 (eqOf (by kernel_rfl))
noncomputable def M_irunEnd : Mean := evFun Tryz.prog [(163, false, M_iclassAt)] ⟨[(2, [7, 2, 1, 0], [])], [], [], []⟩ 164
theorem S_irunEnd : Sound Tryz.prog 164 M_irunEnd := sound _ (cons_sound S_iclassAt none_sound) hmix Tryz.func164 (eqOf (by kernel_rfl))
noncomputable def M_iViWordOn : Mean := evFun Tryz.prog [(114, false, M_iwithin), (163, false, M_iclassAt), (164, false, M_irunEnd)] ⟨[(4, [2, 1, 0], [])], [], [], []⟩ 157
theorem S_iViWordOn : Sound Tryz.prog 157 M_iViWordOn := sound _ (cons_sound S_iwithin (cons_sound S_iclassAt (cons_sound S_irunEnd none_sound))) hmix Tryz.func157 (eqOf (by kernel_rfl))
noncomputable def M_impl_MotionTo_1 : Mean := evFun Tryz.prog [(157, false, M_iViWordOn)] ⟨[], [], [], []⟩ 156
theorem S_impl_MotionTo_1 : Sound Tryz.prog 156 M_impl_MotionTo_1 := sound _ (cons_sound S_iViWordOn none_sound) hmix Tryz.func156 (eqOf (by kernel_rfl))
noncomputable def M_impl_MotionTo_2 : Mean := evFun Tryz.prog [(142, false, M_iViWordBack)] ⟨[], [], [], []⟩ 158
theorem S_impl_MotionTo_2 : Sound Tryz.prog 158 M_impl_MotionTo_2 := sound _ (cons_sound S_iViWordBack none_sound) hmix Tryz.func158 (eqOf (by kernel_rfl))
noncomputable def M_iViWordEnd : Mean := evFun Tryz.prog [(114, false, M_iwithin), (163, false, M_iclassAt), (164, false, M_irunEnd)] ⟨[(5, [7, 2, 1, 0], [])], [], [], []⟩ 160
theorem S_iViWordEnd : Sound Tryz.prog 160 M_iViWordEnd := sound _ (cons_sound S_iwithin (cons_sound S_iclassAt (cons_sound S_irunEnd none_sound))) hmix Tryz.func160 (eqOf (by kernel_rfl))
noncomputable def M_impl_MotionTo_3 : Mean := evFun Tryz.prog [(160, false, M_iViWordEnd)] ⟨[], [], [], []⟩ 159
theorem S_impl_MotionTo_3 : Sound Tryz.prog 159 M_impl_MotionTo_3 := sound _ (cons_sound S_iViWordEnd none_sound) hmix Tryz.func159 (eqOf (by kernel_rfl))
noncomputable def M_irepeated : Mean := evFun Tryz.prog [(83, false, M_impl_EmacsKey_1), (156, false, M_impl_MotionTo_1), (158, false, M_impl_MotionTo_2), (159, false, M_impl_MotionTo_3)] ⟨[(2, [8, 7, 2, 0], [1000000001, 1000000000])], [], [], []⟩ 82
theorem S_irepeated : Sound Tryz.prog 82 M_irepeated := sound _ (cons_sound S_impl_EmacsKey_1 (cons_sound S_impl_MotionTo_1 (cons_sound S_impl_MotionTo_2 (cons_sound S_impl_MotionTo_3 none_sound)))) hmix Tryz.func82 (eqOf (by kernel_rfl))
noncomputable def M_iEmacsKey : Mean := evFun Tryz.prog [(79, false, M_icanKey), (80, false, M_iplain), (83, false, M_impl_EmacsKey_1), (82, false, M_irepeated), (85, false, M_ikill), (87, false, M_ibell)] ⟨[], [], [], []⟩ 70
theorem S_iEmacsKey : Sound Tryz.prog 70 M_iEmacsKey := sound _ (cons_sound S_icanKey (cons_sound S_iplain (cons_sound S_impl_EmacsKey_1 (cons_sound S_irepeated (cons_sound S_ikill (cons_sound S_ibell none_sound)))))) hmix Tryz.func70 (eqOf (by kernel_rfl))
noncomputable def M_iHowOf : Mean := evFun Tryz.prog [] ⟨[], [], [], []⟩ 126
theorem S_iHowOf : Sound Tryz.prog 126 M_iHowOf := sound _ none_sound hmix Tryz.func126 (eqOf (by kernel_rfl))
noncomputable def M_iFindRune : Mean := evFun Tryz.prog [(114, false, M_iwithin)] ⟨[(6, [10, 9, 2, 0], []), (12, [11, 2, 0], []), (18, [12, 9, 2, 0], []), (24, [13, 2, 0], [])], [], [], []⟩ 154
theorem S_iFindRune : Sound Tryz.prog 154 M_iFindRune := sound _ (cons_sound S_iwithin none_sound) hmix Tryz.func154 (eqOf (by kernel_rfl))
noncomputable def M_iFindTo : Mean := evFun Tryz.prog [(114, false, M_iwithin), (154, false, M_iFindRune)] ⟨[(3, [19, 18, 3, 2, 1, 0], [])], [], [], []⟩ 127
theorem S_iFindTo : Sound Tryz.prog 127 M_iFindTo := sound _ (cons_sound S_iwithin (cons_sound S_iFindRune none_sound)) hmix Tryz.func127 (eqOf (by kernel_rfl))
noncomputable def M_iSpan : Mean := evFun Tryz.prog [(114, false, M_iwithin)] ⟨[], [], [], []⟩ 161
theorem S_iSpan : Sound Tryz.prog 161 M_iSpan := sound _ (cons_sound S_iwithin none_sound) hmix Tryz.func161 (eqOf (by kernel_rfl))
noncomputable def M_ityping : Mean := evFun Tryz.prog [] ⟨[], [], [], []⟩ 155
theorem S_ityping : Sound Tryz.prog 155 M_ityping := sound _ none_sound hmix Tryz.func155 (eqOf (by kernel_rfl))
noncomputable def M_ichange : Mean := evFun Tryz.prog [(87, false, M_ibell), (106, false, M_igoTo), (117, false, M_iset), (155, false, M_ityping), (116, false, M_iLineCut), (48, false, M_icopyEd), (118, false, M_iRingPut), (105, false, M_iput)] ⟨[], [], [(4, [], [(8, [])]), (9, [], [(8, [])]), (10, [], [(5, [])])], []⟩ 130
theorem S_ichange : Sound Tryz.prog 130 M_ichange := sound _ (cons_sound S_ibell (cons_sound S_igoTo (cons_sound S_iset (cons_sound S_ityping (cons_sound S_iLineCut (cons_sound S_icopyEd (cons_sound S_iRingPut (cons_sound S_iput none_sound)))))))) hmix Tryz.func130 (eqOf (by kernel_rfl))
noncomputable def M_imove : Mean := evFun Tryz.prog [(106, false, M_igoTo), (105, false, M_iput), (161, false, M_iSpan), (130, false, M_ichange)] ⟨[], [], [(2, [], [(8, [])])], []⟩ 133
theorem S_imove : Sound Tryz.prog 133 M_imove := sound _ (cons_sound S_igoTo (cons_sound S_iput (cons_sound S_iSpan (cons_sound S_ichange none_sound)))) hmix Tryz.func133 (eqOf (by kernel_rfl))
noncomputable def M_ifindIn : Mean := evFun Tryz.prog [(127, false, M_iFindTo), (87, false, M_ibell), (133, false, M_imove)] ⟨[], [], [], []⟩ 128
theorem S_ifindIn : Sound Tryz.prog 128 M_ifindIn := sound _ (cons_sound S_iFindTo (cons_sound S_ibell (cons_sound S_imove none_sound))) hmix Tryz.func128 (eqOf (by kernel_rfl))
noncomputable def M_iwaited : Mean := evFun Tryz.prog [(87, false, M_ibell), (106, false, M_igoTo), (105, false, M_iput), (126, false, M_iHowOf), (127, false, M_iFindTo), (48, false, M_icopyEd), (128, false, M_ifindIn)] ⟨[(9, [10, 9, 8, 6, 4, 3, 2], [9, 6, 4, 3])], [], [], []⟩ 90
theorem S_iwaited : Sound Tryz.prog 90 M_iwaited := sound _ (cons_sound S_ibell (cons_sound S_igoTo (cons_sound S_iput (cons_sound S_iHowOf (cons_sound S_iFindTo (cons_sound S_icopyEd (cons_sound S_ifindIn none_sound))))))) hmix Tryz.func90 (eqOf (by kernel_rfl))
noncomputable def M_iMotionTo : Mean := evFun Tryz.prog [(114, false, M_iwithin), (148, false, M_iisUpper), (156, false, M_impl_MotionTo_1), (82, false, M_irepeated), (158, false, M_impl_MotionTo_2), (159, false, M_impl_MotionTo_3), (115, false, M_iClassOf)] ⟨[(23, [13, 11, 4], [4])], [], [], []⟩ 132
theorem S_iMotionTo : Sound Tryz.prog 132 M_iMotionTo := sound _ (cons_sound S_iwithin (cons_sound S_iisUpper (cons_sound S_impl_MotionTo_1 (cons_sound S_irepeated (cons_sound S_impl_MotionTo_2 (cons_sound S_impl_MotionTo_3 (cons_sound S_iClassOf none_sound))))))) hmix Tryz.func132 (eqOf (by kernel_rfl))
noncomputable def M_imoveBy : Mean := evFun Tryz.prog [(132, false, M_iMotionTo), (133, false, M_imove)] ⟨[], [], [], []⟩ 129
theorem S_imoveBy : Sound Tryz.prog 129 M_imoveBy := sound _ (cons_sound S_iMotionTo (cons_sound S_imove none_sound)) hmix Tryz.func129 (eqOf (by kernel_rfl))
noncomputable def M_iseek : Mean := evFun Tryz.prog [(123, false, M_isettled), (66, false, M_icopyLine)] ⟨[], [], [], []⟩ 122
theorem S_iseek : Sound Tryz.prog 122 M_iseek := sound _ (cons_sound S_isettled (cons_sound S_icopyLine none_sound)) hmix Tryz.func122 (eqOf (by kernel_rfl))
noncomputable def M_ispecial : Mean := evFun Tryz.prog [(48, false, M_icopyEd), (87, false, M_ibell), (123, false, M_isettled), (107, false, M_istep), (129, false, M_imoveBy), (130, false, M_ichange), (122, false, M_iseek)] ⟨[], [], [(1, [], [])], []⟩ 91
theorem S_ispecial : Sound Tryz.prog 91 M_ispecial := sound _ (cons_sound S_icopyEd (cons_sound S_ibell (cons_sound S_isettled (cons_sound S_istep (cons_sound S_imoveBy (cons_sound S_ichange (cons_sound S_iseek none_sound))))))) hmix Tryz.func91 (eqOf (by kernel_rfl))
noncomputable def M_ibegun : Mean := evFun Tryz.prog [(48, false, M_icopyEd), (28, false, M_iin), (126, false, M_iHowOf), (87, false, M_ibell), (128, false, M_ifindIn), (52, false, M_iisAmong)] ⟨[], [], [(18, [], [(4, [1, 2]), (6, []), (8, [])])], []⟩ 131
theorem S_ibegun : Sound Tryz.prog 131 M_ibegun := sound _ (cons_sound S_icopyEd (cons_sound S_iin (cons_sound S_iHowOf (cons_sound S_ibell (cons_sound S_ifindIn (cons_sound S_iisAmong none_sound)))))) hmix Tryz.func131 (eqOf (by kernel_rfl))
noncomputable def M_iRingTop : Mean := evFun Tryz.prog [(31, false, M_iRingOk), (69, false, M_icopyInts)] ⟨[], [], [], []⟩ 144
theorem S_iRingTop : Sound Tryz.prog 144 M_iRingTop := sound _ (cons_sound S_iRingOk (cons_sound S_icopyInts none_sound)) hmix Tryz.func144 (eqOf (by kernel_rfl))
noncomputable def M_ipaste : Mean := evFun Tryz.prog [(144, false, M_iRingTop), (102, false, M_itimes), (106, false, M_igoTo), (141, false, M_iLinePut), (87, false, M_ibell), (105, false, M_iput)] ⟨[], [], [(5, [], [(9, [])])], []⟩ 134
theorem S_ipaste : Sound Tryz.prog 134 M_ipaste := sound _ (cons_sound S_iRingTop (cons_sound S_itimes (cons_sound S_igoTo (cons_sound S_iLinePut (cons_sound S_ibell (cons_sound S_iput none_sound)))))) hmix Tryz.func134 (eqOf (by kernel_rfl))
noncomputable def M_iupper : Mean := evFun Tryz.prog [(65, false, M_iisLower)] ⟨[], [], [], []⟩ 149
theorem S_iupper : Sound Tryz.prog 149 M_iupper := sound _ (cons_sound S_iisLower none_sound) hmix Tryz.func149 (eqOf (by kernel_rfl))
noncomputable def M_ilower : Mean := evFun Tryz.prog [(148, false, M_iisUpper)] ⟨[], [], [], []⟩ 150
theorem S_ilower : Sound Tryz.prog 150 M_ilower := sound _ (cons_sound S_iisUpper none_sound) hmix Tryz.func150 (eqOf (by kernel_rfl))
noncomputable def M_iturnCase : Mean := evFun Tryz.prog [(87, false, M_ibell), (106, false, M_igoTo), (65, false, M_iisLower), (149, false, M_iupper), (150, false, M_ilower), (105, false, M_iput)] ⟨[(6, [8, 7, 4, 2], [7, 4, 2])], [], [(10, [], [(6, [])]), (11, [], [(6, [])])], []⟩ 135
theorem S_iturnCase : Sound Tryz.prog 135 M_iturnCase := sound _ (cons_sound S_ibell (cons_sound S_igoTo (cons_sound S_iisLower (cons_sound S_iupper (cons_sound S_ilower (cons_sound S_iput none_sound)))))) hmix Tryz.func135 (eqOf (by kernel_rfl))
noncomputable def M_iUndoTake : Mean := evFun Tryz.prog [(32, false, M_iUndoOk), (68, false, M_icopyUndo), (66, false, M_icopyLine)] ⟨[], [], [(5, [], [(8, []), (9, [])])], []⟩ 152
theorem S_iUndoTake : Sound Tryz.prog 152 M_iUndoTake := sound _ (cons_sound S_iUndoOk (cons_sound S_icopyUndo (cons_sound S_icopyLine none_sound))) hmix Tryz.func152 (eqOf (by kernel_rfl))
noncomputable def M_iundo : Mean := evFun Tryz.prog [(152, false, M_iUndoTake), (87, false, M_ibell), (123, false, M_isettled), (125, false, M_iinCommand)] ⟨[], [], [(5, [], [(6, [4]), (8, [])])], []⟩ 121
theorem S_iundo : Sound Tryz.prog 121 M_iundo := sound _ (cons_sound S_iUndoTake (cons_sound S_ibell (cons_sound S_isettled (cons_sound S_iinCommand none_sound)))) hmix Tryz.func121 (eqOf (by kernel_rfl))
noncomputable def M_ibegin : Mean := evFun Tryz.prog [(132, false, M_iMotionTo), (87, false, M_ibell), (106, false, M_igoTo), (117, false, M_iset), (155, false, M_ityping)] ⟨[], [], [(1, [], []), (11, [], [(8, [])])], []⟩ 136
theorem S_ibegin : Sound Tryz.prog 136 M_ibegin := sound _ (cons_sound S_iMotionTo (cons_sound S_ibell (cons_sound S_igoTo (cons_sound S_iset (cons_sound S_ityping none_sound))))) hmix Tryz.func136 (eqOf (by kernel_rfl))
noncomputable def M_icommand : Mean := evFun Tryz.prog [(131, false, M_ibegun), (130, false, M_ichange), (132, false, M_iMotionTo), (133, false, M_imove), (87, false, M_ibell), (48, false, M_icopyEd), (134, false, M_ipaste), (135, false, M_iturnCase), (121, false, M_iundo), (107, false, M_istep), (122, false, M_iseek), (136, false, M_ibegin)] ⟨[], [], [(1, [], [])], []⟩ 92
theorem S_icommand : Sound Tryz.prog 92 M_icommand := sound _ (cons_sound S_ibegun (cons_sound S_ichange (cons_sound S_iMotionTo (cons_sound S_imove (cons_sound S_ibell (cons_sound S_icopyEd (cons_sound S_ipaste (cons_sound S_iturnCase (cons_sound S_iundo (cons_sound S_istep (cons_sound S_iseek (cons_sound S_ibegin none_sound)))))))))))) hmix Tryz.func92 (eqOf (by kernel_rfl))
noncomputable def M_iViKey : Mean := evFun Tryz.prog [(79, false, M_icanKey), (80, false, M_iplain), (87, false, M_ibell), (48, false, M_icopyEd), (90, false, M_iwaited), (91, false, M_ispecial), (92, false, M_icommand)] ⟨[], [], [], []⟩ 72
theorem S_iViKey : Sound Tryz.prog 72 M_iViKey := sound _ (cons_sound S_icanKey (cons_sound S_iplain (cons_sound S_ibell (cons_sound S_icopyEd (cons_sound S_iwaited (cons_sound S_ispecial (cons_sound S_icommand none_sound))))))) hmix Tryz.func72 (eqOf (by kernel_rfl))
noncomputable def M_iEdKey : Mean := evFun Tryz.prog [(70, false, M_iEmacsKey), (72, false, M_iViKey)] ⟨[], [], [], []⟩ 49
theorem S_iEdKey : Sound Tryz.prog 49 M_iEdKey := sound _ (cons_sound S_iEmacsKey (cons_sound S_iViKey none_sound)) hmix Tryz.func49 (eqOf (by kernel_rfl))
noncomputable def M_iEdKeys : Mean := evFun Tryz.prog [(11, false, M_iEdOk), (34, false, M_iHistOk), (47, false, M_iKeyOk), (48, false, M_icopyEd), (49, false, M_iEdKey)] ⟨[(12, [40, 39, 38, 11, 10, 6, 4], [10, 6, 4]), (4, [27, 26, 25, 6, 4, 3, 2], [6, 4, 3])], [], [], []⟩ 26
theorem S_iEdKeys : Sound Tryz.prog 26 M_iEdKeys := sound _ (cons_sound S_iEdOk (cons_sound S_iHistOk (cons_sound S_iKeyOk (cons_sound S_icopyEd (cons_sound S_iEdKey none_sound))))) hmix Tryz.func26 (eqOf (by kernel_rfl))
noncomputable def M_iEdTyped : Mean := evFun Tryz.prog [(24, false, M_iParts), (25, false, M_iTextKey), (26, false, M_iEdKeys)] ⟨[(3, [16, 15, 14, 8, 6, 4, 3], [6, 4, 3])], [], [], []⟩ 10
theorem S_iEdTyped : Sound Tryz.prog 10 M_iEdTyped := sound _ (cons_sound S_iParts (cons_sound S_iTextKey (cons_sound S_iEdKeys none_sound))) hmix Tryz.func10 (eqOf (by kernel_rfl))
noncomputable def M_lsameInts : Mean := evFun Tryz.prog [] ⟨[(4, [13, 12, 1, 0], [])], [], [(6, [], [])], []⟩ 12
theorem S_lsameInts : Sound Tryz.prog 12 M_lsameInts := sound _ none_sound hmix Tryz.func12 (eqOf (by kernel_rfl))
noncomputable def M_iLineText : Mean := evFun Tryz.prog [(27, false, M_iLineOk), (35, false, M_iTextOf)] ⟨[], [], [], []⟩ 15
theorem S_iLineText : Sound Tryz.prog 15 M_iLineText := sound _ (cons_sound S_iLineOk (cons_sound S_iTextOf none_sound)) hmix Tryz.func15 (eqOf (by kernel_rfl))
noncomputable def M_sl21Clip : Mean := evFun Tryz.prog [] ⟨[], [], [], []⟩ 38
theorem S_sl21Clip : Sound Tryz.prog 38 M_sl21Clip := sound _ none_sound hmix Tryz.func38 (eqOf (by kernel_rfl))
noncomputable def M_sMakeVi : Mean := evFun Tryz.prog [(18, false, M_sl01New), (19, false, M_sEdNew), (20, false, M_sl13Draw), (38, false, M_sl21Clip), (21, false, M_sl15Ring), (23, false, M_sl16Draw)] ⟨[], [], [(8, [], [(2, [1]), (3, [])])], []⟩ 17
theorem S_sMakeVi : Sound Tryz.prog 17 M_sMakeVi := sound _ (cons_sound S_sl01New (cons_sound S_sEdNew (cons_sound S_sl13Draw (cons_sound S_sl21Clip (cons_sound S_sl15Ring (cons_sound S_sl16Draw none_sound)))))) hmix Tryz.func17 (eqOf (by kernel_rfl))
end Go.Proofs.YtnmneoekpikpkaaGreatDoor
namespace Go.Proofs.YtnmneoekpikpkaaGreatDoor
open Go.RowKit
set_option linter.unusedSimpArgs false
set_option linter.unusedVariables false
set_option maxHeartbeats 4000000
set_option maxRecDepth 10000
theorem E_iin (x a b : Int) : M_iin [V.v (.int .i64 x), V.v (.int .i64 a), V.v (.int .i64 b)] [] [] = some ⟨V.v (.bool (inR x a b)), [], []⟩ := by
  unfold M_iin
  by_cases h : a ≤ x <;> simp [Tryz.func28, Tryz.f28, h, inR]
def gridNewOk (w h : Int) : Bool := inR w 2 200 && inR h 1 200 && decide (w * h ≤ 8000)
theorem gridNewOk_of {w h : Int} (hn : gridNewOk w h = true) : (2 ≤ w ∧ w ≤ 200) ∧ (1 ≤ h ∧ h ≤ 200) ∧ w * h ≤ 8000 ∧ 0 ≤ w * h := by
  simp only [gridNewOk, Bool.and_eq_true, decide_eq_true_eq, inR_iff] at hn
  exact ⟨hn.1.1, hn.1.2, hn.2, Int.mul_nonneg (by omega) (by omega)⟩
theorem mul_range {w h : Int} (a : 2 ≤ w ∧ w ≤ 200) (b : 1 ≤ h ∧ h ≤ 200) : 0 ≤ w * h ∧ w * h ≤ 40000 :=
  ⟨Int.mul_nonneg (by omega) (by omega), by have := Int.mul_le_mul a.2 b.2 (by omega) (by omega); omega⟩
def vGrid (w h : Int) (p : V) (x y : Int) (wr : Bool) : V := .agg [V.v (.int .i64 w), V.v (.int .i64 h), p, V.v (.int .i64 x), V.v (.int .i64 y), V.v (.bool wr)]
def blanks (n : Nat) : List Int := List.replicate n 32
theorem blanks_snoc (n : Nat) : ints (blanks n) ++ [[D.a (.int .i64 32)]] = ints (blanks (n + 1)) := by rw [ints_snoc, blanks, ← List.replicate_succ']; rfl
theorem blanks_len (n : Nat) : (blanks n).length = n := List.length_replicate ..
end Go.Proofs.YtnmneoekpikpkaaGreatDoor
namespace Go.Proofs.YtnmneoekpikpkaaGreatDoor
open Go.RowKit
mutual
def bnD (B : Nat) : D → Bool
  | .a _ => true
  | .l rows => decide (rows.length ≤ B) && bnT B rows
  | .gone => false
def bnR (B : Nat) : List D → Bool
  | [] => true
  | d :: r => bnD B d && bnR B r
def bnT (B : Nat) : List (List D) → Bool
  | [] => true
  | r :: rows => bnR B r && bnT B rows
end
def bnL (B : Nat) (rows : List (List D)) : Bool := decide (rows.length ≤ B) && bnT B rows
abbrev smL (rows : List (List D)) : Bool := bnL 1000000000 rows
abbrev smR (r : List D) : Bool := bnR 1000000000 r
abbrev lgL (rows : List (List D)) : Bool := bnL 9223372036854775807 rows
abbrev lgR (r : List D) : Bool := bnR 9223372036854775807 r
variable {B : Nat}
@[simp] theorem bnD_a (v : Value) : bnD B (.a v) = true := id rfl
@[simp] theorem bnD_l (rows : List (List D)) : bnD B (.l rows) = bnL B rows := id rfl
@[simp] theorem bnR_nil : bnR B [] = true := id rfl
@[simp] theorem bnR_cons (d : D) (r : List D) : bnR B (d :: r) = (bnD B d && bnR B r) := id rfl
@[simp] theorem bnL_nil : bnL B [] = true := by simp [bnL, bnT]
theorem bnL_len {rows : List (List D)} (h : bnL B rows = true) : rows.length ≤ B := by
  unfold bnL at h; rw [Bool.and_eq_true, decide_eq_true_eq] at h; exact h.1
theorem bnT_at : ∀ {rows : List (List D)} {j : Nat} {r : List D}, bnT B rows = true → rows[j]? = some r → bnR B r = true
  | [], j, r, _, e => by simp at e
  | x :: rows, j, r, h, e => by
    have h : (bnR B x && bnT B rows) = true := h
    rw [Bool.and_eq_true] at h
    cases j with
    | zero => simp at e; subst e; exact h.1
    | succ j => exact bnT_at h.2 (by simpa using e)
theorem bnT_of : ∀ {rows : List (List D)}, (∀ (j : Nat) (r : List D), rows[j]? = some r → bnR B r = true) → bnT B rows = true
  | [], _ => rfl
  | x :: rows, h => by
    show (bnR B x && bnT B rows) = true
    rw [h 0 x rfl, bnT_of fun j r e => h (j + 1) r (by simpa using e)]; rfl
theorem bnL_at {rows : List (List D)} {j : Nat} {r : List D} (h : bnL B rows = true) (e : rows[j]? = some r) : bnR B r = true := by
  unfold bnL at h; rw [Bool.and_eq_true] at h; exact bnT_at h.2 e
theorem bnL_of {rows : List (List D)} (hl : rows.length ≤ B) (h : ∀ (j : Nat) (r : List D), rows[j]? = some r → bnR B r = true) : bnL B rows = true := by
  unfold bnL; rw [bnT_of h, decide_eq_true hl]; rfl
theorem smL_len {rows : List (List D)} (h : smL rows = true) : rows.length ≤ 1000000000 := bnL_len h
theorem smL_at {rows : List (List D)} {j : Nat} {r : List D} (h : smL rows = true) (e : rows[j]? = some r) : smR r = true := bnL_at h e
theorem bnT_flat : ∀ {rows : List (List D)}, rowsFlat rows = true → bnT B rows = true
  | [], _ => rfl
  | r :: rows, h => by
    have h : (r.all flatD && rowsFlat rows) = true := h
    rw [Bool.and_eq_true] at h
    have : ∀ l : List D, l.all flatD = true → bnR B l = true := by
      intro l; induction l with
      | nil => intro _; rfl
      | cons d l ih =>
        intro h
        rw [List.all_cons, Bool.and_eq_true] at h
        rw [bnR_cons, ih h.2]
        cases d with
        | a v => rfl
        | l rows => cases h.1
        | gone => cases h.1
    show (bnR B r && bnT B rows) = true
    rw [this r h.1, bnT_flat h.2]; rfl
theorem bnL_flat {rows : List (List D)} (h : rowsFlat rows = true) (hl : rows.length ≤ B) : bnL B rows = true := by
  unfold bnL; rw [bnT_flat h, decide_eq_true hl]; rfl
theorem bnL_ints {l : List Int} (h : l.length ≤ B) : bnL B (ints l) = true := bnL_flat (ints_flat l) (by simpa using h)
theorem bnL_byts {l : List UInt8} (h : l.length ≤ B) : bnL B (byts l) = true := bnL_flat (byts_flat l) (by simpa using h)
theorem bnL_strs {l : List ByteArray} (h : l.length ≤ B) : bnL B (strs l) = true := bnL_flat (strs_flat l) (by simpa using h)
theorem smL_ints {l : List Int} (h : l.length ≤ 1000000000) : smL (ints l) = true := bnL_ints h
theorem smL_byts {l : List UInt8} (h : l.length ≤ 1000000000) : smL (byts l) = true := bnL_byts h
theorem smL_strs {l : List ByteArray} (h : l.length ≤ 1000000000) : smL (strs l) = true := bnL_strs h
end Go.Proofs.YtnmneoekpikpkaaGreatDoor
namespace Go.Proofs.YtnmneoekpikpkaaGreatDoor
open Go.RowKit
set_option linter.unusedSimpArgs false
set_option linter.unusedVariables false
set_option maxHeartbeats 4000000
set_option maxRecDepth 10000
def runeOk (r : Int) : Bool := inR r 0 1114111 && !inR r 55296 57343
def printable (r : Int) : Bool := runeOk r && decide (32 ≤ r) && !inR r 127 159
def typed (r : Int) : Bool := printable r || r == 9 || r == 10
theorem firstBad {α : Type} (p : α → Bool) (l : List α) : l.all p = true ∨ (l.all p = false ∧ ∃ N, ∃ h : N < l.length, p l[N] = false ∧ ∀ j (hj : j < l.length), j < N → p l[j] = true) := by
  induction l with
  | nil => exact .inl rfl
  | cons x l ih =>
    cases hx : p x
    · exact .inr ⟨by simp [hx], 0, by simp, hx, fun j hj h => by omega⟩
    · rcases ih with h | ⟨h, N, hN, h1, h2⟩
      · exact .inl (by simp [hx, h])
      · refine .inr ⟨by simp [hx, h], N + 1, by simpa using hN, by simpa using h1, fun j hj hlt => ?_⟩
        cases j with
        | zero => simpa using hx
        | succ j => simpa using h2 j (by simpa using hj) (by omega)
theorem E_iRuneOk (r : Int) : M_iRuneOk [V.v (.int .i64 r)] [] [] = some ⟨V.v (.bool (runeOk r)), [], []⟩ := by
  unfold M_iRuneOk
  cases h1 : inR r 0 1114111 <;> cases h2 : inR r 55296 57343 <;> simp [Tryz.func53, Tryz.f53, E_iin, runeOk, h1, h2]
theorem E_sRuneOk (r : Int) : M_sRuneOk [V.v (.int .i64 r)] [] [] = some ⟨V.v (.bool (runeOk r)), [], []⟩ := by
  unfold M_sRuneOk
  by_cases h1 : 0 ≤ r <;> by_cases h2 : r ≤ 1114111 <;> by_cases h3 : r < 55296 <;> by_cases h4 : 57343 < r <;> simp [Tryz.func162, Tryz.f162, runeOk, inR, h1, h2, h3, h4] <;> omega
theorem E_iPrintable (r : Int) : M_iPrintable [V.v (.int .i64 r)] [] [] = some ⟨V.v (.bool (printable r)), [], []⟩ := by
  unfold M_iPrintable
  cases h1 : runeOk r <;> by_cases h3 : 32 ≤ r <;> cases h2 : inR r 127 159 <;> simp [Tryz.func30, Tryz.f30, E_iin, E_iRuneOk, printable, h1, h2, h3]
theorem E_sPrintable (r : Int) : M_sPrintable [V.v (.int .i64 r)] [] [] = some ⟨V.v (.bool (printable r)), [], []⟩ := by
  unfold M_sPrintable
  cases h1 : runeOk r <;> by_cases h3 : 32 ≤ r <;> by_cases h4 : r < 127 <;> by_cases h5 : 159 < r <;> simp [Tryz.func139, Tryz.f139, E_sRuneOk, printable, inR, h1, h3, h4, h5] <;> omega
theorem E_iadmissible (r : Int) : M_iadmissible [V.v (.int .i64 r)] [] [] = some ⟨V.v (.bool (typed r)), [], []⟩ := by
  unfold M_iadmissible
  by_cases h3 : r = 9
  · subst h3; cases h1 : printable 9 <;> simp [Tryz.func73, Tryz.f73, E_iPrintable, typed, h1]
  by_cases h4 : r = 10
  · subst h4; cases h1 : printable 10 <;> simp [Tryz.func73, Tryz.f73, E_iPrintable, typed, h1]
  cases h1 : printable r <;> simp [Tryz.func73, Tryz.f73, E_iPrintable, typed, h1, h3, h4]
theorem E_sl13Typed (r : Int) : M_sl13Typed [V.v (.int .i64 r)] [] [] = some ⟨V.v (.bool (typed r)), [], []⟩ := by
  unfold M_sl13Typed
  by_cases h3 : r = 9
  · subst h3; cases h1 : printable 9 <;> simp [Tryz.func97, Tryz.f97, E_sPrintable, typed, h1]
  by_cases h4 : r = 10
  · subst h4; cases h1 : printable 10 <;> simp [Tryz.func97, Tryz.f97, E_sPrintable, typed, h1]
  cases h1 : printable r <;> simp [Tryz.func97, Tryz.f97, E_sPrintable, typed, h1, h3, h4]
theorem E_sl13AllTyped (l : List Int) (hl : l.length ≤ 1000000000) : M_sl13AllTyped [.lst (some 0) (ints l)] [] [] = some ⟨V.v (.bool (l.all typed)), [], []⟩ := by
  unfold M_sl13AllTyped
  simp [Tryz.func76, Tryz.f76]
  rcases firstBad typed l with h | ⟨h, N, hN, h1, h2⟩
  · rw [loopV_go (fun j => .on ⟨[(7, V.v (.int .i64 ((j : Int)))), (6, V.v (.int .i64 ((l.length : Int)))), (5, .lst (some 0) (ints l))], [], [], []⟩) l.length ?_ ?_]
    · simp [h]
    · simp
    · intro j hj
      have hw := w64 (j + 1) (by omega)
      have := List.all_eq_true.1 h l[j] (List.getElem_mem hj)
      simp [hj, hw, ints_get hj, E_sl13Typed, this]
  · rw [loopV_go (fun j => .on ⟨[(7, V.v (.int .i64 ((j : Int)))), (6, V.v (.int .i64 ((l.length : Int)))), (5, .lst (some 0) (ints l))], [], [], []⟩) N ?_ ?_]
    · simp [h, hN, h1, ints_get hN, E_sl13Typed]
    · simp
    · intro j hj
      have hj' : j < l.length := by omega
      have hw := w64 (j + 1) (by omega)
      simp [hj', hw, ints_get hj', E_sl13Typed, h2 j hj' hj]
end Go.Proofs.YtnmneoekpikpkaaGreatDoor
namespace Go.Proofs.YtnmneoekpikpkaaGreatDoor
open Go.RowKit
set_option linter.unusedSimpArgs false
set_option linter.unusedVariables false
set_option maxHeartbeats 8000000
set_option maxRecDepth 10000
theorem loopV_ex {f : Q → Option (Ex × Q)} {s : Q} {R : Option (Ex × Q)} (hL : loopV f s = R) {σ : Type} (st : Nat → σ → Q) (n : Nat) (I : Nat → σ → Prop) (a0 : σ) (h0 : s = st 0 a0) (i0 : I 0 a0)
    (hs : ∀ j a, j < n → I j a → ∃ b, I (j + 1) b ∧ f (st j a) = some (.normal, st (j + 1) b)) : ∃ a, I n a ∧ nextV f (f (st n a)) = R := by
  have key : ∀ k, k ≤ n → ∃ a, I k a ∧ loopV f (st k a) = R := by
    intro k
    induction k with
    | zero => intro _; exact ⟨a0, i0, by rw [← h0]; exact hL⟩
    | succ k ih =>
      intro hk
      obtain ⟨a, ha, e⟩ := ih (by omega)
      obtain ⟨b, hb, e2⟩ := hs k a (by omega) ha
      rw [loopV_unf, e2, nextV_normal] at e
      exact ⟨b, hb, e⟩
  obtain ⟨a, ha, e⟩ := key n (Nat.le_refl _)
  exact ⟨a, ha, by rw [← loopV_unf]; exact e⟩
theorem land_small (A m : Nat) (hm : m < 9223372036854775808) : 0 ≤ IntKind.i64.wrap ((A &&& m : Nat) : Int) ∧ IntKind.i64.wrap ((A &&& m : Nat) : Int) ≤ m := by
  have h : A &&& m ≤ m := Nat.and_le_right
  rw [w64 _ (by omega)]
  omega
theorem bits64 : IntKind.i64.bits = 64 := rfl
def curV (b : List UInt8) (i h : Int) : List V := [.lst (some 0) (byts b), V.v (.int .i64 i), V.v (.int .i64 h)]
theorem EX_sl01New (b : List UInt8) (hb : b.length ≤ 1048576) : ∃ h, M_sl01New [.lst (some 0) (byts b)] [] [] = some ⟨.ref 0 0, [curV b 0 h], []⟩ := by
  generalize hE : M_sl01New [.lst (some 0) (byts b)] [] [] = R
  unfold M_sl01New at hE
  have w0 := w64 (600128 + (b.length : Int)) (by omega)
  simp [Tryz.func18, Tryz.f18, bits64, w0] at hE
  generalize hL : loopV _ _ = L at hE
  obtain ⟨h, -, e⟩ := loopV_ex hL (σ := Int) (fun j h => .on ⟨[(4, V.v (.int .i64 ((j : Int)))), (3, V.v (.int .i64 h)), (0, .lst (some 0) (byts b))], [], [], []⟩) (min b.length 4000) (fun _ _ => True) (600128 + (b.length : Int)) (by simp) trivial (fun j h hj _ => by
    have h1 : j < b.length := by omega
    have h2 : (j : Int) < 4000 := by omega
    have hw := w64 (j + 1) (by omega)
    simp [h1, h2, hw, byts_get h1, bits64])
  subst e
  by_cases h1 : b.length ≤ 4000
  · have h2 : min b.length 4000 = b.length := by omega
    rw [h2] at hE
    simp at hE
    exact ⟨h, hE.symm⟩
  · have h2 : min b.length 4000 = 4000 := by omega
    have h3 : 4000 < b.length := by omega
    have h4 : (4000 : Int) < b.length := by omega
    rw [h2] at hE
    simp [h3, h4] at hE
    exact ⟨h, hE.symm⟩
theorem EX_sl01Byte (b : List UInt8) (i h : Int) (hb : b.length ≤ 1048576) (hi : 0 ≤ i ∧ i ≤ b.length) : ∃ x i' h', M_sl01Byte [.ref 0 0] [curV b i h] [] = some ⟨V.v (.int .i64 x), [curV b i' h'], []⟩ ∧ (0 ≤ x ∧ x ≤ 255) ∧ 0 ≤ i' ∧ i' ≤ b.length := by
  obtain ⟨k, rfl⟩ := Int.eq_ofNat_of_zero_le hi.1
  generalize hE : M_sl01Byte [.ref 0 0] [curV b k h] [] = R
  unfold M_sl01Byte curV at hE
  by_cases h1 : k < b.length
  · have hw := w64 ((k : Int) + 1) (by omega)
    simp [Tryz.func41, Tryz.f41, h1, bits64, byts_get h1, hw] at hE
    exact ⟨_, _, _, hE.symm, land_small _ 255 (by omega), by omega, by omega⟩
  · simp [Tryz.func41, Tryz.f41, h1, bits64] at hE
    exact ⟨_, _, _, hE.symm, land_small _ 255 (by omega), hi⟩
theorem EX_sl01Below (b : List UInt8) (i h n : Int) (hb : b.length ≤ 1048576) (hi : 0 ≤ i ∧ i ≤ b.length) (hn : 0 < n) : ∃ x i' h', M_sl01Below [.ref 0 0, V.v (.int .i64 n)] [curV b i h] [] = some ⟨V.v (.int .i64 x), [curV b i' h'], []⟩ ∧ (0 ≤ x ∧ x < n) ∧ 0 ≤ i' ∧ i' ≤ b.length := by
  have h0 : ¬ n ≤ 0 := by omega
  have hn0 : ¬ n = 0 := by omega
  have tm : ∀ x : Int, 0 ≤ x → 0 ≤ x.tmod n ∧ x.tmod n < n := fun x hx => ⟨Int.tmod_nonneg n hx, Int.tmod_lt_of_pos x hn⟩
  obtain ⟨x1, i1, h1, e1, r1, j1⟩ := EX_sl01Byte b i h hb hi
  unfold curV at e1
  unfold M_sl01Below curV
  by_cases h2 : n ≤ 256
  · refine ⟨x1.tmod n, i1, h1, ?_, tm x1 r1.1, j1⟩
    simp [Tryz.func22, Tryz.f22, h0, hn0, h2, e1]
  · obtain ⟨x2, i2, h2', e2, r2, j2⟩ := EX_sl01Byte b i1 h1 hb j1
    obtain ⟨x3, i3, h3, e3, r3, j3⟩ := EX_sl01Byte b i2 h2' hb j2
    obtain ⟨x4, i4, h4, e4, r4, j4⟩ := EX_sl01Byte b i3 h3 hb j3
    unfold curV at e2 e3 e4
    have q1 := w64 (x1 * 16777216) (by omega)
    have q2 := w64 (x2 * 65536) (by omega)
    have q3 := w64 (x1 * 16777216 + x2 * 65536) (by omega)
    have q4 := w64 (x3 * 256) (by omega)
    have q5 := w64 (x1 * 16777216 + x2 * 65536 + x3 * 256) (by omega)
    have q6 := w64 (x1 * 16777216 + x2 * 65536 + x3 * 256 + x4) (by omega)
    refine ⟨(x1 * 16777216 + x2 * 65536 + x3 * 256 + x4).tmod n, i4, h4, ?_, tm _ (by omega), j4⟩
    simp [Tryz.func22, Tryz.f22, h0, hn0, h2, e1, e2, e3, e4, q1, q2, q3, q4, q5, q6]
theorem pr_range {r : Int} (h : (33 ≤ r ∧ r ≤ 126) ∨ (160 ≤ r ∧ r ≤ 500) ∨ (19968 ≤ r ∧ r ≤ 22000)) : printable r = true := by
  have h1 : inR r 0 1114111 = true := inR_iff.2 (by omega)
  have h2 : inR r 55296 57343 = false := inR_no (by rw [inR_iff]; omega)
  have h3 : inR r 127 159 = false := inR_no (by rw [inR_iff]; omega)
  have h4 : 32 ≤ r := by omega
  simp [printable, runeOk, h1, h2, h3, h4]
theorem EX_sl02Rune (b : List UInt8) (i h : Int) (hb : b.length ≤ 1048576) (hi : 0 ≤ i ∧ i ≤ b.length) : ∃ x i' h', M_sl02Rune [.ref 0 0] [curV b i h] [] = some ⟨V.v (.int .i64 x), [curV b i' h'], []⟩ ∧ printable x = true ∧ 0 ≤ i' ∧ i' ≤ b.length := by
  obtain ⟨k, i1, h1, e1, r1, j1⟩ := EX_sl01Below b i h 12 hb hi (by omega)
  unfold curV at e1
  generalize hE : M_sl02Rune [.ref 0 0] [curV b i h] [] = R
  unfold M_sl02Rune curV at hE
  by_cases k9 : k < 9
  · obtain ⟨q, i2, h2, e2, r2, j2⟩ := EX_sl01Below b i1 h1 16 hb j1 (by omega)
    unfold curV at e2
    obtain ⟨m, rfl⟩ := Int.eq_ofNat_of_zero_le r2.1
    have hm : m = 0 ∨ m = 1 ∨ m = 2 ∨ m = 3 ∨ m = 4 ∨ m = 5 ∨ m = 6 ∨ m = 7 ∨ m = 8 ∨ m = 9 ∨ m = 10 ∨ m = 11 ∨ m = 12 ∨ m = 13 ∨ m = 14 ∨ m = 15 := by omega
    have hm2 : (m : Int) < 16 := by omega
    rcases hm with rfl | rfl | rfl | rfl | rfl | rfl | rfl | rfl | rfl | rfl | rfl | rfl | rfl | rfl | rfl | rfl <;>
      (simp [Tryz.func75, Tryz.f75, e1, k9, e2] at hE; exact ⟨_, _, _, hE.symm, by decide, j2⟩)
  by_cases k10 : k = 9
  · subst k10
    obtain ⟨q, i2, h2, e2, r2, j2⟩ := EX_sl01Below b i1 h1 94 hb j1 (by omega)
    unfold curV at e2
    have w := w64 (33 + q) (by omega)
    simp [Tryz.func75, Tryz.f75, e1, e2, w] at hE
    exact ⟨_, _, _, hE.symm, pr_range (by omega), j2⟩
  by_cases k11 : k = 10
  · subst k11
    obtain ⟨q, i2, h2, e2, r2, j2⟩ := EX_sl01Below b i1 h1 300 hb j1 (by omega)
    unfold curV at e2
    have w := w64 (160 + q) (by omega)
    simp [Tryz.func75, Tryz.f75, e1, e2, w] at hE
    exact ⟨_, _, _, hE.symm, pr_range (by omega), j2⟩
  obtain ⟨q, i2, h2, e2, r2, j2⟩ := EX_sl01Below b i1 h1 2000 hb j1 (by omega)
  unfold curV at e2
  have w := w64 (19968 + q) (by omega)
  simp [Tryz.func75, Tryz.f75, e1, e2, k9, k10, k11, w] at hE
  exact ⟨_, _, _, hE.symm, pr_range (by omega), j2⟩
theorem EX_sl02Runes (b : List UInt8) (i h n : Int) (hb : b.length ≤ 1048576) (hi : 0 ≤ i ∧ i ≤ b.length) (hn : 0 ≤ n ∧ n ≤ 1000) : ∃ (l : List Int) (i' h' : Int), M_sl02Runes [.ref 0 0, V.v (.int .i64 n)] [curV b i h] [] = some ⟨.own 0, [curV b i' h'], [(0, ints l)]⟩ ∧ l.all printable = true ∧ (l.length : Int) ≤ n ∧ 0 ≤ i' ∧ i' ≤ b.length := by
  obtain ⟨k, i1, h1, e1, r1, j1⟩ := EX_sl01Below b i h (n + 1) hb hi (by omega)
  unfold curV at e1
  have w := w64 (n + 1) (by omega)
  obtain ⟨m, rfl⟩ := Int.eq_ofNat_of_zero_le r1.1
  generalize hE : M_sl02Runes [.ref 0 0, V.v (.int .i64 n)] [curV b i h] [] = R
  unfold M_sl02Runes curV at hE
  simp [Tryz.func57, Tryz.f57, w, e1] at hE
  generalize hL : loopV _ _ = L at hE
  obtain ⟨⟨l, i2, h2⟩, ⟨a1, a2, a3⟩, e⟩ := loopV_ex hL (σ := List Int × Int × Int) (fun j a => .on ⟨[(6, V.v (.int .i64 ((m : Int) - j))), (5, .own 2000000000), (0, .ref 1000000000 0)], [(1000000000, [.lst (some 0) (byts b), V.v (.int .i64 a.2.1), V.v (.int .i64 a.2.2)])], [(2000000000, ints a.1)], []⟩) m (fun j a => a.1.all printable = true ∧ a.1.length = j ∧ 0 ≤ a.2.1 ∧ a.2.1 ≤ b.length) ([], i1, h1) (by simp [ints_nil]) ⟨rfl, rfl, j1⟩ (fun j a hj ⟨p1, p2, p3⟩ => by
    obtain ⟨l, i2, h2⟩ := a
    simp only at p1 p2 p3
    obtain ⟨x, i3, h3, e3, p4, j3⟩ := EX_sl02Rune b i2 h2 hb p3
    unfold curV at e3
    have g : (0 : Int) < (m : Int) - j := by omega
    have hw := w64 ((m : Int) - j - 1) (by omega)
    have hw2 : (m : Int) - j - 1 = (m : Int) - ((j : Int) + 1) := by omega
    rw [hw2] at hw
    refine ⟨(l ++ [x], i3, h3), ⟨by simp [p1, p4], by simp [p2], j3⟩, ?_⟩
    simp [hj, e3, hw2, hw, p2]
    simp (disch := omega) only [grd_pos]
    simp [hw2, hw, ints_cons, ints_nil])
  subst e
  simp at hE
  simp only at a1 a2 a3
  exact ⟨l, i2, h2, hE.symm, a1, by omega, a3⟩
theorem ints_setD (l : List Int) (i : Nat) (x : Int) : (ints l).set i [D.a (.int .i64 x)] = ints (l.set i x) := by
  show (l.map c_ints.enc).set i (c_ints.enc x) = (l.set i x).map c_ints.enc
  rw [List.map_set]
theorem all_set {p : Int → Bool} {l : List Int} {i : Nat} {x : Int} (h : l.all p = true) (hx : p x = true) : (l.set i x).all p = true := by
  refine List.all_eq_true.2 fun y hy => ?_
  rcases List.mem_or_eq_of_mem_set hy with h1 | h1
  · exact List.all_eq_true.1 h y h1
  · rw [h1]; exact hx
theorem printable_typed {r : Int} (h : printable r = true) : typed r = true := by simp [typed, h]
theorem EX_sl13Runes (b : List UInt8) (i h n : Int) (hb : b.length ≤ 1048576) (hi : 0 ≤ i ∧ i ≤ b.length) (hn : 0 ≤ n ∧ n ≤ 1000) : ∃ (l : List Int) (i' h' : Int), M_sl13Runes [.ref 0 0, V.v (.int .i64 n)] [curV b i h] [] = some ⟨.own 0, [curV b i' h'], [(0, ints l)]⟩ ∧ l.all typed = true ∧ (l.length : Int) ≤ n ∧ 0 ≤ i' ∧ i' ≤ b.length := by
  obtain ⟨l0, i1, h1, e1, q1, q2, j1⟩ := EX_sl02Runes b i h n hb hi hn
  unfold curV at e1
  have q3 : l0.all typed = true := List.all_eq_true.2 fun x hx => printable_typed (List.all_eq_true.1 q1 x hx)
  generalize hE : M_sl13Runes [.ref 0 0, V.v (.int .i64 n)] [curV b i h] [] = R
  unfold M_sl13Runes curV at hE
  simp [Tryz.func39, Tryz.f39, e1] at hE
  generalize hL : loopV _ _ = L at hE
  obtain ⟨⟨l, i2, h2⟩, ⟨a1, a2, a3⟩, e⟩ := loopV_ex hL (σ := List Int × Int × Int) (fun j a => .on ⟨[(13, V.v (.int .i64 ((j : Int)))), (12, V.v (.int .i64 ((l0.length : Int)))), (5, .own 2000000000), (0, .ref 1000000000 0)], [(1000000000, [.lst (some 0) (byts b), V.v (.int .i64 a.2.1), V.v (.int .i64 a.2.2)])], [(2000000000, ints a.1)], []⟩) l0.length (fun j a => a.1.all typed = true ∧ a.1.length = l0.length ∧ 0 ≤ a.2.1 ∧ a.2.1 ≤ b.length) (l0, i1, h1) (by simp) ⟨q3, rfl, j1⟩ (fun j a hj ⟨p1, p2, p3⟩ => by
    obtain ⟨l, i2, h2⟩ := a
    simp only at p1 p2 p3
    obtain ⟨x, i3, h3, e3, p4, j3⟩ := EX_sl01Below b i2 h2 14 hb p3 (by omega)
    unfold curV at e3
    have hw := w64 ((j : Int) + 1) (by omega)
    have hjl : j < l.length := by omega
    by_cases x0 : x = 0
    · subst x0
      refine ⟨(l.set j 9, i3, h3), ⟨all_set p1 (by decide), by simp [p2], j3⟩, ?_⟩
      simp [hj, hjl, hw, e3, ints_setD]
    by_cases x1 : x = 1
    · subst x1
      refine ⟨(l.set j 10, i3, h3), ⟨all_set p1 (by decide), by simp [p2], j3⟩, ?_⟩
      simp [hj, hjl, hw, e3, ints_setD]
    by_cases x2 : x = 2
    · subst x2
      obtain ⟨z, i4, h4, e4, p5, j4⟩ := EX_sl01Below b i3 h3 26 hb j3 (by omega)
      unfold curV at e4
      have w := w64 (65 + z) (by omega)
      refine ⟨(l.set j (65 + z), i4, h4), ⟨all_set p1 (printable_typed (pr_range (by omega))), by simp [p2], j4⟩, ?_⟩
      simp [hj, hjl, hw, e3, e4, w, ints_setD]
    refine ⟨(l, i3, h3), ⟨p1, p2, j3⟩, ?_⟩
    simp [hj, hjl, hw, e3, x0, x1, x2])
  subst e
  simp at hE
  simp only at a1 a2 a3
  exact ⟨l, i2, h2, hE.symm, a1, by omega, a3⟩
theorem EX_sl13Draw (b : List UInt8) (i h : Int) (hb : b.length ≤ 1048576) (hi : 0 ≤ i ∧ i ≤ b.length) : ∃ (l : List Int) (a : Nat) (i' h' : Int), M_sl13Draw [.ref 0 0] [curV b i h] [] = some ⟨.agg [.own 0, V.v (.int .i64 ((a : Int)))], [curV b i' h'], [(0, ints l)]⟩ ∧ l.all typed = true ∧ l.length ≤ 16 ∧ a ≤ l.length ∧ 0 ≤ i' ∧ i' ≤ b.length := by
  obtain ⟨l, i1, h1, e1, q1, q2, j1⟩ := EX_sl13Runes b i h 16 hb hi (by omega)
  obtain ⟨x, i2, h2, e2, q3, j2⟩ := EX_sl01Below b i1 h1 ((l.length : Int) + 1) hb j1 (by omega)
  obtain ⟨a, rfl⟩ := Int.eq_ofNat_of_zero_le q3.1
  unfold curV at e1 e2
  have w := w64 ((l.length : Int) + 1) (by omega)
  refine ⟨l, a, i2, h2, ?_, q1, by omega, by omega, j2⟩
  unfold M_sl13Draw curV
  simp [Tryz.func20, Tryz.f20, e1, e2, w]
end Go.Proofs.YtnmneoekpikpkaaGreatDoor
namespace Go.Proofs.YtnmneoekpikpkaaGreatDoor
open Go.RowKit
set_option linter.unusedSimpArgs false
set_option linter.unusedVariables false
set_option maxHeartbeats 4000000
set_option maxRecDepth 10000
def textOk (l : List Int) : Bool := decide (l.length ≤ 400) && l.all typed
def lineOk (t : List Int) (a : Int) : Bool := textOk t && inR a 0 t.length
def emptyL (t : List Int) (a : Int) : Bool := decide (t.length = 0) && (a == 0)
theorem E_iareAdmissible (l : List Int) (hl : l.length ≤ 1000000000) : M_iareAdmissible [.lst (some 0) (ints l)] [] [] = some ⟨V.v (.bool (textOk l)), [], []⟩ := by
  unfold M_iareAdmissible
  simp [Tryz.func50, Tryz.f50]
  by_cases hn : l.length ≤ 400
  · rcases firstBad typed l with h | ⟨h, N, hN, h1, h2⟩
    · rw [loopV_go (fun j => .on ⟨[(7, V.v (.int .i64 ((j : Int)))), (6, V.v (.int .i64 ((l.length : Int)))), (5, .lst (some 0) (ints l))], [], [], []⟩) l.length ?_ ?_]
      · simp [textOk, h, hn]
      · simp
      · intro j hj
        have hw := w64 (j + 1) (by omega)
        have := List.all_eq_true.1 h l[j] (List.getElem_mem hj)
        have h4 : ¬ (400 ≤ (j : Int)) := by omega
        simp [hj, hw, ints_get hj, E_iadmissible, this, h4]
    · rw [loopV_go (fun j => .on ⟨[(7, V.v (.int .i64 ((j : Int)))), (6, V.v (.int .i64 ((l.length : Int)))), (5, .lst (some 0) (ints l))], [], [], []⟩) N ?_ ?_]
      · have h4 : ¬ (400 ≤ (N : Int)) := by omega
        simp [textOk, h, hN, h1, ints_get hN, E_iadmissible, h4]
      · simp
      · intro j hj
        have hj' : j < l.length := by omega
        have hw := w64 (j + 1) (by omega)
        have h4 : ¬ (400 ≤ (j : Int)) := by omega
        simp [hj', hw, ints_get hj', E_iadmissible, h2 j hj' hj, h4]
  · rcases firstBad typed (l.take 400) with h | ⟨h, N, hN, h1, h2⟩
    · obtain ⟨N, hN⟩ : ∃ N : Nat, N = 400 := ⟨_, rfl⟩
      rw [loopV_go (fun j => .on ⟨[(7, V.v (.int .i64 ((j : Int)))), (6, V.v (.int .i64 ((l.length : Int)))), (5, .lst (some 0) (ints l))], [], [], []⟩) N ?_ ?_]
      · have h5 : N < l.length := by omega
        have h6 : 400 ≤ (N : Int) := by omega
        simp [textOk, hn, h5, ints_get h5, h6]
      · simp
      · intro j hj
        have hj' : j < l.length := by omega
        have hw := w64 (j + 1) (by omega)
        have h3 : typed l[j] = true := by
          have := List.all_eq_true.1 h ((l.take 400)[j]'(by simp; omega)) (List.getElem_mem _)
          simpa using this
        have h4 : ¬ (400 ≤ (j : Int)) := by omega
        simp [hj', hw, ints_get hj', E_iadmissible, h3, h4]
    · have hN' : N < 400 ∧ N < l.length := by simp at hN; omega
      rw [loopV_go (fun j => .on ⟨[(7, V.v (.int .i64 ((j : Int)))), (6, V.v (.int .i64 ((l.length : Int)))), (5, .lst (some 0) (ints l))], [], [], []⟩) N ?_ ?_]
      · have h4 : ¬ (400 ≤ (N : Int)) := by omega
        have h5 : typed l[N] = false := by simpa using h1
        simp [textOk, hn, hN'.2, h5, ints_get hN'.2, E_iadmissible, h4]
      · simp
      · intro j hj
        have hj' : j < l.length := by omega
        have hw := w64 (j + 1) (by omega)
        have h4 : ¬ (400 ≤ (j : Int)) := by omega
        have h3 : typed l[j] = true := by
          have := h2 j (by simp; omega) hj
          simpa using this
        simp [hj', hw, ints_get hj', E_iadmissible, h3, h4]
theorem E_sl15Piece (l : List Int) (hl : l.length ≤ 1000000000) : M_sl15Piece [.lst (some 0) (ints l)] [] [] = some ⟨V.v (.bool (textOk l)), [], []⟩ := by
  unfold M_sl15Piece
  by_cases hn : l.length ≤ 400
  · have : (l.length : Int) ≤ 400 := by omega
    cases h : l.all typed <;> simp [Tryz.func59, Tryz.f59, textOk, hn, this, E_sl13AllTyped l hl, h]
  · have : ¬ (l.length : Int) ≤ 400 := by omega
    simp [Tryz.func59, Tryz.f59, textOk, hn, this]
theorem E_iLineOk (l : List Int) (a : Int) (hl : l.length ≤ 1000000000) : M_iLineOk [.agg [.lst (some 0) (ints l), V.v (.int .i64 a)]] [] [] = some ⟨V.v (.bool (lineOk l a)), [], []⟩ := by
  unfold M_iLineOk
  cases h : textOk l <;> simp [Tryz.func27, Tryz.f27, lineOk, E_iareAdmissible l hl, E_iin, h]
theorem E_iemptyLine (l : List Int) (a : Int) : M_iemptyLine [.agg [.lst (some 0) (ints l), V.v (.int .i64 a)]] [] [] = some ⟨V.v (.bool (emptyL l a)), [], []⟩ := by
  unfold M_iemptyLine
  by_cases h1 : l.length = 0 <;> by_cases h2 : a = 0 <;> simp [Tryz.func33, Tryz.f33, emptyL, h1, h2]
def atEnd (l : List Int) (a : Int) : Bool := decide (0 < l.length) && (a == (l.length : Int))
theorem E_iisAtEnd (l : List Int) (a : Int) : M_iisAtEnd [.agg [.lst (some 0) (ints l), V.v (.int .i64 a)]] [] [] = some ⟨V.v (.bool (atEnd l a)), [], []⟩ := by
  unfold M_iisAtEnd
  by_cases h1 : 0 < l.length <;> by_cases h2 : a = (l.length : Int) <;> simp [Tryz.func51, Tryz.f51, atEnd, h1, h2] <;> omega
end Go.Proofs.YtnmneoekpikpkaaGreatDoor
namespace Go.Proofs.YtnmneoekpikpkaaGreatDoor
open Go.RowKit
set_option linter.unusedSimpArgs false
set_option linter.unusedVariables false
set_option maxHeartbeats 8000000
set_option maxRecDepth 100000
def pieceB (p : TPiece) : Bool := decide (0 < p.Text.length) && textOk p.Text
def ringOk (l : List TPiece) : Bool := l.all pieceB && decide (l.length ≤ 6)
def lineB (x : TLine) : Bool := lineOk x.Text x.At
def undoOk (l : List TLine) : Bool := l.all lineB && decide (l.length ≤ 20)
theorem E_iRingOk (l : List TPiece) (s : smL (dPieces l) = true) : M_iRingOk [.agg [.lst (some 0) (dPieces l)]] [] [] = some ⟨V.v (.bool (ringOk l)), [], []⟩ := by
  have hb : l.length ≤ 1000000000 := by simpa using smL_len s
  have sm : ∀ j (h : j < l.length), l[j].Text.length ≤ 1000000000 := fun j h => by
    have hs := smL_at s (dPieces_get h)
    simp only [bnR_cons, bnR_nil, bnD_a, bnD_l, Bool.and_true, Bool.true_and] at hs
    simpa using bnL_len hs
  unfold M_iRingOk
  simp [Tryz.func31, Tryz.f31]
  rcases firstBad pieceB l with h | ⟨h, N, hN, h1, h2⟩
  · rw [loopV_go (fun j => .on ⟨[(8, V.v (.int .i64 ((j : Int)))), (7, V.v (.int .i64 ((l.length : Int)))), (6, .lst (some 0) (dPieces l)), (1, .ref 1 0)], [(1, [.lst (some 0) (dPieces l)])], [], []⟩) l.length ?_ ?_]
    · simp [ringOk, h]; omega
    · simp
    · intro j hj
      have hw := w64 (j + 1) (by omega)
      have := List.all_eq_true.1 h l[j] (List.getElem_mem hj)
      simp only [pieceB, Bool.and_eq_true, decide_eq_true_eq] at this
      have h3 : l[j].Text ≠ [] := fun e => by simp [e] at this
      simp [hj, hw, dPieces_get hj, E_iareAdmissible _ (sm j hj), this.2, h3]
  · rw [loopV_go (fun j => .on ⟨[(8, V.v (.int .i64 ((j : Int)))), (7, V.v (.int .i64 ((l.length : Int)))), (6, .lst (some 0) (dPieces l)), (1, .ref 1 0)], [(1, [.lst (some 0) (dPieces l)])], [], []⟩) N ?_ ?_]
    · by_cases h3 : l[N].Text = []
      · simp [hN, dPieces_get hN, h3, ringOk, h]
      · have h4 : textOk l[N].Text = false := by
          simp only [pieceB] at h1
          have h5 : 0 < l[N].Text.length := List.length_pos_iff.2 h3
          simpa [h5] using h1
        simp [hN, dPieces_get hN, E_iareAdmissible _ (sm N hN), h4, h3, ringOk, h]
    · simp
    · intro j hj
      have hj' : j < l.length := by omega
      have hw := w64 (j + 1) (by omega)
      have := h2 j hj' hj
      simp only [pieceB, Bool.and_eq_true, decide_eq_true_eq] at this
      have h3 : l[j].Text ≠ [] := fun e => by simp [e] at this
      simp [hj', hw, dPieces_get hj', E_iareAdmissible _ (sm j hj'), this.2, h3]
theorem E_sRingOk (l : List TPiece) (s : smL (dPieces l) = true) : M_sRingOk [.agg [.lst (some 0) (dPieces l)]] [] [] = some ⟨V.v (.bool (ringOk l)), [], []⟩ := by
  have hb : l.length ≤ 1000000000 := by simpa using smL_len s
  have sm : ∀ j (h : j < l.length), l[j].Text.length ≤ 1000000000 := fun j h => by
    have hs := smL_at s (dPieces_get h)
    simp only [bnR_cons, bnR_nil, bnD_a, bnD_l, Bool.and_true, Bool.true_and] at hs
    simpa using bnL_len hs
  unfold M_sRingOk
  simp [Tryz.func58, Tryz.f58]
  rcases firstBad pieceB l with h | ⟨h, N, hN, h1, h2⟩
  · rw [loopV_go (fun j => .on ⟨[(8, V.v (.int .i64 ((j : Int)))), (7, V.v (.int .i64 ((l.length : Int)))), (6, .lst (some 0) (dPieces l)), (1, .ref 1 0)], [(1, [.lst (some 0) (dPieces l)])], [], []⟩) l.length ?_ ?_]
    · simp [ringOk, h]; omega
    · simp
    · intro j hj
      have hw := w64 (j + 1) (by omega)
      have := List.all_eq_true.1 h l[j] (List.getElem_mem hj)
      simp only [pieceB, Bool.and_eq_true, decide_eq_true_eq] at this
      have h3 : l[j].Text ≠ [] := fun e => by simp [e] at this
      simp [hj, hw, dPieces_get hj, E_sl15Piece _ (sm j hj), this.2, h3]
  · rw [loopV_go (fun j => .on ⟨[(8, V.v (.int .i64 ((j : Int)))), (7, V.v (.int .i64 ((l.length : Int)))), (6, .lst (some 0) (dPieces l)), (1, .ref 1 0)], [(1, [.lst (some 0) (dPieces l)])], [], []⟩) N ?_ ?_]
    · by_cases h3 : l[N].Text = []
      · simp [hN, dPieces_get hN, h3, ringOk, h]
      · have h4 : textOk l[N].Text = false := by
          simp only [pieceB] at h1
          have h5 : 0 < l[N].Text.length := List.length_pos_iff.2 h3
          simpa [h5] using h1
        simp [hN, dPieces_get hN, E_sl15Piece _ (sm N hN), h4, h3, ringOk, h]
    · simp
    · intro j hj
      have hj' : j < l.length := by omega
      have hw := w64 (j + 1) (by omega)
      have := h2 j hj' hj
      simp only [pieceB, Bool.and_eq_true, decide_eq_true_eq] at this
      have h3 : l[j].Text ≠ [] := fun e => by simp [e] at this
      simp [hj', hw, dPieces_get hj', E_sl15Piece _ (sm j hj'), this.2, h3]
theorem E_iUndoOk (l : List TLine) (s : smL (dLines l) = true) : M_iUndoOk [.agg [.lst (some 0) (dLines l)]] [] [] = some ⟨V.v (.bool (undoOk l)), [], []⟩ := by
  have hb : l.length ≤ 1000000000 := by simpa using smL_len s
  have sm : ∀ j (h : j < l.length), l[j].Text.length ≤ 1000000000 := fun j h => by
    have hs := smL_at s (dLines_get h)
    simp only [bnR_cons, bnR_nil, bnD_a, bnD_l, Bool.and_true, Bool.true_and] at hs
    simpa using bnL_len hs
  unfold M_iUndoOk
  simp [Tryz.func32, Tryz.f32]
  rcases firstBad lineB l with h | ⟨h, N, hN, h1, h2⟩
  · rw [loopV_go (fun j => .on ⟨[(8, V.v (.int .i64 ((j : Int)))), (7, V.v (.int .i64 ((l.length : Int)))), (6, .lst (some 0) (dLines l)), (1, .ref 1 0)], [(1, [.lst (some 0) (dLines l)])], [], []⟩) l.length ?_ ?_]
    · simp [undoOk, h]; omega
    · simp
    · intro j hj
      have hw := w64 (j + 1) (by omega)
      have := List.all_eq_true.1 h l[j] (List.getElem_mem hj)
      simp only [lineB] at this
      simp [hj, hw, dLines_get hj, E_iLineOk _ _ (sm j hj), this]
  · rw [loopV_go (fun j => .on ⟨[(8, V.v (.int .i64 ((j : Int)))), (7, V.v (.int .i64 ((l.length : Int)))), (6, .lst (some 0) (dLines l)), (1, .ref 1 0)], [(1, [.lst (some 0) (dLines l)])], [], []⟩) N ?_ ?_]
    · simp only [lineB] at h1
      simp [hN, dLines_get hN, E_iLineOk _ _ (sm N hN), h1, undoOk, h]
    · simp
    · intro j hj
      have hj' : j < l.length := by omega
      have hw := w64 (j + 1) (by omega)
      have := h2 j hj' hj
      simp only [lineB] at this
      simp [hj', hw, dLines_get hj', E_iLineOk _ _ (sm j hj'), this]
def opC (n : Int) : Bool := n == 100 || n == 99 || n == 121
def waitC (n : Int) : Bool := n == 102 || n == 70 || n == 116 || n == 84 || n == 114
def modeB (vi : Bool) (mode : Int) (lt : List Int) (la op opc wt : Int) : Bool :=
  ((mode == 0 && !vi) || ((mode == 1 || mode == 2) && vi) || mode == 3) && (!(mode == 2 && atEnd lt la) && ((mode == 2 || (op == 0 && wt == 0 && opc == 0)) && ((op != 0 || opc == 0) && ((op == 0 || opC op) && (wt == 0 || waitC wt)))))
def seekB (mode : Int) (q : List Int) (hit : Int) (bt : List Int) (ba : Int) : Bool := mode == 3 || (decide (q.length = 0) && (hit == 0) && emptyL bt ba)
theorem E_iisAmong_op (r : Int) : M_iisAmong [V.v (.int .i64 r), V.v (.string (⟨#[100, 99, 121]⟩))] [] [] = some ⟨V.v (.bool (opC r)), [], []⟩ := by
  unfold opC
  unfold M_iisAmong
  obtain ⟨S, hS⟩ : ∃ S : ByteArray, S = ⟨#[100, 99, 121]⟩ := ⟨_, rfl⟩
  have h0 : S.size = 3 := by rw [hS]; rfl
  have ht : S.toList = [100, 99, 121] := by rw [hS, ByteArray.toList_eq]
  have w1 := w64 100 (by omega)
  have w2 := w64 99 (by omega)
  have w3 := w64 121 (by omega)
  rw [← hS]
  simp [Tryz.func52, Tryz.f52]
  by_cases h1 : 100 = r
  · subst h1; rw [loopV_unf]; simp [w1, w2, w3, h0, ht]
  by_cases h2 : 99 = r
  · subst h2; rw [loopV_unf]; simp [w1, w2, w3, h0, ht]; rw [loopV_unf]; simp [w1, w2, w3, h0, ht]
  by_cases h3 : 121 = r
  · subst h3; rw [loopV_unf]; simp [w1, w2, w3, h0, ht]; rw [loopV_unf]; simp [w1, w2, w3, h0, ht]; rw [loopV_unf]; simp [w1, w2, w3, h0, ht]
  have k1 : ¬ r = 100 := fun e => h1 e.symm
  have k2 : ¬ r = 99 := fun e => h2 e.symm
  have k3 : ¬ r = 121 := fun e => h3 e.symm
  rw [loopV_unf]; simp [w1, w2, w3, h0, ht, h1]; rw [loopV_unf]; simp [w1, w2, w3, h0, ht, h2]; rw [loopV_unf]; simp [w1, w2, w3, h0, ht, h3]; rw [loopV_unf]; simp [w1, w2, w3, h0, ht, k1, k2, k3]
theorem E_iisAmong_wait (r : Int) : M_iisAmong [V.v (.int .i64 r), V.v (.string (⟨#[102, 70, 116, 84, 114]⟩))] [] [] = some ⟨V.v (.bool (waitC r)), [], []⟩ := by
  unfold waitC
  unfold M_iisAmong
  obtain ⟨S, hS⟩ : ∃ S : ByteArray, S = ⟨#[102, 70, 116, 84, 114]⟩ := ⟨_, rfl⟩
  have h0 : S.size = 5 := by rw [hS]; rfl
  have ht : S.toList = [102, 70, 116, 84, 114] := by rw [hS, ByteArray.toList_eq]
  have w1 := w64 102 (by omega)
  have w2 := w64 70 (by omega)
  have w3 := w64 116 (by omega)
  have w4 := w64 84 (by omega)
  have w5 := w64 114 (by omega)
  rw [← hS]
  simp [Tryz.func52, Tryz.f52]
  by_cases h1 : 102 = r
  · subst h1; rw [loopV_unf]; simp [w1, w2, w3, w4, w5, h0, ht]
  by_cases h2 : 70 = r
  · subst h2; rw [loopV_unf]; simp [w1, w2, w3, w4, w5, h0, ht]; rw [loopV_unf]; simp [w1, w2, w3, w4, w5, h0, ht]
  by_cases h3 : 116 = r
  · subst h3; rw [loopV_unf]; simp [w1, w2, w3, w4, w5, h0, ht]; rw [loopV_unf]; simp [w1, w2, w3, w4, w5, h0, ht]; rw [loopV_unf]; simp [w1, w2, w3, w4, w5, h0, ht]
  by_cases h4 : 84 = r
  · subst h4; rw [loopV_unf]; simp [w1, w2, w3, w4, w5, h0, ht]; rw [loopV_unf]; simp [w1, w2, w3, w4, w5, h0, ht]; rw [loopV_unf]; simp [w1, w2, w3, w4, w5, h0, ht]; rw [loopV_unf]; simp [w1, w2, w3, w4, w5, h0, ht]
  by_cases h5 : 114 = r
  · subst h5; rw [loopV_unf]; simp [w1, w2, w3, w4, w5, h0, ht]; rw [loopV_unf]; simp [w1, w2, w3, w4, w5, h0, ht]; rw [loopV_unf]; simp [w1, w2, w3, w4, w5, h0, ht]; rw [loopV_unf]; simp [w1, w2, w3, w4, w5, h0, ht]; rw [loopV_unf]; simp [w1, w2, w3, w4, w5, h0, ht]
  have k1 : ¬ r = 102 := fun e => h1 e.symm
  have k2 : ¬ r = 70 := fun e => h2 e.symm
  have k3 : ¬ r = 116 := fun e => h3 e.symm
  have k4 : ¬ r = 84 := fun e => h4 e.symm
  have k5 : ¬ r = 114 := fun e => h5 e.symm
  rw [loopV_unf]; simp [w1, w2, w3, w4, w5, h0, ht, h1]; rw [loopV_unf]; simp [w1, w2, w3, w4, w5, h0, ht, h2]; rw [loopV_unf]; simp [w1, w2, w3, w4, w5, h0, ht, h3]; rw [loopV_unf]; simp [w1, w2, w3, w4, w5, h0, ht, h4]; rw [loopV_unf]; simp [w1, w2, w3, w4, w5, h0, ht, h5]; rw [loopV_unf]; simp [w1, w2, w3, w4, w5, h0, ht, k1, k2, k3, k4, k5]
theorem E_imodeOk (vi : Bool) (mode : Int) (lt : List Int) (la cnt op opc wt fr fh last : Int) (rp : List TPiece) (ul : List TLine) (nav : Int) (ot : List Int) (oa : Int) (q : List Int) (hit : Int) (bt : List Int) (ba : Int) : M_imodeOk [.agg [V.v (.bool vi), V.v (.int .i64 mode), .lst (some 0) (ints lt), V.v (.int .i64 la), V.v (.int .i64 cnt), V.v (.int .i64 op), V.v (.int .i64 opc), V.v (.int .i64 wt), V.v (.int .i64 fr), V.v (.int .i64 fh), V.v (.int .i64 last), .lst (some 1) (dPieces rp), .lst (some 2) (dLines ul), V.v (.int .i64 nav), .lst (some 3) (ints ot), V.v (.int .i64 oa), .lst (some 4) (ints q), V.v (.int .i64 hit), .lst (some 5) (ints bt), V.v (.int .i64 ba)]] [] [] = some ⟨V.v (.bool (modeB vi mode lt la op opc wt)), [], []⟩ := by
  unfold M_imodeOk
  by_cases m2 : mode = 2
  · subst m2
    cases vi
    · simp [Tryz.func29, Tryz.f29, modeB]
    cases hA : atEnd lt la
    rotate_left
    · simp [Tryz.func29, Tryz.f29, modeB, E_iisAtEnd, hA]
    by_cases o0 : op = 0
    · subst o0
      by_cases c0 : opc = 0
      · subst c0
        by_cases w0 : wt = 0
        · subst w0; simp [Tryz.func29, Tryz.f29, modeB, E_iisAtEnd, hA]
        · cases hW : waitC wt <;> simp [Tryz.func29, Tryz.f29, modeB, E_iisAtEnd, hA, w0, E_iisAmong_wait, hW]
      · simp [Tryz.func29, Tryz.f29, modeB, E_iisAtEnd, hA, c0]
    · by_cases w0 : wt = 0
      · subst w0; cases hO : opC op <;> simp [Tryz.func29, Tryz.f29, modeB, E_iisAtEnd, hA, o0, E_iisAmong_op, hO]
      · cases hO : opC op <;> cases hW : waitC wt <;> simp [Tryz.func29, Tryz.f29, modeB, E_iisAtEnd, hA, o0, w0, E_iisAmong_op, E_iisAmong_wait, hO, hW]
  by_cases ok : (mode = 0 ∧ vi = false) ∨ (mode = 1 ∧ vi = true) ∨ mode = 3
  · rcases Classical.em (op = 0 ∧ wt = 0 ∧ opc = 0) with ⟨rfl, rfl, rfl⟩ | hn
    · rcases ok with ⟨rfl, rfl⟩ | ⟨rfl, rfl⟩ | rfl <;> simp [Tryz.func29, Tryz.f29, modeB]
    · by_cases o0 : op = 0
      · subst o0
        by_cases w0 : wt = 0
        · subst w0
          have c0 : ¬ opc = 0 := fun e => hn ⟨rfl, rfl, e⟩
          rcases ok with ⟨rfl, rfl⟩ | ⟨rfl, rfl⟩ | rfl <;> simp [Tryz.func29, Tryz.f29, modeB, c0]
        · rcases ok with ⟨rfl, rfl⟩ | ⟨rfl, rfl⟩ | rfl <;> simp [Tryz.func29, Tryz.f29, modeB, w0]
      · rcases ok with ⟨rfl, rfl⟩ | ⟨rfl, rfl⟩ | rfl <;> simp [Tryz.func29, Tryz.f29, modeB, o0]
  · by_cases m0 : mode = 0
    · subst m0
      cases vi
      · exact absurd (.inl ⟨rfl, rfl⟩) ok
      · simp [Tryz.func29, Tryz.f29, modeB]
    · by_cases m1 : mode = 1
      · subst m1
        cases vi
        · simp [Tryz.func29, Tryz.f29, modeB]
        · exact absurd (.inr (.inl ⟨rfl, rfl⟩)) ok
      · have m3 : ¬ mode = 3 := fun e => ok (.inr (.inr e))
        simp [Tryz.func29, Tryz.f29, modeB, m0, m1, m2, m3]
end Go.Proofs.YtnmneoekpikpkaaGreatDoor
namespace Go.Proofs.YtnmneoekpikpkaaGreatDoor
open Go.RowKit
set_option linter.unusedSimpArgs false
set_option linter.unusedVariables false
set_option maxHeartbeats 8000000
set_option maxRecDepth 10000
theorem E_sl13Join_n (a b : List Int) (i j k : Option Nat) (h : a.length + b.length ≤ 2000) : M_sl13Join [.lst i (ints a), .lst j (ints b), .lst k []] [] [] = some ⟨.own 0, [], [(0, ints (a ++ b))]⟩ := by
  have g1 : a.length * 8 ≤ 140737488355328 := by omega
  have g2 : a.length ≤ 4611686018427387904 := by omega
  have g3 : (a.length + b.length) * 8 ≤ 140737488355328 := by omega
  have g4 : a.length + b.length ≤ 4611686018427387904 := by omega
  have g5 : wid 1 (ints a ++ ints b) = true := by rw [← ints_app]; exact ints_wid _
  unfold M_sl13Join
  simp [Tryz.func61, Tryz.f61, g1, g2, g3, g4, g5]
theorem E_sl15Copy (l : List TPiece) (i : Option Nat) (h : l.length ≤ 1000) (hp : ∀ p ∈ l, p.Text.length ≤ 2000) : M_sl15Copy [.agg [.lst i (dPieces l)]] [] [] = some ⟨.agg [.own 0], [], [(0, dPieces l)]⟩ := by
  unfold M_sl15Copy
  simp [Tryz.func60, Tryz.f60]
  rw [loopV_go (fun k => .on ⟨[(10, V.v (.int .i64 ((k : Int)))), (9, V.v (.int .i64 ((l.length : Int)))), (8, .lst i (dPieces l)), (3, .ref 3 0), (2, .ref 2 0)], [(3, [.own 2000000000]), (2, [.own 2000000001])], [(2000000001, []), (2000000000, dPieces (l.take k))], []⟩) l.length ?_ ?_]
  · simp
  · simp [show dPieces [] = [] from rfl]
  · intro k hk
    have hw := w64 ((k : Int) + 1) (by omega)
    have hq := hp l[k] (List.getElem_mem hk)
    have g1 : l[k].Text.length * 8 ≤ 140737488355328 := by omega
    have g2 : l[k].Text.length ≤ 4611686018427387904 := by omega
    have g3 : min k l.length = k := by omega
    have g4 : (k + 1) * 24 ≤ 140737488355328 := by omega
    have g5 : k ≤ 4611686018427387903 := by omega
    have g6 : dPieces (l.take (k + 1)) = dPieces (l.take k) ++ [[.l (ints l[k].Text)]] := by rw [dPieces_snoc, ← List.take_succ_eq_append_getElem hk]
    simp [hk, hw, g1, g2, g3, g4, g5, g6]
theorem E_sRingOk' (l : List TPiece) (h : ringOk l = true) : M_sRingOk [.agg [.lst (some 0) (dPieces l)]] [] [] = some ⟨V.v (.bool true), [], []⟩ := by
  have hs : smL (dPieces l) = true := by
    simp only [ringOk, Bool.and_eq_true, decide_eq_true_eq] at h
    refine bnL_of (by simp; omega) fun j r e => ?_
    have hj : j < l.length := by have := (List.getElem?_eq_some_iff.1 e).1; simpa using this
    rw [dPieces_get hj] at e
    injection e with e; subst e
    have := List.all_eq_true.1 h.1 l[j] (List.getElem_mem hj)
    simp only [pieceB, textOk, Bool.and_eq_true, decide_eq_true_eq] at this
    simp only [bnR_cons, bnR_nil, bnD_l, Bool.and_true]
    exact bnL_ints (by omega)
  rw [E_sRingOk l hs, h]
theorem EX_sRingPut (l : List TPiece) (t : List Int) (how : Int) (hl : ringOk l = true) (ht : textOk t = true) (hh : 0 ≤ how ∧ how ≤ 2) : ∃ l', M_sRingPut [.agg [.lst (some 0) (dPieces l)], .lst (some 1) (ints t), V.v (.int .i64 how)] [] [] = some ⟨.tup [.agg [.own 0], V.v (.bool true)], [], [(0, dPieces l')]⟩ ∧ ringOk l' = true := by
  have hp : ∀ p ∈ l, 0 < p.Text.length ∧ p.Text.length ≤ 400 := fun p h => by
    simp only [ringOk, Bool.and_eq_true] at hl
    have := List.all_eq_true.1 hl.1 p h
    simp only [pieceB, textOk, Bool.and_eq_true, decide_eq_true_eq] at this
    exact ⟨this.1, this.2.1⟩
  have hn : l.length ≤ 6 := by simp only [ringOk, Bool.and_eq_true, decide_eq_true_eq] at hl; exact hl.2
  have htl : t.length ≤ 400 := by simp only [textOk, Bool.and_eq_true, decide_eq_true_eq] at ht; exact ht.1
  have e1 := E_sRingOk' l hl
  have e2 := E_sl15Piece t (by omega)
  rw [ht] at e2
  have e3 := E_sl15Copy l (some 0) (by omega) (fun p h => by have := (hp p h).2; omega)
  have q1 : ¬ how < 0 := by omega
  have q2 : ¬ 2 < how := by omega
  generalize hE : M_sRingPut _ _ _ = R
  unfold M_sRingPut at hE
  by_cases h0 : t = []
  · subst h0
    simp only [show ints [] = [] from rfl] at hE e2
    simp [Tryz.func40, Tryz.f40, e1, e2, e3, q1, q2] at hE
    exact ⟨l, hE.symm, hl⟩
  have g1 : t.length * 8 ≤ 140737488355328 := by omega
  have g2 : t.length ≤ 4611686018427387904 := by omega
  have hlen : 0 < t.length := List.length_pos_iff.2 h0
  have fresh : (∃ R', R = some R' ∧ R' = ⟨.tup [.agg [.own 0], V.v (.bool true)], [], [(0, dPieces ((⟨t⟩ :: l).take 6))]⟩) → ∃ l', R = some ⟨.tup [.agg [.own 0], V.v (.bool true)], [], [(0, dPieces l')]⟩ ∧ ringOk l' = true := by
    rintro ⟨_, rfl, rfl⟩
    refine ⟨_, rfl, ?_⟩
    simp only [ringOk, Bool.and_eq_true, decide_eq_true_eq] at hl ⊢
    refine ⟨List.all_eq_true.2 fun p h => ?_, by simp; omega⟩
    rcases List.mem_cons.1 (List.mem_of_mem_take h) with rfl | h
    · simp [pieceB, ht, hlen]
    · exact List.all_eq_true.1 hl.1 p h
  cases l with
  | nil =>
    simp only [show dPieces [] = [] from rfl] at hE e1 e3
    refine fresh ⟨_, ?_, rfl⟩
    have e4 : dPieces (List.take 6 [⟨t⟩]) = [[.l (ints t)]] := rfl
    rw [e4]
    have rf : rowsFlat ([] : List (List D)) = true := rfl
    by_cases h1 : how = 0
    · subst h1
      simp [Tryz.func40, Tryz.f40, e1, e2, e3, q1, q2, h0, g1, g2, rf] at hE
      exact hE.symm
    · simp [Tryz.func40, Tryz.f40, e1, e2, e3, q1, q2, h0, h1, g1, g2, rf] at hE
      exact hE.symm
  | cons p l =>
    have hpt := hp p (by simp)
    have hll : l.length ≤ 5 := by simpa using hn
    have rf : rowsFlat (dPieces (p :: l)) = false := by simp [dPieces_cons, rowsFlat, flatD]
    have g3 : (1 + (l.length + 1)) * 24 ≤ 140737488355328 := by omega
    have g4 : 1 + (l.length + 1) ≤ 4611686018427387904 := by omega
    have q3 : p.Text ≠ [] := fun e => by rw [e] at hpt; simp at hpt
    have w1 := w64 ((p.Text.length : Int) + t.length) (by omega)
    by_cases h1 : how = 0
    · subst h1
      refine fresh ⟨_, ?_, rfl⟩
      by_cases h6 : l.length = 5
      · simp [Tryz.func40, Tryz.f40, e1, e2, e3, q1, q2, h0, g1, g2, h6, rf] at hE
        exact hE.symm
      · have h6i : ¬ (6 : Int) < (l.length : Int) + 1 + 1 := by omega
        have h6t : l.take 4 = l := List.take_of_length_le (by omega)
        simp [Tryz.func40, Tryz.f40, e1, e2, e3, q1, q2, h0, g1, g2, g3, g4, h6i, rf] at hE
        rw [show List.take 6 (⟨t⟩ :: p :: l) = ⟨t⟩ :: p :: l.take 4 from rfl, h6t]
        exact hE.symm
    by_cases h7 : p.Text.length + t.length ≤ 400
    · have h7i : (p.Text.length : Int) + t.length ≤ 400 := by omega
      have j1 := E_sl13Join_n p.Text t (some 0) (some 1) (some 2) (by omega)
      have j2 := E_sl13Join_n t p.Text (some 0) (some 1) (some 2) (by omega)
      rw [dPieces_cons] at e1 e3 hE
      have tt : t.all typed = true := by simp only [textOk, Bool.and_eq_true] at ht; exact ht.2
      have hlp := hl
      simp only [ringOk, Bool.and_eq_true, decide_eq_true_eq, List.all_cons] at hlp
      have pt : p.Text.all typed = true := by have := hlp.1.1; simp only [pieceB, textOk, Bool.and_eq_true] at this; exact this.2.2
      have both : ∀ q : List Int, 0 < q.length ∧ q.length ≤ 400 → q.all typed = true → ringOk (⟨q⟩ :: l) = true := fun q h1 h2 => by
        simp only [ringOk, Bool.and_eq_true, decide_eq_true_eq, List.all_cons]
        exact ⟨⟨by simp [pieceB, textOk, h1.1, h1.2, h2], hlp.1.2⟩, hlp.2⟩
      by_cases h2 : how = 2
      · subst h2
        simp [Tryz.func40, Tryz.f40, e1, e2, e3, h0, g1, g2, w1, h7i, j1, j2] at hE
        rw [← ints_app] at hE
        exact ⟨⟨t ++ p.Text⟩ :: l, hE.symm, both (t ++ p.Text) (by simp; omega) (by simp [tt, pt])⟩
      · simp [Tryz.func40, Tryz.f40, e1, e2, e3, q1, q2, h0, h1, h2, g1, g2, w1, h7i, j1] at hE
        rw [← ints_app] at hE
        exact ⟨⟨p.Text ++ t⟩ :: l, hE.symm, both (p.Text ++ t) (by simp; omega) (by simp [tt, pt])⟩
    · refine fresh ⟨_, ?_, rfl⟩
      have h7i : ¬ (p.Text.length : Int) + t.length ≤ 400 := by omega
      by_cases h6 : l.length = 5
      · simp [Tryz.func40, Tryz.f40, e1, e2, e3, q1, q2, h0, h1, g1, g2, w1, h7i, h6, rf] at hE
        exact hE.symm
      · have h6i : ¬ (6 : Int) < (l.length : Int) + 1 + 1 := by omega
        have h6t : l.take 4 = l := List.take_of_length_le (by omega)
        simp [Tryz.func40, Tryz.f40, e1, e2, e3, q1, q2, h0, h1, g1, g2, g3, g4, w1, h7i, h6i, rf] at hE
        rw [show List.take 6 (⟨t⟩ :: p :: l) = ⟨t⟩ :: p :: l.take 4 from rfl, h6t]
        exact hE.symm
theorem EX_sl15Ring (b : List UInt8) (i h : Int) (hb : b.length ≤ 1048576) (hi : 0 ≤ i ∧ i ≤ b.length) : ∃ (l : List TPiece) (i' h' : Int), M_sl15Ring [.ref 0 0] [curV b i h] [] = some ⟨.agg [.own 0], [curV b i' h'], [(0, dPieces l)]⟩ ∧ ringOk l = true ∧ 0 ≤ i' ∧ i' ≤ b.length := by
  obtain ⟨k, i1, h1, e1, r1, j1⟩ := EX_sl01Below b i h 8 hb hi (by omega)
  obtain ⟨m, rfl⟩ := Int.eq_ofNat_of_zero_le r1.1
  unfold curV at e1
  generalize hE : M_sl15Ring _ _ _ = R
  unfold M_sl15Ring curV at hE
  simp [Tryz.func21, Tryz.f21, e1] at hE
  generalize hL : loopV _ _ = L at hE
  obtain ⟨⟨l, i2, h2⟩, ⟨a1, a2⟩, e⟩ := loopV_ex hL (σ := List TPiece × Int × Int) (fun j a => .on ⟨[(4, V.v (.int .i64 ((m : Int) - j))), (3, .ref 3 0), (2, .ref 2 0), (0, .ref 1000000000 0)], [(1000000000, [.lst (some 0) (byts b), V.v (.int .i64 a.2.1), V.v (.int .i64 a.2.2)]), (3, [.own 2000000000]), (2, [.own 2000000001])], [(2000000001, []), (2000000000, dPieces a.1)], []⟩) m (fun j a => ringOk a.1 = true ∧ 0 ≤ a.2.1 ∧ a.2.1 ≤ b.length) ([], i1, h1) (by simp [show dPieces [] = [] from rfl]) ⟨rfl, j1⟩ (fun j a hj ⟨p1, p3⟩ => by
    obtain ⟨l, i2, h2⟩ := a
    simp only at p1 p3
    obtain ⟨t, i3, h3, e3, q1, q2, j3⟩ := EX_sl13Runes b i2 h2 5 hb p3 (by omega)
    obtain ⟨x, i4, h4, e4, q3, j4⟩ := EX_sl01Below b i3 h3 3 hb j3 (by omega)
    have tx : textOk t = true := by simp only [textOk, Bool.and_eq_true, decide_eq_true_eq]; exact ⟨by omega, q1⟩
    obtain ⟨l', e5, q4⟩ := EX_sRingPut l t x p1 tx (by omega)
    unfold curV at e3 e4
    have g : (0 : Int) < (m : Int) - j := by omega
    have hw2 : (m : Int) - j - 1 = (m : Int) - ((j : Int) + 1) := by omega
    have hw := w64 ((m : Int) - ((j : Int) + 1)) (by omega)
    refine ⟨(l', i4, h4), ⟨q4, j4⟩, ?_⟩
    simp [hj, e3, e4, e5, hw2, hw])
  subst e
  simp at hE
  simp only at a1 a2
  exact ⟨l, i2, h2, hE.symm, a1, a2⟩
theorem E_sEdNew (vi : Bool) : M_sEdNew [V.v (.bool vi)] [] [] = some ⟨.agg [V.v (.bool vi), V.v (.int .i64 (if vi then 1 else 0)), .own 0, V.v (.int .i64 0), V.v (.int .i64 0), V.v (.int .i64 0), V.v (.int .i64 0), V.v (.int .i64 0), V.v (.int .i64 0), V.v (.int .i64 0), V.v (.int .i64 0), .own 1, .own 2, V.v (.int .i64 0), .own 3, V.v (.int .i64 0), .own 4, V.v (.int .i64 0), .own 5, V.v (.int .i64 0)], [], [(0, []), (1, []), (2, []), (3, []), (4, []), (5, [])]⟩ := by
  unfold M_sEdNew
  cases vi <;> simp [Tryz.func19, Tryz.f19]
end Go.Proofs.YtnmneoekpikpkaaGreatDoor
namespace Go.Proofs.YtnmneoekpikpkaaGreatDoor
open Go.RowKit
set_option linter.unusedSimpArgs false
set_option linter.unusedVariables false
set_option maxHeartbeats 4000000
set_option maxRecDepth 10000
def by8 (x : Int) : UInt8 := UInt8.ofNat x.toNat
theorem u8_in (x : Int) (h : 0 ≤ x ∧ x ≤ 255) : IntKind.u8.wrap x = x := by
  simp [IntKind.wrap, IntKind.bits, IntKind.signed]; omega
theorem u8_by8 (x : Int) (h : 0 ≤ x ∧ x ≤ 255) : IntKind.u8.wrap x = ((by8 x).toNat : Int) := by
  rw [u8_in x h]
  unfold by8
  rw [UInt8.toNat_ofNat']
  omega
def runeBytes (r : Int) : List UInt8 :=
  if runeOk r = false then [] else if r < 128 then [by8 r] else if r < 2048 then [by8 (192 + r / 64), by8 (128 + r % 64)]
  else if r < 65536 then [by8 (224 + r / 4096), by8 (128 + r / 64 % 64), by8 (128 + r % 64)]
  else [by8 (240 + r / 262144), by8 (128 + r / 4096 % 64), by8 (128 + r / 64 % 64), by8 (128 + r % 64)]
theorem runeOk_range {r : Int} (h : runeOk r = true) : 0 ≤ r ∧ r ≤ 1114111 := by
  simp only [runeOk, Bool.and_eq_true] at h
  exact inR_of h.1
theorem byts_of (l : List UInt8) : byts l = l.map fun c => [D.a (.int .u8 (c.toNat : Int))] := rfl
theorem E_iRuneBytes (r : Int) : M_iRuneBytes [V.v (.int .i64 r)] [] [] = some ⟨.own 0, [], [(0, byts (runeBytes r))]⟩ := by
  unfold M_iRuneBytes
  cases h1 : runeOk r
  · simp [Tryz.func54, Tryz.f54, E_iRuneOk, h1, runeBytes, byts_of]
  obtain ⟨a, b⟩ := runeOk_range h1
  have d1 := Int.tdiv_eq_ediv_of_nonneg a (b := 64)
  have d2 := Int.tdiv_eq_ediv_of_nonneg a (b := 4096)
  have d3 := Int.tdiv_eq_ediv_of_nonneg a (b := 262144)
  have m1 := Int.tmod_eq_emod_of_nonneg a (b := 64)
  have m2 := Int.tmod_eq_emod_of_nonneg (show 0 ≤ r / 64 by omega) (b := 64)
  have m3 := Int.tmod_eq_emod_of_nonneg (show 0 ≤ r / 4096 by omega) (b := 64)
  have w1 := w64 (r / 64) (by omega)
  have w2 := w64 (r / 4096) (by omega)
  have w3 := w64 (r / 262144) (by omega)
  have v1 := w64 (128 + r % 64) (by omega)
  have v2 := w64 (128 + r / 64 % 64) (by omega)
  have v3 := w64 (128 + r / 4096 % 64) (by omega)
  have u1 := u8_by8 (128 + r % 64) (by omega)
  have u2 := u8_by8 (128 + r / 64 % 64) (by omega)
  have u3 := u8_by8 (128 + r / 4096 % 64) (by omega)
  by_cases h2 : r < 128
  · simp [Tryz.func54, Tryz.f54, E_iRuneOk, h1, runeBytes, h2, byts_of, u8_by8 r (by omega)]
  by_cases h3 : r < 2048
  · have x1 := w64 (192 + r / 64) (by omega)
    have x2 := u8_by8 (192 + r / 64) (by omega)
    simp [Tryz.func54, Tryz.f54, E_iRuneOk, h1, runeBytes, h2, h3, byts_of, d1, m1, w1, v1, u1, x1, x2]
  by_cases h4 : r < 65536
  · have x1 := w64 (224 + r / 4096) (by omega)
    have x2 := u8_by8 (224 + r / 4096) (by omega)
    simp [Tryz.func54, Tryz.f54, E_iRuneOk, h1, runeBytes, h2, h3, h4, byts_of, d1, d2, m1, m2, w1, w2, v1, v2, u1, u2, x1, x2]
  have x1 := w64 (240 + r / 262144) (by omega)
  have x2 := u8_by8 (240 + r / 262144) (by omega)
  simp [Tryz.func54, Tryz.f54, E_iRuneOk, h1, runeBytes, h2, h3, h4, byts_of, d1, d2, d3, m1, m2, m3, w1, w2, w3, v1, v2, v3, u1, u2, u3, x1, x2]
end Go.Proofs.YtnmneoekpikpkaaGreatDoor
namespace Go.Proofs.YtnmneoekpikpkaaGreatDoor
open Go.RowKit
set_option linter.unusedSimpArgs false
set_option linter.unusedVariables false
set_option maxHeartbeats 4000000
set_option maxRecDepth 10000
def textOf (l : List Int) : List UInt8 := l.flatMap runeBytes
theorem runeBytes_len (r : Int) : (runeBytes r).length ≤ 4 := by
  unfold runeBytes
  split
  · simp
  split
  · simp
  split
  · simp
  split <;> simp
theorem textOf_len (l : List Int) : (textOf l).length ≤ 4 * l.length := by
  induction l with
  | nil => simp [textOf]
  | cons r l ih =>
    have := runeBytes_len r
    simp only [textOf, List.flatMap_cons, List.length_append, List.length_cons] at ih ⊢; omega
theorem textOf_take {l : List Int} {j : Nat} (h : j < l.length) : textOf (l.take (j + 1)) = textOf (l.take j) ++ runeBytes l[j] := by
  unfold textOf
  rw [List.take_add_one, List.getElem?_eq_getElem h, List.flatMap_append]; simp
theorem bytes_of_byts : ∀ (l : List UInt8), mapSome bytesOfRow (byts l) = some l
  | [] => rfl
  | c :: l => by
    rw [show byts (c :: l) = [D.a (.int .u8 (c.toNat : Int))] :: byts l from rfl]
    have h : UInt8.ofNat ((c.toNat : Int)).toNat = c := by simp
    simp only [mapSome, bytesOfRow, bnd_some, bytes_of_byts l, h]
theorem E_iTextOf (l : List Int) (hl : l.length ≤ 1000000000) : M_iTextOf [.lst (some 0) (ints l)] [] [] = some ⟨V.v (.string (⟨(textOf l).toArray⟩)), [], []⟩ := by
  unfold M_iTextOf
  simp [Tryz.func35, Tryz.f35]
  rw [loopV_go (fun j => .on ⟨[(8, V.v (.int .i64 ((j : Int)))), (7, V.v (.int .i64 ((l.length : Int)))), (6, .lst (some 0) (ints l)), (3, .own 2000000000)], [], [(2000000000, byts (textOf (l.take j)))], []⟩) l.length ?_ ?_]
  · simp [bytes_of_byts]
  · simp [textOf, byts_of]
  · intro j hj
    have hw := w64 (j + 1) (by omega)
    have h1 : (textOf (l.take j)).length ≤ 4000000000 := by
      have := textOf_len (l.take j)
      have e : (l.take j).length ≤ l.length := by simp; omega
      omega
    have h2 := runeBytes_len l[j]
    have h3 := textOf_take hj
    simp [hj, hw, ints_get hj, E_iRuneBytes]
    simp (disch := omega) only [grd_pos]
    simp [hw, h3]
end Go.Proofs.YtnmneoekpikpkaaGreatDoor
namespace Go.Proofs.YtnmneoekpikpkaaGreatDoor
open Go.RowKit
set_option linter.unusedSimpArgs false
set_option linter.unusedVariables false
set_option maxHeartbeats 4000000
set_option maxRecDepth 10000
theorem by8_nat {x : Int} (h : 0 ≤ x ∧ x ≤ 255) : ((by8 x).toNat : Int) = x := by
  rw [← u8_by8 x h, u8_in x h]
theorem by8_of (c : UInt8) : by8 (c.toNat : Int) = c := by simp [by8]
def nat8 (b : List UInt8) (i : Nat) : Int := ((b[i]?.getD 0).toNat : Int)
theorem nat8_range (b : List UInt8) (i : Nat) : 0 ≤ nat8 b i ∧ nat8 b i ≤ 255 := by
  have := (b[i]?.getD 0).toNat_lt
  unfold nat8; omega
def val (b : List UInt8) : Nat → Int
  | 1 => nat8 b 0
  | 2 => (nat8 b 0 - 192) * 64 + nat8 b 1 - 128
  | 3 => ((nat8 b 0 - 224) * 64 + nat8 b 1 - 128) * 64 + nat8 b 2 - 128
  | 4 => (((nat8 b 0 - 240) * 64 + nat8 b 1 - 128) * 64 + nat8 b 2 - 128) * 64 + nat8 b 3 - 128
  | _ => 0
def cls (c : Int) : Nat := if c < 128 then 1 else if inR c 192 223 then 2 else if inR c 224 239 then 3 else if inR c 240 247 then 4 else 0
def dec : List UInt8 → Option (Int × Nat)
  | [] => none
  | c :: l => if cls (nat8 (c :: l) 0) ≠ 0 ∧ cls (nat8 (c :: l) 0) ≤ (c :: l).length ∧ runeBytes (val (c :: l) (cls (nat8 (c :: l) 0))) = (c :: l).take (cls (nat8 (c :: l) 0)) then some (val (c :: l) (cls (nat8 (c :: l) 0)), cls (nat8 (c :: l) 0)) else none
theorem dec_cons (c : UInt8) (l : List UInt8) : dec (c :: l) = if cls (nat8 (c :: l) 0) ≠ 0 ∧ cls (nat8 (c :: l) 0) ≤ (c :: l).length ∧ runeBytes (val (c :: l) (cls (nat8 (c :: l) 0))) = (c :: l).take (cls (nat8 (c :: l) 0)) then some (val (c :: l) (cls (nat8 (c :: l) 0)), cls (nat8 (c :: l) 0)) else none := rfl
theorem runeBytes_cases {r : Int} (h : runeOk r = true) :
    (0 ≤ r ∧ r < 128 ∧ runeBytes r = [by8 r]) ∨ (128 ≤ r ∧ r < 2048 ∧ runeBytes r = [by8 (192 + r / 64), by8 (128 + r % 64)]) ∨
    (2048 ≤ r ∧ r < 65536 ∧ runeBytes r = [by8 (224 + r / 4096), by8 (128 + r / 64 % 64), by8 (128 + r % 64)]) ∨
    (65536 ≤ r ∧ r ≤ 1114111 ∧ runeBytes r = [by8 (240 + r / 262144), by8 (128 + r / 4096 % 64), by8 (128 + r / 64 % 64), by8 (128 + r % 64)]) := by
  obtain ⟨a, b⟩ := runeOk_range h
  by_cases h1 : r < 128
  · exact .inl ⟨a, h1, by simp [runeBytes, h, h1]⟩
  by_cases h2 : r < 2048
  · exact .inr (.inl ⟨by omega, h2, by simp [runeBytes, h, h1, h2]⟩)
  by_cases h3 : r < 65536
  · exact .inr (.inr (.inl ⟨by omega, h3, by simp [runeBytes, h, h1, h2, h3]⟩))
  · exact .inr (.inr (.inr ⟨by omega, b, by simp [runeBytes, h, h1, h2, h3]⟩))
theorem dec_rune {r : Int} (h : runeOk r = true) (t : List UInt8) : dec (runeBytes r ++ t) = some (r, (runeBytes r).length) := by
  rcases runeBytes_cases h with ⟨a, b, e⟩ | ⟨a, b, e⟩ | ⟨a, b, e⟩ | ⟨a, b, e⟩
  · have h0 := by8_nat (x := r) (by omega)
    have hc : cls r = 1 := by simp [cls, b]
    rw [e]
    simp [dec, nat8, h0, hc, val, e]
  · have h0 := by8_nat (x := 192 + r / 64) (by omega)
    have h1 := by8_nat (x := 128 + r % 64) (by omega)
    have hc : cls (192 + r / 64) = 2 := by
      have : ¬ 192 + r / 64 < 128 := by omega
      have i1 : inR (192 + r / 64) 192 223 = true := inR_iff.2 (by omega)
      simp [cls, this, i1]
    have hv : (192 + r / 64 - 192) * 64 + (128 + r % 64) - 128 = r := by omega
    rw [e]
    simp [dec, nat8, h0, h1, hc, val, hv, e]
  · have h0 := by8_nat (x := 224 + r / 4096) (by omega)
    have h1 := by8_nat (x := 128 + r / 64 % 64) (by omega)
    have h2 := by8_nat (x := 128 + r % 64) (by omega)
    have hc : cls (224 + r / 4096) = 3 := by
      have : ¬ 224 + r / 4096 < 128 := by omega
      have i1 : inR (224 + r / 4096) 192 223 = false := inR_no (by rw [inR_iff]; omega)
      have i2 : inR (224 + r / 4096) 224 239 = true := inR_iff.2 (by omega)
      simp [cls, this, i1, i2]
    have hv : ((224 + r / 4096 - 224) * 64 + (128 + r / 64 % 64) - 128) * 64 + (128 + r % 64) - 128 = r := by omega
    rw [e]
    simp [dec, nat8, h0, h1, h2, hc, val, hv, e]
  · have h0 := by8_nat (x := 240 + r / 262144) (by omega)
    have h1 := by8_nat (x := 128 + r / 4096 % 64) (by omega)
    have h2 := by8_nat (x := 128 + r / 64 % 64) (by omega)
    have h3 := by8_nat (x := 128 + r % 64) (by omega)
    have hc : cls (240 + r / 262144) = 4 := by
      have : ¬ 240 + r / 262144 < 128 := by omega
      have i1 : inR (240 + r / 262144) 192 223 = false := inR_no (by rw [inR_iff]; omega)
      have i2 : inR (240 + r / 262144) 224 239 = false := inR_no (by rw [inR_iff]; omega)
      have i3 : inR (240 + r / 262144) 240 247 = true := inR_iff.2 (by omega)
      simp [cls, this, i1, i2, i3]
    have hv : (((240 + r / 262144 - 240) * 64 + (128 + r / 4096 % 64) - 128) * 64 + (128 + r / 64 % 64) - 128) * 64 + (128 + r % 64) - 128 = r := by omega
    rw [e]
    simp [dec, nat8, h0, h1, h2, h3, hc, val, hv, e]
theorem runeBytes_ok {r : Int} (h : runeBytes r ≠ []) : runeOk r = true := by
  cases e : runeOk r
  · exact absurd (by simp [runeBytes, e]) h
  · rfl
theorem dec_some {b : List UInt8} {r : Int} {n : Nat} (h : dec b = some (r, n)) : runeOk r = true ∧ runeBytes r = b.take n ∧ n ≤ b.length ∧ n = (runeBytes r).length ∧ 1 ≤ n := by
  cases b with
  | nil => cases h
  | cons c l =>
    rw [dec_cons] at h
    by_cases hc : cls (nat8 (c :: l) 0) ≠ 0 ∧ cls (nat8 (c :: l) 0) ≤ (c :: l).length ∧ runeBytes (val (c :: l) (cls (nat8 (c :: l) 0))) = (c :: l).take (cls (nat8 (c :: l) 0))
    · rw [if_pos hc] at h
      obtain ⟨h1, h2, h3⟩ := hc
      simp only [Option.some.injEq, Prod.mk.injEq] at h
      obtain ⟨e1, e2⟩ := h
      rw [e1, e2] at h3
      rw [e2] at h1 h2
      have hlen : (runeBytes r).length = n := by rw [h3]; simp only [List.length_take]; omega
      exact ⟨runeBytes_ok (fun e => by rw [e] at hlen; simp at hlen; omega), h3, h2, hlen.symm, by omega⟩
    · rw [if_neg hc] at h; cases h
theorem cls_of {b : List UInt8} {n : Nat} (h1 : 1 ≤ n) (h2 : n ≤ b.length) (h3 : runeBytes (val b n) = b.take n) : cls (nat8 b 0) = n ∧ dec b = some (val b n, n) := by
  have hn : b.take n ≠ [] := fun e => by
    have : (b.take n).length = 0 := by rw [e]; rfl
    simp only [List.length_take] at this
    omega
  have ok := runeBytes_ok (r := val b n) (by rw [h3]; exact hn)
  have hd := dec_rune ok (b.drop n)
  rw [h3, List.take_append_drop] at hd
  have hl : (b.take n).length = n := by simp only [List.length_take]; omega
  rw [hl] at hd
  refine ⟨?_, hd⟩
  cases b with
  | nil => cases hd
  | cons c l =>
    rw [dec_cons] at hd
    by_cases hc : cls (nat8 (c :: l) 0) ≠ 0 ∧ cls (nat8 (c :: l) 0) ≤ (c :: l).length ∧ runeBytes (val (c :: l) (cls (nat8 (c :: l) 0))) = (c :: l).take (cls (nat8 (c :: l) 0))
    · rw [if_pos hc] at hd
      simp only [Option.some.injEq, Prod.mk.injEq] at hd; exact hd.2
    · rw [if_neg hc] at hd; cases hd
theorem dec_none {b : List UInt8} (h : dec b = none) (n : Nat) (h1 : 1 ≤ n) (h2 : n ≤ b.length) : runeBytes (val b n) ≠ b.take n := fun h3 => by
  rw [(cls_of h1 h2 h3).2] at h; cases h
def Reads (b : List UInt8) (l : List Int) (rest : List UInt8) : Prop := b = textOf l ++ rest ∧ (∀ r ∈ l, runeOk r = true) ∧ dec rest = none
theorem reads_ex : ∀ (n : Nat) (b : List UInt8), b.length ≤ n → ∃ l rest, Reads b l rest
  | 0, b, h => ⟨[], [], by cases b with
    | nil => exact ⟨rfl, by simp, rfl⟩
    | cons c l => simp at h⟩
  | n + 1, b, h => by
    cases e : dec b with
    | none => exact ⟨[], b, rfl, by simp, e⟩
    | some x =>
      obtain ⟨r, k⟩ := x
      obtain ⟨a1, a2, a3, a4, a5⟩ := dec_some e
      obtain ⟨l, rest, h1, h2, h3⟩ := reads_ex n (b.drop k) (by simp only [List.length_drop]; omega)
      refine ⟨r :: l, rest, ?_, ?_, h3⟩
      · rw [textOf, List.flatMap_cons, a2, List.append_assoc, ← textOf, ← h1, List.take_append_drop]
      · intro x hx
        rcases List.mem_cons.1 hx with rfl | hx
        · exact a1
        · exact h2 x hx
theorem Reads.at {b : List UInt8} {l : List Int} {rest : List UInt8} (h : Reads b l rest) {j : Nat} (hj : j < l.length) :
    (textOf (l.take j)).length < b.length ∧ dec (b.drop (textOf (l.take j)).length) = some (l[j], (runeBytes l[j]).length) ∧ (textOf (l.take j)).length + (runeBytes l[j]).length = (textOf (l.take (j + 1))).length := by
  obtain ⟨h1, h2, h3⟩ := h
  have ok := h2 l[j] (List.getElem_mem hj)
  have e : l = l.take j ++ l[j] :: l.drop (j + 1) := by
    rw [List.getElem_cons_drop, List.take_append_drop]
  have e2 : textOf l = textOf (l.take j) ++ (runeBytes l[j] ++ textOf (l.drop (j + 1))) := by
    conv => lhs; rw [e]
    unfold textOf
    rw [List.flatMap_append, List.flatMap_cons]
  have e3 : b.drop (textOf (l.take j)).length = runeBytes l[j] ++ (textOf (l.drop (j + 1)) ++ rest) := by
    rw [h1, e2, List.append_assoc, List.drop_left, List.append_assoc]
  have hpos : 1 ≤ (runeBytes l[j]).length := by
    rcases runeBytes_cases ok with ⟨_, _, e⟩ | ⟨_, _, e⟩ | ⟨_, _, e⟩ | ⟨_, _, e⟩ <;> rw [e] <;> simp
  refine ⟨?_, ?_, ?_⟩
  · rw [h1, e2]; simp only [List.length_append]; omega
  · rw [e3]; exact dec_rune ok _
  · rw [textOf_take hj, List.length_append]
theorem Reads.end {b : List UInt8} {l : List Int} {rest : List UInt8} (h : Reads b l rest) : b.drop (textOf l).length = rest ∧ (textOf l).length + rest.length = b.length := by
  obtain ⟨h1, h2, h3⟩ := h
  subst h1
  exact ⟨List.drop_left, by simp⟩
theorem Reads.len {b : List UInt8} {l : List Int} {rest : List UInt8} (h : Reads b l rest) : l.length ≤ b.length := by
  obtain ⟨h1, h2, h3⟩ := h
  subst h1
  have : ∀ l : List Int, (∀ r ∈ l, runeOk r = true) → l.length ≤ (textOf l).length := by
    intro l; induction l with
    | nil => intro _; simp
    | cons r l ih =>
      intro hl
      have := ih fun x hx => hl x (List.mem_cons_of_mem _ hx)
      have hpos : 1 ≤ (runeBytes r).length := by
        rcases runeBytes_cases (hl r (List.mem_cons_self ..)) with ⟨_, _, e⟩ | ⟨_, _, e⟩ | ⟨_, _, e⟩ | ⟨_, _, e⟩ <;> rw [e] <;> simp
      simp only [textOf, List.flatMap_cons, List.length_append, List.length_cons] at this ⊢; omega
  have := this l h2
  simp only [List.length_append]; omega
end Go.Proofs.YtnmneoekpikpkaaGreatDoor
