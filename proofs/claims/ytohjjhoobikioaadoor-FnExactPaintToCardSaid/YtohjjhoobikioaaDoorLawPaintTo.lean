/-
  FnExactPaintTo: the law's walk.
-/
import Derived.Test.YtohjjhoobikioaaDoorPTo
import Derived.Test.YtohjjhoobikioaaDoorPBox
namespace Go.Proofs.YtohjjhoobikioaaDoor
open Go.RowKit

theorem St.join {W w w' : World} {L M : List Pc} (S : St W w L) (T : St w w' M) : St W w' (M ++ L) := by
  obtain ⟨F, s, n, hb⟩ := S.sep
  obtain ⟨G, t, m, hc⟩ := T.sep
  have hs := S.ext.size
  have ht := T.ext.size
  have s' : Sep w' L F := s.st fun b h => Below.block T.ext b (hb b h).2
  refine ⟨S.ext.trans T.ext, G ++ F, ?_, List.nodup_append.2 ⟨m, n, fun b h1 c h2 e => ?_⟩, fun b h => ?_⟩
  · clear m hc T
    induction t with
    | nil => exact s'
    | cons a _ ih => rw [List.append_assoc]; exact .cons a ih
  · subst e; have := (hc b h1).1; have := (hb b h2).2; omega
  · rcases List.mem_append.1 h with h1 | h1
    · have := hc b h1; exact ⟨by omega, this.2⟩
    · have := hb b h1; exact ⟨this.1, by omega⟩
theorem St.pb {W' w : World} {L : List Pc} {b : Nat} {T : TypeId} {PW PH W H X Y : Int} {K R : Bool} {v : Value} (S : St W' w L) (i : Nat) (e : L[i]? = some (YtohjjhoobikioaaDoor.row b T #[.int .i64 PW, .int .i64 PH, .bool K, .int .i64 W, .int .i64 H, v, .int .i64 X, .int .i64 Y, .bool R])) : PBox w b PW PH K W H v X Y R := by
  obtain ⟨lc, -, -⟩ := S.cells i e
  exact ⟨lc 0, lc 1, lc 2, lc 3, lc 4, lc 5, lc 6, lc 7, lc 8⟩
theorem keepPG {wb w' w1 : World} {b b' : Nat} {PW PH W H X Y gW gH gX gY : Int} {K R gR : Bool} {v v' : Value} (h : PBox w' b PW PH K W H v X Y R ∧ GBox w' b' gW gH v' gX gY gR ∧ Ext wb w') (x : Ext w' w1) : PBox w1 b PW PH K W H v X Y R ∧ GBox w1 b' gW gH v' gX gY gR ∧ Ext wb w1 :=
  ⟨h.1.ext x, h.2.1.ext x, h.2.2.trans x⟩

set_option maxRecDepth 100000 in
set_option maxHeartbeats 16000000 in
theorem law_PaintTo_aux (PW PH W H X Y : Int) (K R : Bool) (C : List Int) (A : Option Addr) (n c : Nat) (W' H' X' Y' : Int) (R' : Bool) (C' : List Int) (A' : Option Addr) (n' c' : Nat) (w : World) (hC : RI w A n c C) (hC' : RI w A' n' c' C')
    (P1 P2 : Int) (k : Bool) (q : Gr) (D : List UInt8) (ok : Bool) (hDl : D.length ≤ 1600031) (hql : q.C.length ≤ 1048576)
    (K1 : Hid (∀ A n c A' n' c' w1, Ext w w1 → RI w1 A n c C → RI w1 A' n' c' C' → Calls Tryd.prog 41 #[.agg #[.int .i64 PW, .int .i64 PH, .bool K, .int .i64 W, .int .i64 H, .slice A n c, .int .i64 X, .int .i64 Y, .bool R], .agg #[.int .i64 W', .int .i64 H', .slice A' n' c', .int .i64 X', .int .i64 Y', .bool R']] w1 fun e w' => ∃ (v vb : Value), e = .returned (.tuple #[.agg #[.int .i64 P1, .int .i64 P2, .bool k, .int .i64 q.W, .int .i64 q.H, v, .int .i64 q.X, .int .i64 q.Y, .bool q.R], vb, .bool ok]) ∧ St w1 w' [ownX vb D, ownI v q.C]))
    (K2 : Hid (∀ A n c A' n' c' w1, Ext w w1 → RI w1 A n c C → RI w1 A' n' c' C' → Calls Tryd.prog 39 #[.agg #[.int .i64 PW, .int .i64 PH, .bool K, .int .i64 W, .int .i64 H, .slice A n c, .int .i64 X, .int .i64 Y, .bool R], .agg #[.int .i64 W', .int .i64 H', .slice A' n' c', .int .i64 X', .int .i64 Y', .bool R']] w1 fun e w' => ∃ (v vb : Value), e = .returned (.tuple #[.agg #[.int .i64 P1, .int .i64 P2, .bool k, .int .i64 q.W, .int .i64 q.H, v, .int .i64 q.X, .int .i64 q.Y, .bool q.R], vb, .bool ok]) ∧ St w1 w' [ownX vb D, ownI v q.C])) :
    Calls Tryd.prog 9 #[.agg #[.int .i64 PW, .int .i64 PH, .bool K, .int .i64 W, .int .i64 H, .slice A n c, .int .i64 X, .int .i64 Y, .bool R], .agg #[.int .i64 W', .int .i64 H', .slice A' n' c', .int .i64 X', .int .i64 Y', .bool R']] w fun e w' => e = .returned (.bool true) ∧ Ext w w' := by
  have hn := hC.nmax
  have hn' := hC'.nmax
  have S := ((St.refl w).alloc #[.int .i64 PW, .int .i64 PH, .bool K, .int .i64 W, .int .i64 H, .slice A n c, .int .i64 X, .int .i64 Y, .bool R] 61).alloc #[.int .i64 W', .int .i64 H', .slice A' n' c', .int .i64 X', .int .i64 Y', .bool R'] 47
  rw [World.size_alloc] at S
  have HL := Lib.hid hC.len; have HL' := Lib.hid hC'.len
  have SS := Lib.hid S; clear S
  go_enter Tryd.func9, Tryd.ntmps9
  go_wp2_with fail
  refine Calls.mono (laws_szPaint PW PH W H X Y K R A n c 1048576 _ (by omega) (by omega) hn) ?_; rintro e w1 ⟨rfl, x1⟩
  have S := SS.out.call x1
  obtain ⟨q0, q1, q2, q3, q4, q5⟩ := S.gb 0 rfl
  rcases szN_cases 1048576 n with ⟨h1, e1⟩ | ⟨h1, e1⟩ <;> rw [e1] <;> clear e1
  · go_wp2_with fail
    go_ret
    exact ⟨rfl, S.ext⟩
  go_wp2_with fail
  clear q0 q1 q2 q3 q4 q5
  refine Calls.mono (laws_szGrid W' H' X' Y' R' A' n' c' _ _ (by omega) (by omega) hn') ?_; rintro e w2 ⟨rfl, x2⟩
  have S := S.call x2
  clear x1 x2 SS
  rcases szN_cases (1048576 - (n : Int)) n' with ⟨h2, e1⟩ | ⟨h2, e1⟩ <;> rw [e1] <;> clear e1
  · go_wp2_with fail
    go_ret
    exact ⟨rfl, S.ext⟩
  have SS := Lib.hid S; clear S
  go_upto_region 8 with fail
  go_cut [6, 7, 8] (fun p x o wx => ∃ (b5 : Nat) (Ax : Option Addr) (nx cx : Nat) (Ay : Option Addr) (ny cy : Nat), p = .pointer (some ⟨b5, 0, none⟩) ∧ x = .slice Ax nx cx ∧ o = .bool ok ∧ St w wx [row b5 64 #[.int .i64 P1, .int .i64 P2, .bool k, .int .i64 q.W, .int .i64 q.H, .slice Ay ny cy, .int .i64 q.X, .int .i64 q.Y, .bool q.R], ownX (.slice Ax nx cx) D, ownI (.slice Ay ny cy) q.C, row (w.heap.size + 1) 47 #[.int .i64 W', .int .i64 H', .slice A' n' c', .int .i64 X', .int .i64 Y', .bool R'], row w.heap.size 61 #[.int .i64 PW, .int .i64 PH, .bool K, .int .i64 W, .int .i64 H, .slice A n c, .int .i64 X, .int .i64 Y, .bool R]])
  case first =>
    have B0a := And.intro (St.pb (PW := PW) (PH := PH) (K := K) (W := W) (H := H) (v := .slice A n c) (X := X) (Y := Y) (R := R) (b := w.heap.size) (T := 61) SS.out.drew 1 rfl) (And.intro (St.gb (gW := W') (gH := H') (v := .slice A' n' c') (gX := X') (gY := Y') (gR := R') (b := w.heap.size + 1) (T := 47) SS.out.drew 0 rfl) ((Ext.refl w2).drew))
    have Tz0 := ((St.of (Ext.refl w2)).alloc zeroP 64).drew
    have BZa := And.intro (St.pb (PW := PW) (PH := PH) (K := K) (W := W) (H := H) (v := .slice A n c) (X := X) (Y := Y) (R := R) (b := w.heap.size) (T := 61) (SS.out.call Tz0.ext) 1 rfl) (And.intro (St.gb (gW := W') (gH := H') (v := .slice A' n' c') (gX := X') (gY := Y') (gR := R') (b := w.heap.size + 1) (T := 47) (SS.out.call Tz0.ext) 0 rfl) Tz0.ext)
    go_region_held3 (fun w' => PBox w' w.heap.size PW PH K W H (.slice A n c) X Y R ∧ GBox w' (w.heap.size + 1) W' H' (.slice A' n' c') X' Y' R' ∧ Ext w2 w')
      ((first | with_reducible assumption | (refine keepPG ?_ (by assumption); assumption) | (refine keepPG ?_ ((Ext.refl _).alloc _); assumption)))
      (first
        | (go_at_call 40; have yaa : Ext w2 _ := And.right (And.right (by assumption)); (refine (laws_toPaint PW PH W H X Y K R C A n c _ (hC.ext (SS.out.ext.trans yaa)) (by omega)).mono ?_); rintro e waa ⟨va, rfl, owna, xaa⟩; obtain ⟨Aa, ca, rfl, raa⟩ := owna.form; (try (with_reducible have Tz := Tz0.call xaa)); have TzA := (St.of (yaa.trans xaa)).alloc zeroP 64)
        | (go_at_call 28; have yba : Ext w2 _ := And.right (And.right (by assumption)); (refine (laws_toGrid W' H' X' Y' R' C' A' n' c' _ (hC'.ext (SS.out.ext.trans yba)) (by omega)).mono ?_); rintro e wba ⟨vb, rfl, ownb, xba⟩; obtain ⟨Ab, cb, rfl, rba⟩ := ownb.form; (try (first | (with_reducible have Tz := Tz.call xba) | (with_reducible have Tz := TzA.call xba))); have TzB := (St.of (yba.trans xba)).alloc zeroP 64; (first | (with_reducible have raB := raa.ext xba) | (have raB := raa.ext (((Ext.refl _).alloc (.cells zeroP 64)).trans xba))))
        | (go_at_call 39; have xca : Ext w2 _ := And.right (And.right (by assumption)); (first | (with_reducible refine (K2.out Aa _ ca Ab _ cb _ (SS.out.ext.trans xca) raB rba).mono ?_) | (refine (K2.out Aa _ ca Ab _ cb _ (SS.out.ext.trans xca) (raB.ext ((Ext.refl _).alloc (.cells zeroP 64))) (rba.ext ((Ext.refl _).alloc (.cells zeroP 64)))).mono ?_)); rintro e wda ⟨vd, ve, rfl, Sda⟩; obtain ⟨A5, n5, c5, rfl⟩ := (Sda.ownX 0 rfl).form'; obtain ⟨A6, n6, c6, rfl⟩ := (Sda.ownI 1 rfl).form'; (first
            | (with_reducible have T1a := Tz.join Sda; obtain ⟨lcNa, lfNa, lsNa⟩ := T1a.cells 2 rfl; have T3a := (T1a.set9 2 rfl rfl (.int .i64 P1) (.int .i64 P2) (.bool k) (.int .i64 q.W) (.int .i64 q.H) (.slice A6 n6 c6) (.int .i64 q.X) (.int .i64 q.Y) (.bool q.R)).bring 2 rfl; have B1a := And.intro (St.pb (PW := PW) (PH := PH) (K := K) (W := W) (H := H) (v := .slice A n c) (X := X) (Y := Y) (R := R) (b := w.heap.size) (T := 61) (SS.out.call T1a.ext) 1 rfl) (And.intro (St.gb (gW := W') (gH := H') (v := .slice A' n' c') (gX := X') (gY := Y') (gR := R') (b := w.heap.size + 1) (T := 47) (SS.out.call T1a.ext) 0 rfl) T1a.ext); have B3a := And.intro (St.pb (PW := PW) (PH := PH) (K := K) (W := W) (H := H) (v := .slice A n c) (X := X) (Y := Y) (R := R) (b := w.heap.size) (T := 61) (SS.out.call T3a.ext) 1 rfl) (And.intro (St.gb (gW := W') (gH := H') (v := .slice A' n' c') (gX := X') (gY := Y') (gR := R') (b := w.heap.size + 1) (T := 47) (SS.out.call T3a.ext) 0 rfl) T3a.ext))
            | (with_reducible have T1a := TzB.join Sda; obtain ⟨lcNa, lfNa, lsNa⟩ := T1a.cells 2 rfl; have T3a := (T1a.set9 2 rfl rfl (.int .i64 P1) (.int .i64 P2) (.bool k) (.int .i64 q.W) (.int .i64 q.H) (.slice A6 n6 c6) (.int .i64 q.X) (.int .i64 q.Y) (.bool q.R)).bring 2 rfl; have B1a := And.intro (St.pb (PW := PW) (PH := PH) (K := K) (W := W) (H := H) (v := .slice A n c) (X := X) (Y := Y) (R := R) (b := w.heap.size) (T := 61) (SS.out.call T1a.ext) 1 rfl) (And.intro (St.gb (gW := W') (gH := H') (v := .slice A' n' c') (gX := X') (gY := Y') (gR := R') (b := w.heap.size + 1) (T := 47) (SS.out.call T1a.ext) 0 rfl) T1a.ext); have B3a := And.intro (St.pb (PW := PW) (PH := PH) (K := K) (W := W) (H := H) (v := .slice A n c) (X := X) (Y := Y) (R := R) (b := w.heap.size) (T := 61) (SS.out.call T3a.ext) 1 rfl) (And.intro (St.gb (gW := W') (gH := H') (v := .slice A' n' c') (gX := X') (gY := Y') (gR := R') (b := w.heap.size + 1) (T := 47) (SS.out.call T3a.ext) 0 rfl) T3a.ext))
            | (have T1a := (St.of xca).join Sda; have T3a := T1a.alloc #[.int .i64 P1, .int .i64 P2, .bool k, .int .i64 q.W, .int .i64 q.H, .slice A6 n6 c6, .int .i64 q.X, .int .i64 q.Y, .bool q.R] 64; have B1a := And.intro (St.pb (PW := PW) (PH := PH) (K := K) (W := W) (H := H) (v := .slice A n c) (X := X) (Y := Y) (R := R) (b := w.heap.size) (T := 61) (SS.out.call T1a.ext) 1 rfl) (And.intro (St.gb (gW := W') (gH := H') (v := .slice A' n' c') (gX := X') (gY := Y') (gR := R') (b := w.heap.size + 1) (T := 47) (SS.out.call T1a.ext) 0 rfl) T1a.ext); have B3a := And.intro (St.pb (PW := PW) (PH := PH) (K := K) (W := W) (H := H) (v := .slice A n c) (X := X) (Y := Y) (R := R) (b := w.heap.size) (T := 61) (SS.out.call T3a.ext) 1 rfl) (And.intro (St.gb (gW := W') (gH := H') (v := .slice A' n' c') (gX := X') (gY := Y') (gR := R') (b := w.heap.size + 1) (T := 47) (SS.out.call T3a.ext) 0 rfl) T3a.ext)))))
    all_goals
      go_wp2_with fail
      go_meet
      exact ⟨_, A5, n5, c5, A6, n6, c6, rfl, rfl, rfl, SS.out.join T3a⟩
  case rest =>
  obtain ⟨b5, A5, n5, c5, A6, n6, c6, rfl, rfl, rfl, S1⟩ := hcut
  clear SS
  have SS := Lib.hid S1
  clear S1
  obtain ⟨p0, p1, p2, p3, p4, p5, p6, p7, p8⟩ := SS.out.pb 4 rfl
  go_wp2_with fail
  refine Calls.mono (laws_toPaint PW PH W H X Y K R C A n c _ (hC.ext SS.out.ext) (by omega)) ?_; rintro e w6 ⟨v6, rfl, own6, x6⟩
  obtain ⟨A7, c7, rfl, -⟩ := own6.form
  have S2 := (SS.out.newI own6 x6).alloc #[.int .i64 PW, .int .i64 PH, .bool K, .int .i64 W, .int .i64 H, .slice A7 C.length c7, .int .i64 X, .int .i64 Y, .bool R] 64
  have B1 := (SS.out.newI own6 x6).gb 4 rfl
  clear SS own6 x6 p0 p1 p2 p3 p4 p5 p6 p7 p8
  obtain ⟨q0, q1, q2, q3, q4, q5⟩ := B1
  have q0l := World.block_lt_of_cell? w6 _ q0
  go_wp2_with fail
  refine Calls.mono (laws_toGrid W' H' X' Y' R' C' A' n' c' _ (hC'.ext S2.ext) (by omega)) ?_; rintro e w7 ⟨v7, rfl, own7, x7⟩
  obtain ⟨A8, c8, rfl, -⟩ := own7.form
  have S3 := (S2.newI own7 x7).alloc #[.int .i64 W', .int .i64 H', .slice A8 C'.length c8, .int .i64 X', .int .i64 Y', .bool R'] 40
  have B1 := (S2.newI own7 x7).pb 1 rfl
  clear S2 own7 x7 q0 q1 q2 q3 q4 q5 q0l
  generalize w6.heap.size = b7 at *
  obtain ⟨p0, p1, p2, p3, p4, p5, p6, p7, p8⟩ := B1
  have p0l := World.block_lt_of_cell? w7 _ p0
  go_wp2_with fail
  refine Calls.mono (K1.out A7 _ c7 A8 _ c8 _ S3.ext (S3.ownI 3 rfl).ri (S3.ownI 1 rfl).ri) ?_; rintro e w8 ⟨v8, vb8, rfl, S8⟩
  obtain ⟨A9, n9, c9, rfl⟩ := (S8.ownX 0 rfl).form'
  obtain ⟨A10, n10, c10, rfl⟩ := (S8.ownI 1 rfl).form'
  obtain rfl : n9 = D.length := (S8.ownX 0 rfl).rb.len.symm
  obtain rfl : n10 = q.C.length := (S8.ownI 1 rfl).ri.len.symm
  have S9 := (S3.join S8).alloc #[.int .i64 P1, .int .i64 P2, .bool k, .int .i64 q.W, .int .i64 q.H, .slice A10 q.C.length c10, .int .i64 q.X, .int .i64 q.Y, .bool q.R] 64
  have B1 := (S3.join S8).pb 6 rfl
  clear S3 S8 p0 p1 p2 p3 p4 p5 p6 p7 p8 p0l
  generalize w7.heap.size = b8 at *
  obtain ⟨q0, q1, q2, q3, q4, q5, q6, q7, q8⟩ := B1
  have q0l := World.block_lt_of_cell? w8 _ q0
  have hoo : (ok != ok) = false := by simp
  go_wp2_with fail
  refine Calls.mono (laws_eqPaint P1 P2 q.W q.H q.X q.Y k q.R q.C A10 A6 _ c10 _ c6 _ (S9.ownI 2 rfl).ri (S9.ownI 9 rfl).ri) ?_; rintro e w9 ⟨rfl, x9⟩
  generalize w8.heap.size = b11 at *
  have S10 : St w w9 [row b11 64 #[.int .i64 P1, .int .i64 P2, .bool k, .int .i64 q.W, .int .i64 q.H, .slice A10 q.C.length c10, .int .i64 q.X, .int .i64 q.Y, .bool q.R], ownX (.slice A9 D.length c9) (D), ownI (.slice A10 q.C.length c10) (q.C), row b8 40 #[.int .i64 W', .int .i64 H', .slice A8 C'.length c8, .int .i64 X', .int .i64 Y', .bool R'], ownI (.slice A8 C'.length c8) (C'), row b7 64 #[.int .i64 PW, .int .i64 PH, .bool K, .int .i64 W, .int .i64 H, .slice A7 C.length c7, .int .i64 X, .int .i64 Y, .bool R], ownI (.slice A7 C.length c7) (C), row b5 64 #[.int .i64 P1, .int .i64 P2, .bool k, .int .i64 q.W, .int .i64 q.H, .slice A6 n6 c6, .int .i64 q.X, .int .i64 q.Y, .bool q.R], ownX (.slice A5 n5 c5) D, ownI (.slice A6 n6 c6) q.C, row (w.heap.size + 1) 47 #[.int .i64 W', .int .i64 H', .slice A' n' c', .int .i64 X', .int .i64 Y', .bool R'], row w.heap.size 61 #[.int .i64 PW, .int .i64 PH, .bool K, .int .i64 W, .int .i64 H, .slice A n c, .int .i64 X, .int .i64 Y, .bool R]] := S9.call x9
  clear S9 x9 q0 q1 q2 q3 q4 q5 q6 q7 q8 q0l
  go_wp2_with fail
  refine Calls.mono (laws_eqByteS D _ _ _ _ _ _ _ (S10.ownX 1 rfl).rb (S10.ownX 8 rfl).rb) ?_; rintro e w10 ⟨rfl, x10⟩
  have SS : Hid (St w w10 [row b11 64 #[.int .i64 P1, .int .i64 P2, .bool k, .int .i64 q.W, .int .i64 q.H, .slice A10 q.C.length c10, .int .i64 q.X, .int .i64 q.Y, .bool q.R], ownX (.slice A9 D.length c9) (D), ownI (.slice A10 q.C.length c10) (q.C), row b8 40 #[.int .i64 W', .int .i64 H', .slice A8 C'.length c8, .int .i64 X', .int .i64 Y', .bool R'], ownI (.slice A8 C'.length c8) (C'), row b7 64 #[.int .i64 PW, .int .i64 PH, .bool K, .int .i64 W, .int .i64 H, .slice A7 C.length c7, .int .i64 X, .int .i64 Y, .bool R], ownI (.slice A7 C.length c7) (C), row b5 64 #[.int .i64 P1, .int .i64 P2, .bool k, .int .i64 q.W, .int .i64 q.H, .slice A6 n6 c6, .int .i64 q.X, .int .i64 q.Y, .bool q.R], ownX (.slice A5 n5 c5) D, ownI (.slice A6 n6 c6) q.C, row (w.heap.size + 1) 47 #[.int .i64 W', .int .i64 H', .slice A' n' c', .int .i64 X', .int .i64 Y', .bool R'], row w.heap.size 61 #[.int .i64 PW, .int .i64 PH, .bool K, .int .i64 W, .int .i64 H, .slice A n c, .int .i64 X, .int .i64 Y, .bool R]]) := S10.call x10
  clear S10 x10
  go_wp2_with fail
  go_region_held3 (fun w' => PBox w' b7 PW PH K W H (.slice A7 C.length c7) X Y R ∧ PBox w' w.heap.size PW PH K W H (.slice A n c) X Y R ∧ Ext w10 w')
    ((first | exact ⟨SS.out.drew.pb 5 rfl, SS.out.drew.pb 11 rfl, (Ext.refl w10).drew⟩ | (refine keepP2 ?_ (by assumption); assumption)))
    (first
      | (go_at_call 40; (refine (laws_toPaint PW PH W H X Y K R C A n c _ (hC.ext (SS.out.ext.trans (And.right (And.right (by assumption))))) (by omega)).mono ?_); rintro e w12 ⟨v12, rfl, own12, x12⟩; obtain ⟨A12, c12, rfl, r12⟩ := own12.form)
      | (go_at_call 42; have y12 : Ext w10 _ := And.right (And.right (by assumption)); (refine (laws_eqPaint PW PH W H X Y K R C A7 A12 _ c7 _ c12 _ ((SS.out.call y12).ownI 6 rfl).ri r12).mono ?_); rintro e w13 ⟨rfl, x13⟩; have S13 := SS.out.call (y12.trans x13)))
  have SS := Lib.hid S13
  clear own12 r12 x12 x13 y12 S13
  go_wp2_with fail
  go_region_held3 (fun w' => GBox w' b8 W' H' (.slice A8 C'.length c8) X' Y' R' ∧ GBox w' (w.heap.size + 1) W' H' (.slice A' n' c') X' Y' R' ∧ Ext w13 w')
    ((first | exact ⟨SS.out.drew.gb 3 rfl, SS.out.drew.gb 10 rfl, (Ext.refl w13).drew⟩ | (refine keep2 ?_ (by assumption); assumption)))
    (first
      | (go_at_call 28; (refine (laws_toGrid W' H' X' Y' R' C' A' n' c' _ (hC'.ext (SS.out.ext.trans (And.right (And.right (by assumption))))) (by omega)).mono ?_); rintro e w14 ⟨v14, rfl, own14, x14⟩; obtain ⟨A14, c14, rfl, r14⟩ := own14.form)
      | (go_at_call 30; have y14 : Ext w13 _ := And.right (And.right (by assumption)); (refine (laws_eqGrid W' H' X' Y' R' C' A8 A14 _ c8 _ c14 _ ((SS.out.call y14).ownI 4 rfl).ri r14).mono ?_); rintro e w15 ⟨rfl, x15⟩; have S15 := SS.out.call (y14.trans x15)))
  have SS := Lib.hid S15
  clear own14 r14 x14 x15 y14 S15
  obtain ⟨p0, p1, p2, p3, p4, p5, p6, p7, p8⟩ := SS.out.pb 5 rfl
  have hCl : C.length ≤ 1048576 := by have := HL.out; omega
  have hCl' : C'.length ≤ 1048576 := by have := HL'.out; omega
  go_wp2_with fail
  refine Calls.mono (laws_markPaint PW PH W H X Y K R C _ _ 1 _ (SS.out.ownI 6 rfl) (by omega) (by omega) (by omega)) ?_; rintro e w16 ⟨rfl, own16, g16⟩
  have S16 : St w w16 [row b11 64 #[.int .i64 P1, .int .i64 P2, .bool k, .int .i64 q.W, .int .i64 q.H, .slice A10 q.C.length c10, .int .i64 q.X, .int .i64 q.Y, .bool q.R], ownX (.slice A9 D.length c9) (D), ownI (.slice A10 q.C.length c10) (q.C), row b8 40 #[.int .i64 W', .int .i64 H', .slice A8 C'.length c8, .int .i64 X', .int .i64 Y', .bool R'], ownI (.slice A8 C'.length c8) (C'), row b7 64 #[.int .i64 PW, .int .i64 PH, .bool K, .int .i64 W, .int .i64 H, .slice A7 C.length c7, .int .i64 X, .int .i64 Y, .bool R], ownI (.slice A7 C.length c7) (marks 1 C.length), row b5 64 #[.int .i64 P1, .int .i64 P2, .bool k, .int .i64 q.W, .int .i64 q.H, .slice A6 n6 c6, .int .i64 q.X, .int .i64 q.Y, .bool q.R], ownX (.slice A5 n5 c5) D, ownI (.slice A6 n6 c6) q.C, row (w.heap.size + 1) 47 #[.int .i64 W', .int .i64 H', .slice A' n' c', .int .i64 X', .int .i64 Y', .bool R'], row w.heap.size 61 #[.int .i64 PW, .int .i64 PH, .bool K, .int .i64 W, .int .i64 H, .slice A n c, .int .i64 X, .int .i64 Y, .bool R]] := SS.out.markI 6 rfl own16 g16
  clear SS own16 g16
  clear p0 p1 p2 p3 p4 p5 p6 p7 p8
  obtain ⟨q0, q1, q2, q3, q4, q5⟩ := S16.gb 3 rfl
  go_wp2_with fail
  refine Calls.mono (laws_markGrid W' H' X' Y' R' C' _ _ (1 + C.length) _ (S16.ownI 4 rfl) (by omega) (by omega) (by omega)) ?_; rintro e w17 ⟨rfl, own17, g17⟩
  have S17 : St w w17 [row b11 64 #[.int .i64 P1, .int .i64 P2, .bool k, .int .i64 q.W, .int .i64 q.H, .slice A10 q.C.length c10, .int .i64 q.X, .int .i64 q.Y, .bool q.R], ownX (.slice A9 D.length c9) (D), ownI (.slice A10 q.C.length c10) (q.C), row b8 40 #[.int .i64 W', .int .i64 H', .slice A8 C'.length c8, .int .i64 X', .int .i64 Y', .bool R'], ownI (.slice A8 C'.length c8) (marks (1 + C.length) C'.length), row b7 64 #[.int .i64 PW, .int .i64 PH, .bool K, .int .i64 W, .int .i64 H, .slice A7 C.length c7, .int .i64 X, .int .i64 Y, .bool R], ownI (.slice A7 C.length c7) (marks 1 C.length), row b5 64 #[.int .i64 P1, .int .i64 P2, .bool k, .int .i64 q.W, .int .i64 q.H, .slice A6 n6 c6, .int .i64 q.X, .int .i64 q.Y, .bool q.R], ownX (.slice A5 n5 c5) D, ownI (.slice A6 n6 c6) q.C, row (w.heap.size + 1) 47 #[.int .i64 W', .int .i64 H', .slice A' n' c', .int .i64 X', .int .i64 Y', .bool R'], row w.heap.size 61 #[.int .i64 PW, .int .i64 PH, .bool K, .int .i64 W, .int .i64 H, .slice A n c, .int .i64 X, .int .i64 Y, .bool R]] := S16.markI 4 rfl own17 g17
  clear S16 own17 g17 q0 q1 q2 q3 q4 q5
  obtain ⟨p0, p1, p2, p3, p4, p5, p6, p7, p8⟩ := S17.pb 0 rfl
  obtain ⟨q0, q1, q2, q3, q4, q5, q6, q7, q8⟩ := S17.pb 7 rfl
  go_wp2_with fail
  refine Calls.mono (laws_eqPaint P1 P2 q.W q.H q.X q.Y k q.R q.C A10 A6 _ c10 _ c6 _ (S17.ownI 2 rfl).ri (S17.ownI 9 rfl).ri) ?_; rintro e w18 ⟨rfl, x18⟩
  have S18 : St w w18 [row b11 64 #[.int .i64 P1, .int .i64 P2, .bool k, .int .i64 q.W, .int .i64 q.H, .slice A10 q.C.length c10, .int .i64 q.X, .int .i64 q.Y, .bool q.R], ownX (.slice A9 D.length c9) (D), ownI (.slice A10 q.C.length c10) (q.C), row b8 40 #[.int .i64 W', .int .i64 H', .slice A8 C'.length c8, .int .i64 X', .int .i64 Y', .bool R'], ownI (.slice A8 C'.length c8) (marks (1 + C.length) C'.length), row b7 64 #[.int .i64 PW, .int .i64 PH, .bool K, .int .i64 W, .int .i64 H, .slice A7 C.length c7, .int .i64 X, .int .i64 Y, .bool R], ownI (.slice A7 C.length c7) (marks 1 C.length), row b5 64 #[.int .i64 P1, .int .i64 P2, .bool k, .int .i64 q.W, .int .i64 q.H, .slice A6 n6 c6, .int .i64 q.X, .int .i64 q.Y, .bool q.R], ownX (.slice A5 n5 c5) D, ownI (.slice A6 n6 c6) q.C, row (w.heap.size + 1) 47 #[.int .i64 W', .int .i64 H', .slice A' n' c', .int .i64 X', .int .i64 Y', .bool R'], row w.heap.size 61 #[.int .i64 PW, .int .i64 PH, .bool K, .int .i64 W, .int .i64 H, .slice A n c, .int .i64 X, .int .i64 Y, .bool R]] := S17.call x18
  clear S17 x18
  clear p0 p1 p2 p3 p4 p5 p6 p7 p8 q0 q1 q2 q3 q4 q5 q6 q7 q8
  go_wp2_with fail
  refine Calls.mono (laws_eqByteS D _ _ _ _ _ _ _ (S18.ownX 1 rfl).rb (S18.ownX 8 rfl).rb) ?_; rintro e w19 ⟨rfl, x19⟩
  have S19 : St w w19 [row b11 64 #[.int .i64 P1, .int .i64 P2, .bool k, .int .i64 q.W, .int .i64 q.H, .slice A10 q.C.length c10, .int .i64 q.X, .int .i64 q.Y, .bool q.R], ownX (.slice A9 D.length c9) (D), ownI (.slice A10 q.C.length c10) (q.C), row b8 40 #[.int .i64 W', .int .i64 H', .slice A8 C'.length c8, .int .i64 X', .int .i64 Y', .bool R'], ownI (.slice A8 C'.length c8) (marks (1 + C.length) C'.length), row b7 64 #[.int .i64 PW, .int .i64 PH, .bool K, .int .i64 W, .int .i64 H, .slice A7 C.length c7, .int .i64 X, .int .i64 Y, .bool R], ownI (.slice A7 C.length c7) (marks 1 C.length), row b5 64 #[.int .i64 P1, .int .i64 P2, .bool k, .int .i64 q.W, .int .i64 q.H, .slice A6 n6 c6, .int .i64 q.X, .int .i64 q.Y, .bool q.R], ownX (.slice A5 n5 c5) D, ownI (.slice A6 n6 c6) q.C, row (w.heap.size + 1) 47 #[.int .i64 W', .int .i64 H', .slice A' n' c', .int .i64 X', .int .i64 Y', .bool R'], row w.heap.size 61 #[.int .i64 PW, .int .i64 PH, .bool K, .int .i64 W, .int .i64 H, .slice A n c, .int .i64 X, .int .i64 Y, .bool R]] := S18.call x19
  clear S18 x19
  obtain ⟨p0, p1, p2, p3, p4, p5, p6, p7, p8⟩ := S19.pb 0 rfl
  go_wp2_with fail
  refine Calls.mono (laws_markPaint P1 P2 q.W q.H q.X q.Y k q.R q.C _ _ 1 _ (S19.ownI 2 rfl) (by omega) (by omega) (by omega)) ?_; rintro e w20 ⟨rfl, own20, g20⟩
  have S20 : St w w20 [row b11 64 #[.int .i64 P1, .int .i64 P2, .bool k, .int .i64 q.W, .int .i64 q.H, .slice A10 q.C.length c10, .int .i64 q.X, .int .i64 q.Y, .bool q.R], ownX (.slice A9 D.length c9) (D), ownI (.slice A10 q.C.length c10) (marks 1 q.C.length), row b8 40 #[.int .i64 W', .int .i64 H', .slice A8 C'.length c8, .int .i64 X', .int .i64 Y', .bool R'], ownI (.slice A8 C'.length c8) (marks (1 + C.length) C'.length), row b7 64 #[.int .i64 PW, .int .i64 PH, .bool K, .int .i64 W, .int .i64 H, .slice A7 C.length c7, .int .i64 X, .int .i64 Y, .bool R], ownI (.slice A7 C.length c7) (marks 1 C.length), row b5 64 #[.int .i64 P1, .int .i64 P2, .bool k, .int .i64 q.W, .int .i64 q.H, .slice A6 n6 c6, .int .i64 q.X, .int .i64 q.Y, .bool q.R], ownX (.slice A5 n5 c5) D, ownI (.slice A6 n6 c6) q.C, row (w.heap.size + 1) 47 #[.int .i64 W', .int .i64 H', .slice A' n' c', .int .i64 X', .int .i64 Y', .bool R'], row w.heap.size 61 #[.int .i64 PW, .int .i64 PH, .bool K, .int .i64 W, .int .i64 H, .slice A n c, .int .i64 X, .int .i64 Y, .bool R]] := S19.markI 2 rfl own20 g20
  clear S19 own20 g20
  clear p0 p1 p2 p3 p4 p5 p6 p7 p8
  go_wp2_with fail
  refine Calls.mono (laws_markByteX _ D _ (1 + q.C.length) _ (S20.ownX 1 rfl) (by omega) (by omega) (by omega)) ?_; rintro e w21 ⟨rfl, own21, g21⟩
  have S21 : St w w21 [row b11 64 #[.int .i64 P1, .int .i64 P2, .bool k, .int .i64 q.W, .int .i64 q.H, .slice A10 q.C.length c10, .int .i64 q.X, .int .i64 q.Y, .bool q.R], ownX (.slice A9 D.length c9) (marksB (1 + q.C.length) D.length), ownI (.slice A10 q.C.length c10) (marks 1 q.C.length), row b8 40 #[.int .i64 W', .int .i64 H', .slice A8 C'.length c8, .int .i64 X', .int .i64 Y', .bool R'], ownI (.slice A8 C'.length c8) (marks (1 + C.length) C'.length), row b7 64 #[.int .i64 PW, .int .i64 PH, .bool K, .int .i64 W, .int .i64 H, .slice A7 C.length c7, .int .i64 X, .int .i64 Y, .bool R], ownI (.slice A7 C.length c7) (marks 1 C.length), row b5 64 #[.int .i64 P1, .int .i64 P2, .bool k, .int .i64 q.W, .int .i64 q.H, .slice A6 n6 c6, .int .i64 q.X, .int .i64 q.Y, .bool q.R], ownX (.slice A5 n5 c5) D, ownI (.slice A6 n6 c6) q.C, row (w.heap.size + 1) 47 #[.int .i64 W', .int .i64 H', .slice A' n' c', .int .i64 X', .int .i64 Y', .bool R'], row w.heap.size 61 #[.int .i64 PW, .int .i64 PH, .bool K, .int .i64 W, .int .i64 H, .slice A n c, .int .i64 X, .int .i64 Y, .bool R]] := S20.markX 1 rfl own21 g21
  clear S20 own21 g21
  obtain ⟨p0, p1, p2, p3, p4, p5, p6, p7, p8⟩ := S21.pb 0 rfl
  go_wp2_with fail
  refine Calls.mono (laws_heldPaint P1 P2 q.W q.H q.X q.Y k q.R A10 _ c10 1 _ (S21.ownI 2 rfl).ri (by omega) (by omega) (by omega)) ?_; rintro e w22 ⟨rfl, x22⟩
  have S22 := S21.call x22
  clear S21 x22
  clear p0 p1 p2 p3 p4 p5 p6 p7 p8
  go_wp2_with fail
  refine Calls.mono (laws_heldByteS _ D.length _ (1 + q.C.length) _ (S22.ownX 1 rfl).rb (by omega) (by omega) (by omega)) ?_; rintro e w23 ⟨rfl, x23⟩
  have SS := Lib.hid (S22.call x23)
  clear S22 x23
  go_upto_region 35 with fail
  go_cut [17, 18, 19] (fun p x o wx => ∃ (b25 : Nat) (Ax : Option Addr) (nx cx : Nat) (Ay : Option Addr) (ny cy : Nat), p = .pointer (some ⟨b25, 0, none⟩) ∧ x = .slice Ax nx cx ∧ o = .bool ok ∧ St w wx (row b25 64 #[.int .i64 P1, .int .i64 P2, .bool k, .int .i64 q.W, .int .i64 q.H, .slice Ay ny cy, .int .i64 q.X, .int .i64 q.Y, .bool q.R] :: ownX (.slice Ax nx cx) D :: ownI (.slice Ay ny cy) q.C :: [row b11 64 #[.int .i64 P1, .int .i64 P2, .bool k, .int .i64 q.W, .int .i64 q.H, .slice A10 q.C.length c10, .int .i64 q.X, .int .i64 q.Y, .bool q.R], ownX (.slice A9 D.length c9) (marksB (1 + q.C.length) D.length), ownI (.slice A10 q.C.length c10) (marks 1 q.C.length), row b8 40 #[.int .i64 W', .int .i64 H', .slice A8 C'.length c8, .int .i64 X', .int .i64 Y', .bool R'], ownI (.slice A8 C'.length c8) (marks (1 + C.length) C'.length), row b7 64 #[.int .i64 PW, .int .i64 PH, .bool K, .int .i64 W, .int .i64 H, .slice A7 C.length c7, .int .i64 X, .int .i64 Y, .bool R], ownI (.slice A7 C.length c7) (marks 1 C.length), row b5 64 #[.int .i64 P1, .int .i64 P2, .bool k, .int .i64 q.W, .int .i64 q.H, .slice A6 n6 c6, .int .i64 q.X, .int .i64 q.Y, .bool q.R], ownX (.slice A5 n5 c5) D, ownI (.slice A6 n6 c6) q.C, row (w.heap.size + 1) 47 #[.int .i64 W', .int .i64 H', .slice A' n' c', .int .i64 X', .int .i64 Y', .bool R'], row w.heap.size 61 #[.int .i64 PW, .int .i64 PH, .bool K, .int .i64 W, .int .i64 H, .slice A n c, .int .i64 X, .int .i64 Y, .bool R]]))
  case first =>
    have B0z := And.intro (St.pb (PW := PW) (PH := PH) (K := K) (W := W) (H := H) (v := .slice A n c) (X := X) (Y := Y) (R := R) (b := w.heap.size) (T := 61) SS.out.drew 11 rfl) (And.intro (St.gb (gW := W') (gH := H') (v := .slice A' n' c') (gX := X') (gY := Y') (gR := R') (b := w.heap.size + 1) (T := 47) SS.out.drew 10 rfl) ((Ext.refl w23).drew))
    have Tz0 := ((St.of (Ext.refl w23)).alloc zeroP 64).drew
    have BZz := And.intro (St.pb (PW := PW) (PH := PH) (K := K) (W := W) (H := H) (v := .slice A n c) (X := X) (Y := Y) (R := R) (b := w.heap.size) (T := 61) (SS.out.call Tz0.ext) 11 rfl) (And.intro (St.gb (gW := W') (gH := H') (v := .slice A' n' c') (gX := X') (gY := Y') (gR := R') (b := w.heap.size + 1) (T := 47) (SS.out.call Tz0.ext) 10 rfl) Tz0.ext)
    go_region_held3 (fun w' => PBox w' w.heap.size PW PH K W H (.slice A n c) X Y R ∧ GBox w' (w.heap.size + 1) W' H' (.slice A' n' c') X' Y' R' ∧ Ext w23 w')
      ((first | with_reducible assumption | (refine keepPG ?_ (by assumption); assumption) | (refine keepPG ?_ ((Ext.refl _).alloc _); assumption)))
      (first
        | (go_at_call 40; have yaz : Ext w23 _ := And.right (And.right (by assumption)); (refine (laws_toPaint PW PH W H X Y K R C A n c _ (hC.ext (SS.out.ext.trans yaz)) (by omega)).mono ?_); rintro e waz ⟨va, rfl, owna, xaz⟩; obtain ⟨Aa, ca, rfl, raz⟩ := owna.form; (try (with_reducible have Tz := Tz0.call xaz)); have TzA := (St.of (yaz.trans xaz)).alloc zeroP 64)
        | (go_at_call 28; have ybz : Ext w23 _ := And.right (And.right (by assumption)); (refine (laws_toGrid W' H' X' Y' R' C' A' n' c' _ (hC'.ext (SS.out.ext.trans ybz)) (by omega)).mono ?_); rintro e wbz ⟨vb, rfl, ownb, xbz⟩; obtain ⟨Ab, cb, rfl, rbz⟩ := ownb.form; (try (first | (with_reducible have Tz := Tz.call xbz) | (with_reducible have Tz := TzA.call xbz))); have TzB := (St.of (ybz.trans xbz)).alloc zeroP 64; (first | (with_reducible have raB := raz.ext xbz) | (have raB := raz.ext (((Ext.refl _).alloc (.cells zeroP 64)).trans xbz))))
        | (go_at_call 41; have xcz : Ext w23 _ := And.right (And.right (by assumption)); (first | (with_reducible refine (K1.out Aa _ ca Ab _ cb _ (SS.out.ext.trans xcz) raB rbz).mono ?_) | (refine (K1.out Aa _ ca Ab _ cb _ (SS.out.ext.trans xcz) (raB.ext ((Ext.refl _).alloc (.cells zeroP 64))) (rbz.ext ((Ext.refl _).alloc (.cells zeroP 64)))).mono ?_)); rintro e wdz ⟨vd, ve, rfl, Sdz⟩; obtain ⟨A25, n25, c25, rfl⟩ := (Sdz.ownX 0 rfl).form'; obtain ⟨A26, n26, c26, rfl⟩ := (Sdz.ownI 1 rfl).form'; (first
            | (with_reducible have T1z := Tz.join Sdz; obtain ⟨lcNz, lfNz, lsNz⟩ := T1z.cells 2 rfl; have T3z := (T1z.set9 2 rfl rfl (.int .i64 P1) (.int .i64 P2) (.bool k) (.int .i64 q.W) (.int .i64 q.H) (.slice A26 n26 c26) (.int .i64 q.X) (.int .i64 q.Y) (.bool q.R)).bring 2 rfl; have B1z := And.intro (St.pb (PW := PW) (PH := PH) (K := K) (W := W) (H := H) (v := .slice A n c) (X := X) (Y := Y) (R := R) (b := w.heap.size) (T := 61) (SS.out.call T1z.ext) 11 rfl) (And.intro (St.gb (gW := W') (gH := H') (v := .slice A' n' c') (gX := X') (gY := Y') (gR := R') (b := w.heap.size + 1) (T := 47) (SS.out.call T1z.ext) 10 rfl) T1z.ext); have B3z := And.intro (St.pb (PW := PW) (PH := PH) (K := K) (W := W) (H := H) (v := .slice A n c) (X := X) (Y := Y) (R := R) (b := w.heap.size) (T := 61) (SS.out.call T3z.ext) 11 rfl) (And.intro (St.gb (gW := W') (gH := H') (v := .slice A' n' c') (gX := X') (gY := Y') (gR := R') (b := w.heap.size + 1) (T := 47) (SS.out.call T3z.ext) 10 rfl) T3z.ext))
            | (with_reducible have T1z := TzB.join Sdz; obtain ⟨lcNz, lfNz, lsNz⟩ := T1z.cells 2 rfl; have T3z := (T1z.set9 2 rfl rfl (.int .i64 P1) (.int .i64 P2) (.bool k) (.int .i64 q.W) (.int .i64 q.H) (.slice A26 n26 c26) (.int .i64 q.X) (.int .i64 q.Y) (.bool q.R)).bring 2 rfl; have B1z := And.intro (St.pb (PW := PW) (PH := PH) (K := K) (W := W) (H := H) (v := .slice A n c) (X := X) (Y := Y) (R := R) (b := w.heap.size) (T := 61) (SS.out.call T1z.ext) 11 rfl) (And.intro (St.gb (gW := W') (gH := H') (v := .slice A' n' c') (gX := X') (gY := Y') (gR := R') (b := w.heap.size + 1) (T := 47) (SS.out.call T1z.ext) 10 rfl) T1z.ext); have B3z := And.intro (St.pb (PW := PW) (PH := PH) (K := K) (W := W) (H := H) (v := .slice A n c) (X := X) (Y := Y) (R := R) (b := w.heap.size) (T := 61) (SS.out.call T3z.ext) 11 rfl) (And.intro (St.gb (gW := W') (gH := H') (v := .slice A' n' c') (gX := X') (gY := Y') (gR := R') (b := w.heap.size + 1) (T := 47) (SS.out.call T3z.ext) 10 rfl) T3z.ext))
            | (have T1z := (St.of xcz).join Sdz; have T3z := T1z.alloc #[.int .i64 P1, .int .i64 P2, .bool k, .int .i64 q.W, .int .i64 q.H, .slice A26 n26 c26, .int .i64 q.X, .int .i64 q.Y, .bool q.R] 64; have B1z := And.intro (St.pb (PW := PW) (PH := PH) (K := K) (W := W) (H := H) (v := .slice A n c) (X := X) (Y := Y) (R := R) (b := w.heap.size) (T := 61) (SS.out.call T1z.ext) 11 rfl) (And.intro (St.gb (gW := W') (gH := H') (v := .slice A' n' c') (gX := X') (gY := Y') (gR := R') (b := w.heap.size + 1) (T := 47) (SS.out.call T1z.ext) 10 rfl) T1z.ext); have B3z := And.intro (St.pb (PW := PW) (PH := PH) (K := K) (W := W) (H := H) (v := .slice A n c) (X := X) (Y := Y) (R := R) (b := w.heap.size) (T := 61) (SS.out.call T3z.ext) 11 rfl) (And.intro (St.gb (gW := W') (gH := H') (v := .slice A' n' c') (gX := X') (gY := Y') (gR := R') (b := w.heap.size + 1) (T := 47) (SS.out.call T3z.ext) 10 rfl) T3z.ext)))))
    all_goals
      go_wp2_with fail
      go_meet
      exact ⟨_, A25, n25, c25, A26, n26, c26, rfl, rfl, rfl, SS.out.join T3z⟩
  case rest =>
  obtain ⟨b25, A25, n25, c25, A26, n26, c26, rfl, rfl, rfl, S24⟩ := hcut
  clear SS
  obtain ⟨p0, p1, p2, p3, p4, p5, p6, p7, p8⟩ := S24.pb 0 rfl
  obtain ⟨q0, q1, q2, q3, q4, q5, q6, q7, q8⟩ := S24.pb 10 rfl
  go_wp2_with fail
  refine Calls.mono (laws_eqPaint P1 P2 q.W q.H q.X q.Y k q.R q.C A26 A6 _ c26 _ c6 _ (S24.ownI 2 rfl).ri (S24.ownI 12 rfl).ri) ?_; rintro e w26 ⟨rfl, x26⟩
  have S26 := S24.call x26
  clear S24 x26
  clear p0 p1 p2 p3 p4 p5 p6 p7 p8 q0 q1 q2 q3 q4 q5 q6 q7 q8
  go_wp2_with fail
  refine Calls.mono (laws_eqByteS D _ _ _ _ _ _ _ (S26.ownX 1 rfl).rb (S26.ownX 11 rfl).rb) ?_; rintro e w27 ⟨rfl, x27⟩
  have S27 := S26.call x27
  clear S26 x27
  obtain ⟨p0, p1, p2, p3, p4, p5, p6, p7, p8⟩ := S27.pb 3 rfl
  go_wp2_with fail
  refine Calls.mono (laws_heldPaint P1 P2 q.W q.H q.X q.Y k q.R A10 _ c10 1 _ (S27.ownI 5 rfl).ri (by omega) (by omega) (by omega)) ?_; rintro e w28 ⟨rfl, x28⟩
  have S28 := S27.call x28
  clear S27 x28
  clear p0 p1 p2 p3 p4 p5 p6 p7 p8
  go_wp2_with fail
  refine Calls.mono (laws_heldByteS _ D.length _ (1 + q.C.length) _ (S28.ownX 4 rfl).rb (by omega) (by omega) (by omega)) ?_; rintro e w29 ⟨rfl, x29⟩
  have S29 := S28.call x29
  clear S28 x29
  go_wp2_with fail
  go_ret
  exact ⟨rfl, S29.ext⟩

set_option maxRecDepth 100000 in
theorem law_FnExactPaintTo (PW PH W H X Y : Int) (K R : Bool) (C : List Int) (A : Option Addr) (n c : Nat) (W' H' X' Y' : Int) (R' : Bool) (C' : List Int) (A' : Option Addr) (n' c' : Nat) (w : World) (ht : Tab w) (hC : RI w A n c C) (hC' : RI w A' n' c' C') :
    Calls Tryd.prog 9 #[.agg #[.int .i64 PW, .int .i64 PH, .bool K, .int .i64 W, .int .i64 H, .slice A n c, .int .i64 X, .int .i64 Y, .bool R], .agg #[.int .i64 W', .int .i64 H', .slice A' n' c', .int .i64 X', .int .i64 Y', .bool R']] w fun e w' => e = .returned (.bool true) ∧ Ext w w' := by
  have hD := ptD_len PW PH K ⟨W, H, C, X, Y, R⟩ ⟨W', H', C', X', Y', R'⟩
  cases hok : ptOk PW PH K ⟨W, H, C, X, Y, R⟩ ⟨W', H', C', X', Y', R'⟩
  · obtain ⟨e1, e2⟩ := pt_no hok
    refine law_PaintTo_aux PW PH W H X Y K R C A n c W' H' X' Y' R' C' A' n' c' w hC hC' 0 0 false noG [] false (by simp) (by simp [noG]) ?_ ?_
    · intro A n c A' n' c' w1 x h1 h2
      have k := impl_PaintTo PW PH W H X Y K R C A n c W' H' X' Y' R' C' A' n' c' w1 (ht.ext x) h1 h2
      rw [hok, e1, e2] at k
      exact k
    · intro A n c A' n' c' w1 x h1 h2
      have k := spec_PaintTo PW PH W H X Y K R C A n c W' H' X' Y' R' C' A' n' c' w1 h1 h2
      rw [hok, e1, e2] at k
      exact k
  · obtain ⟨-, e2⟩ := pt_yes hok
    have hl : C'.length ≤ 8000 := by
      have h2 : gridOk ⟨W', H', C', X', Y', R'⟩ = true := by
        have := hok
        simp only [ptOk, Bool.and_eq_true] at this
        exact this.1.1.1.2
      obtain ⟨-, -, -, -, q5, q6⟩ := gridOk_d h2
      simp only at q5 q6
      omega
    refine law_PaintTo_aux PW PH W H X Y K R C A n c W' H' X' Y' R' C' A' n' c' w hC hC' PW PH true ⟨W', H', C', X', Y', R'⟩ _ true hD (by show C'.length ≤ _; omega) ?_ ?_
    · intro A n c A' n' c' w1 x h1 h2
      have k := impl_PaintTo PW PH W H X Y K R C A n c W' H' X' Y' R' C' A' n' c' w1 (ht.ext x) h1 h2
      rw [hok, e2] at k
      exact k
    · intro A n c A' n' c' w1 x h1 h2
      have k := spec_PaintTo PW PH W H X Y K R C A n c W' H' X' Y' R' C' A' n' c' w1 h1 h2
      rw [hok, e2] at k
      exact k
end Go.Proofs.YtohjjhoobikioaaDoor
