/-
  The laws' eq.. on equal data. Printed by gen_laws.py.
-/
import Derived.Test.YtacnbajcignacaaGreatYS
import Derived.Test.YtacnbajcignacaaGreatMean
namespace Go.Proofs.YtacnbajcignacaaGreat
open Go.RowKit
set_option linter.unusedSimpArgs false
set_option linter.unusedVariables false
set_option maxHeartbeats 4000000
set_option maxRecDepth 100000

theorem E_leqByteS (r : List (List D)) (k : is_byts r = true) (s : smL r = true) : M_leqByteS [.lst (some 0) r, .lst (some 1) r] [] [] = some ⟨V.v (.bool true), [], []⟩ := by
  obtain ⟨l, rfl⟩ := of_is_byts k
  have hb : l.length ≤ 1000000000 := by simpa using smL_len s
  unfold M_leqByteS
  simp [Tryz.func36, Tryz.f36]
  rw [loopV_go (fun k => .on ⟨[(5, V.v (.int .i64 ((k : Int)))), (1, .lst (some 1) (byts l)), (0, .lst (some 0) (byts l))], [], [], []⟩) l.length ?_ ?_]
  · simp
  · simp
  · intro j hj
    have hw := w64 (j + 1) (by omega)
    have hs := smL_at s (byts_get hj)
    simp at hs
    simp [hj, hw, hs, byts_get hj]
theorem E_leqNode (v0 : Int) (r1 : List (List D)) (r2 : List (List D)) (k1 : is_byts r1 = true) (s1 : smL r1 = true) (k2 : is_byts r2 = true) (s2 : smL r2 = true) : M_leqNode [.agg [V.v (.int .i64 v0), .lst (some 0) r1, .lst (some 1) r2], .agg [V.v (.int .i64 v0), .lst (some 2) r1, .lst (some 3) r2]] [] [] = some ⟨V.v (.bool true), [], []⟩ := by
  unfold M_leqNode
  simp [Tryz.func90, Tryz.f90, E_leqByteS, k1, s1, k2, s2]
theorem E_leqNodeS (r : List (List D)) (k : is_dNodes r = true) (s : smL r = true) : M_leqNodeS [.lst (some 0) r, .lst (some 1) r] [] [] = some ⟨V.v (.bool true), [], []⟩ := by
  obtain ⟨l, rfl⟩ := of_is_dNodes k
  have hb : l.length ≤ 1000000000 := by simpa using smL_len s
  unfold M_leqNodeS
  simp [Tryz.func60, Tryz.f60]
  rw [loopV_go (fun k => .on ⟨[(5, V.v (.int .i64 ((k : Int)))), (1, .lst (some 1) (dNodes l)), (0, .lst (some 0) (dNodes l))], [], [], []⟩) l.length ?_ ?_]
  · simp
  · simp
  · intro j hj
    have hw := w64 (j + 1) (by omega)
    have hs := smL_at s (dNodes_get hj)
    simp at hs
    simp [hj, hw, hs, dNodes_get hj, E_leqNode]
theorem E_leqLink (v0 : ByteArray) (v1 : Int) : M_leqLink [.agg [V.v (.string v0), V.v (.int .i64 v1)], .agg [V.v (.string v0), V.v (.int .i64 v1)]] [] [] = some ⟨V.v (.bool true), [], []⟩ := by
  unfold M_leqLink
  simp [Tryz.func91, Tryz.f91]
theorem E_leqLinkS (r : List (List D)) (k : is_dLinks r = true) (s : smL r = true) : M_leqLinkS [.lst (some 0) r, .lst (some 1) r] [] [] = some ⟨V.v (.bool true), [], []⟩ := by
  obtain ⟨l, rfl⟩ := of_is_dLinks k
  have hb : l.length ≤ 1000000000 := by simpa using smL_len s
  unfold M_leqLinkS
  simp [Tryz.func61, Tryz.f61]
  rw [loopV_go (fun k => .on ⟨[(5, V.v (.int .i64 ((k : Int)))), (1, .lst (some 1) (dLinks l)), (0, .lst (some 0) (dLinks l))], [], [], []⟩) l.length ?_ ?_]
  · simp
  · simp
  · intro j hj
    have hw := w64 (j + 1) (by omega)
    have hs := smL_at s (dLinks_get hj)
    simp at hs
    simp [hj, hw, hs, dLinks_get hj, E_leqLink]
theorem E_leqTurn (v0 : Int) (v1 : ByteArray) (v2 : ByteArray) (v3 : Int) : M_leqTurn [.agg [V.v (.int .i64 v0), V.v (.string v1), V.v (.string v2), V.v (.int .i64 v3)], .agg [V.v (.int .i64 v0), V.v (.string v1), V.v (.string v2), V.v (.int .i64 v3)]] [] [] = some ⟨V.v (.bool true), [], []⟩ := by
  unfold M_leqTurn
  simp [Tryz.func92, Tryz.f92]
theorem E_leqTurnS (r : List (List D)) (k : is_dTurns r = true) (s : smL r = true) : M_leqTurnS [.lst (some 0) r, .lst (some 1) r] [] [] = some ⟨V.v (.bool true), [], []⟩ := by
  obtain ⟨l, rfl⟩ := of_is_dTurns k
  have hb : l.length ≤ 1000000000 := by simpa using smL_len s
  unfold M_leqTurnS
  simp [Tryz.func62, Tryz.f62]
  rw [loopV_go (fun k => .on ⟨[(5, V.v (.int .i64 ((k : Int)))), (1, .lst (some 1) (dTurns l)), (0, .lst (some 0) (dTurns l))], [], [], []⟩) l.length ?_ ?_]
  · simp
  · simp
  · intro j hj
    have hw := w64 (j + 1) (by omega)
    have hs := smL_at s (dTurns_get hj)
    simp at hs
    simp [hj, hw, hs, dTurns_get hj, E_leqTurn]
theorem E_leqDisk (v0 : Int) (v1 : Int) (v2 : Int) (r3 : List (List D)) (r4 : List (List D)) (r5 : List (List D)) (k3 : is_dNodes r3 = true) (s3 : smL r3 = true) (k4 : is_dLinks r4 = true) (s4 : smL r4 = true) (k5 : is_dTurns r5 = true) (s5 : smL r5 = true) : M_leqDisk [.agg [V.v (.int .i64 v0), V.v (.int .i64 v1), V.v (.int .i64 v2), .lst (some 0) r3, .lst (some 1) r4, .lst (some 2) r5], .agg [V.v (.int .i64 v0), V.v (.int .i64 v1), V.v (.int .i64 v2), .lst (some 3) r3, .lst (some 4) r4, .lst (some 5) r5]] [] [] = some ⟨V.v (.bool true), [], []⟩ := by
  unfold M_leqDisk
  simp [Tryz.func28, Tryz.f28, E_leqNodeS, E_leqLinkS, E_leqTurnS, k3, s3, k4, s4, k5, s5]
theorem E_leqEntry (v0 : Int) (v1 : ByteArray) : M_leqEntry [.agg [V.v (.int .i64 v0), V.v (.string v1)], .agg [V.v (.int .i64 v0), V.v (.string v1)]] [] [] = some ⟨V.v (.bool true), [], []⟩ := by
  unfold M_leqEntry
  simp [Tryz.func89, Tryz.f89]
theorem E_leqEntryS (r : List (List D)) (k : is_dEntrys r = true) (s : smL r = true) : M_leqEntryS [.lst (some 0) r, .lst (some 1) r] [] [] = some ⟨V.v (.bool true), [], []⟩ := by
  obtain ⟨l, rfl⟩ := of_is_dEntrys k
  have hb : l.length ≤ 1000000000 := by simpa using smL_len s
  unfold M_leqEntryS
  simp [Tryz.func59, Tryz.f59]
  rw [loopV_go (fun k => .on ⟨[(5, V.v (.int .i64 ((k : Int)))), (1, .lst (some 1) (dEntrys l)), (0, .lst (some 0) (dEntrys l))], [], [], []⟩) l.length ?_ ?_]
  · simp
  · simp
  · intro j hj
    have hw := w64 (j + 1) (by omega)
    have hs := smL_at s (dEntrys_get hj)
    simp at hs
    simp [hj, hw, hs, dEntrys_get hj, E_leqEntry]
theorem E_leqStore (v0 : Int) (v1 : Int) (v2 : Int) (r3 : List (List D)) (r4 : List (List D)) (r5 : List (List D)) (v6 : Int) (v7 : Int) (r8 : List (List D)) (v9 : Int) (k3 : is_dNodes r3 = true) (s3 : smL r3 = true) (k4 : is_dLinks r4 = true) (s4 : smL r4 = true) (k5 : is_dTurns r5 = true) (s5 : smL r5 = true) (k8 : is_dEntrys r8 = true) (s8 : smL r8 = true) : M_leqStore [.agg [V.v (.int .i64 v0), V.v (.int .i64 v1), V.v (.int .i64 v2), .lst (some 0) r3, .lst (some 1) r4, .lst (some 2) r5, V.v (.int .i64 v6), V.v (.int .i64 v7), .lst (some 3) r8, V.v (.int .i64 v9)], .agg [V.v (.int .i64 v0), V.v (.int .i64 v1), V.v (.int .i64 v2), .lst (some 4) r3, .lst (some 5) r4, .lst (some 6) r5, V.v (.int .i64 v6), V.v (.int .i64 v7), .lst (some 7) r8, V.v (.int .i64 v9)]] [] [] = some ⟨V.v (.bool true), [], []⟩ := by
  unfold M_leqStore
  simp [Tryz.func27, Tryz.f27, E_leqDisk, E_leqEntryS, k3, s3, k4, s4, k5, s5, k8, s8]
theorem E_leqIntS (r : List (List D)) (k : is_ints r = true) (s : smL r = true) : M_leqIntS [.lst (some 0) r, .lst (some 1) r] [] [] = some ⟨V.v (.bool true), [], []⟩ := by
  obtain ⟨l, rfl⟩ := of_is_ints k
  have hb : l.length ≤ 1000000000 := by simpa using smL_len s
  unfold M_leqIntS
  simp [Tryz.func35, Tryz.f35]
  rw [loopV_go (fun k => .on ⟨[(5, V.v (.int .i64 ((k : Int)))), (1, .lst (some 1) (ints l)), (0, .lst (some 0) (ints l))], [], [], []⟩) l.length ?_ ?_]
  · simp
  · simp
  · intro j hj
    have hw := w64 (j + 1) (by omega)
    have hs := smL_at s (ints_get hj)
    simp at hs
    simp [hj, hw, hs, ints_get hj]
theorem E_leqGrid (v0 : Int) (v1 : Int) (r2 : List (List D)) (v3 : Int) (v4 : Int) (v5 : Bool) (k2 : is_ints r2 = true) (s2 : smL r2 = true) : M_leqGrid [.agg [V.v (.int .i64 v0), V.v (.int .i64 v1), .lst (some 0) r2, V.v (.int .i64 v3), V.v (.int .i64 v4), V.v (.bool v5)], .agg [V.v (.int .i64 v0), V.v (.int .i64 v1), .lst (some 1) r2, V.v (.int .i64 v3), V.v (.int .i64 v4), V.v (.bool v5)]] [] [] = some ⟨V.v (.bool true), [], []⟩ := by
  unfold M_leqGrid
  simp [Tryz.func34, Tryz.f34, E_leqIntS, k2, s2]
theorem E_leqPaint (v0 : Int) (v1 : Int) (v2 : Bool) (v3 : Int) (v4 : Int) (r5 : List (List D)) (v6 : Int) (v7 : Int) (v8 : Bool) (k5 : is_ints r5 = true) (s5 : smL r5 = true) : M_leqPaint [.agg [V.v (.int .i64 v0), V.v (.int .i64 v1), V.v (.bool v2), V.v (.int .i64 v3), V.v (.int .i64 v4), .lst (some 0) r5, V.v (.int .i64 v6), V.v (.int .i64 v7), V.v (.bool v8)], .agg [V.v (.int .i64 v0), V.v (.int .i64 v1), V.v (.bool v2), V.v (.int .i64 v3), V.v (.int .i64 v4), .lst (some 1) r5, V.v (.int .i64 v6), V.v (.int .i64 v7), V.v (.bool v8)]] [] [] = some ⟨V.v (.bool true), [], []⟩ := by
  unfold M_leqPaint
  simp [Tryz.func29, Tryz.f29, E_leqGrid, k5, s5]
theorem E_leqDec (v0 : Int) (r1 : List (List D)) (k1 : is_byts r1 = true) (s1 : smL r1 = true) : M_leqDec [.agg [V.v (.int .i64 v0), .lst (some 0) r1], .agg [V.v (.int .i64 v0), .lst (some 1) r1]] [] [] = some ⟨V.v (.bool true), [], []⟩ := by
  unfold M_leqDec
  simp [Tryz.func30, Tryz.f30, E_leqByteS, k1, s1]
theorem E_leqLine (r0 : List (List D)) (v1 : Int) (k0 : is_ints r0 = true) (s0 : smL r0 = true) : M_leqLine [.agg [.lst (some 0) r0, V.v (.int .i64 v1)], .agg [.lst (some 1) r0, V.v (.int .i64 v1)]] [] [] = some ⟨V.v (.bool true), [], []⟩ := by
  unfold M_leqLine
  simp [Tryz.func63, Tryz.f63, E_leqIntS, k0, s0]
theorem E_leqPiece (r0 : List (List D)) (k0 : is_ints r0 = true) (s0 : smL r0 = true) : M_leqPiece [.agg [.lst (some 0) r0], .agg [.lst (some 1) r0]] [] [] = some ⟨V.v (.bool true), [], []⟩ := by
  unfold M_leqPiece
  simp [Tryz.func102, Tryz.f102, E_leqIntS, k0, s0]
theorem E_leqPieceS (r : List (List D)) (k : is_dPieces r = true) (s : smL r = true) : M_leqPieceS [.lst (some 0) r, .lst (some 1) r] [] [] = some ⟨V.v (.bool true), [], []⟩ := by
  obtain ⟨l, rfl⟩ := of_is_dPieces k
  have hb : l.length ≤ 1000000000 := by simpa using smL_len s
  unfold M_leqPieceS
  simp [Tryz.func93, Tryz.f93]
  rw [loopV_go (fun k => .on ⟨[(5, V.v (.int .i64 ((k : Int)))), (1, .lst (some 1) (dPieces l)), (0, .lst (some 0) (dPieces l))], [], [], []⟩) l.length ?_ ?_]
  · simp
  · simp
  · intro j hj
    have hw := w64 (j + 1) (by omega)
    have hs := smL_at s (dPieces_get hj)
    simp at hs
    simp [hj, hw, hs, dPieces_get hj, E_leqPiece]
theorem E_leqRing (r0 : List (List D)) (k0 : is_dPieces r0 = true) (s0 : smL r0 = true) : M_leqRing [.agg [.lst (some 0) r0], .agg [.lst (some 1) r0]] [] [] = some ⟨V.v (.bool true), [], []⟩ := by
  unfold M_leqRing
  simp [Tryz.func64, Tryz.f64, E_leqPieceS, k0, s0]
theorem E_leqLineS (r : List (List D)) (k : is_dLines r = true) (s : smL r = true) : M_leqLineS [.lst (some 0) r, .lst (some 1) r] [] [] = some ⟨V.v (.bool true), [], []⟩ := by
  obtain ⟨l, rfl⟩ := of_is_dLines k
  have hb : l.length ≤ 1000000000 := by simpa using smL_len s
  unfold M_leqLineS
  simp [Tryz.func94, Tryz.f94]
  rw [loopV_go (fun k => .on ⟨[(5, V.v (.int .i64 ((k : Int)))), (1, .lst (some 1) (dLines l)), (0, .lst (some 0) (dLines l))], [], [], []⟩) l.length ?_ ?_]
  · simp
  · simp
  · intro j hj
    have hw := w64 (j + 1) (by omega)
    have hs := smL_at s (dLines_get hj)
    simp at hs
    simp [hj, hw, hs, dLines_get hj, E_leqLine]
theorem E_leqUndo (r0 : List (List D)) (k0 : is_dLines r0 = true) (s0 : smL r0 = true) : M_leqUndo [.agg [.lst (some 0) r0], .agg [.lst (some 1) r0]] [] [] = some ⟨V.v (.bool true), [], []⟩ := by
  unfold M_leqUndo
  simp [Tryz.func65, Tryz.f65, E_leqLineS, k0, s0]
theorem E_leqEd (v0 : Bool) (v1 : Int) (r2 : List (List D)) (v3 : Int) (v4 : Int) (v5 : Int) (v6 : Int) (v7 : Int) (v8 : Int) (v9 : Int) (v10 : Int) (r11 : List (List D)) (r12 : List (List D)) (v13 : Int) (r14 : List (List D)) (v15 : Int) (r16 : List (List D)) (v17 : Int) (r18 : List (List D)) (v19 : Int) (k2 : is_ints r2 = true) (s2 : smL r2 = true) (k11 : is_dPieces r11 = true) (s11 : smL r11 = true) (k12 : is_dLines r12 = true) (s12 : smL r12 = true) (k14 : is_ints r14 = true) (s14 : smL r14 = true) (k16 : is_ints r16 = true) (s16 : smL r16 = true) (k18 : is_ints r18 = true) (s18 : smL r18 = true) : M_leqEd [.agg [V.v (.bool v0), V.v (.int .i64 v1), .lst (some 0) r2, V.v (.int .i64 v3), V.v (.int .i64 v4), V.v (.int .i64 v5), V.v (.int .i64 v6), V.v (.int .i64 v7), V.v (.int .i64 v8), V.v (.int .i64 v9), V.v (.int .i64 v10), .lst (some 1) r11, .lst (some 2) r12, V.v (.int .i64 v13), .lst (some 3) r14, V.v (.int .i64 v15), .lst (some 4) r16, V.v (.int .i64 v17), .lst (some 5) r18, V.v (.int .i64 v19)], .agg [V.v (.bool v0), V.v (.int .i64 v1), .lst (some 6) r2, V.v (.int .i64 v3), V.v (.int .i64 v4), V.v (.int .i64 v5), V.v (.int .i64 v6), V.v (.int .i64 v7), V.v (.int .i64 v8), V.v (.int .i64 v9), V.v (.int .i64 v10), .lst (some 7) r11, .lst (some 8) r12, V.v (.int .i64 v13), .lst (some 9) r14, V.v (.int .i64 v15), .lst (some 10) r16, V.v (.int .i64 v17), .lst (some 11) r18, V.v (.int .i64 v19)]] [] [] = some ⟨V.v (.bool true), [], []⟩ := by
  unfold M_leqEd
  simp [Tryz.func31, Tryz.f31, E_leqLine, E_leqRing, E_leqUndo, E_leqIntS, k2, s2, k11, s11, k12, s12, k14, s14, k16, s16, k18, s18]
theorem E_leqStringS (r : List (List D)) (k : is_strs r = true) (s : smL r = true) : M_leqStringS [.lst (some 0) r, .lst (some 1) r] [] [] = some ⟨V.v (.bool true), [], []⟩ := by
  obtain ⟨l, rfl⟩ := of_is_strs k
  have hb : l.length ≤ 1000000000 := by simpa using smL_len s
  unfold M_leqStringS
  simp [Tryz.func66, Tryz.f66]
  rw [loopV_go (fun k => .on ⟨[(5, V.v (.int .i64 ((k : Int)))), (1, .lst (some 1) (strs l)), (0, .lst (some 0) (strs l))], [], [], []⟩) l.length ?_ ?_]
  · simp
  · simp
  · intro j hj
    have hw := w64 (j + 1) (by omega)
    have hs := smL_at s (strs_get hj)
    simp at hs
    simp [hj, hw, hs, strs_get hj]
theorem E_leqHist (v0 : Int) (r1 : List (List D)) (k1 : is_strs r1 = true) (s1 : smL r1 = true) : M_leqHist [.agg [V.v (.int .i64 v0), .lst (some 0) r1], .agg [V.v (.int .i64 v0), .lst (some 1) r1]] [] [] = some ⟨V.v (.bool true), [], []⟩ := by
  unfold M_leqHist
  simp [Tryz.func32, Tryz.f32, E_leqStringS, k1, s1]
theorem E_leqSent (v0 : ByteArray) (v1 : Bool) (v2 : Int) : M_leqSent [.agg [V.v (.string v0), V.v (.bool v1), V.v (.int .i64 v2)], .agg [V.v (.string v0), V.v (.bool v1), V.v (.int .i64 v2)]] [] [] = some ⟨V.v (.bool true), [], []⟩ := by
  unfold M_leqSent
  simp [Tryz.func67, Tryz.f67]
theorem E_leqSentS (r : List (List D)) (k : is_dSents r = true) (s : smL r = true) : M_leqSentS [.lst (some 0) r, .lst (some 1) r] [] [] = some ⟨V.v (.bool true), [], []⟩ := by
  obtain ⟨l, rfl⟩ := of_is_dSents k
  have hb : l.length ≤ 1000000000 := by simpa using smL_len s
  unfold M_leqSentS
  simp [Tryz.func33, Tryz.f33]
  rw [loopV_go (fun k => .on ⟨[(5, V.v (.int .i64 ((k : Int)))), (1, .lst (some 1) (dSents l)), (0, .lst (some 0) (dSents l))], [], [], []⟩) l.length ?_ ?_]
  · simp
  · simp
  · intro j hj
    have hw := w64 (j + 1) (by omega)
    have hs := smL_at s (dSents_get hj)
    simp at hs
    simp [hj, hw, hs, dSents_get hj, E_leqSent]
theorem E_leqSession (v0 : Bool) (v1 : Int) (v2 : Int) (v3 : Bool) (v4 : Int) (v5 : Int) (v6 : Int) (r7 : List (List D)) (r8 : List (List D)) (r9 : List (List D)) (v10 : Int) (v11 : Int) (r12 : List (List D)) (v13 : Int) (v14 : Int) (v15 : Int) (v16 : Int) (r17 : List (List D)) (r18 : List (List D)) (r19 : List (List D)) (v20 : Int) (v21 : Int) (v22 : Bool) (v23 : Int) (v24 : Int) (r25 : List (List D)) (v26 : Int) (v27 : Int) (v28 : Bool) (v29 : Int) (r30 : List (List D)) (v31 : Bool) (v32 : Int) (r33 : List (List D)) (v34 : Int) (v35 : Int) (v36 : Int) (v37 : Int) (v38 : Int) (v39 : Int) (v40 : Int) (v41 : Int) (r42 : List (List D)) (r43 : List (List D)) (v44 : Int) (r45 : List (List D)) (v46 : Int) (r47 : List (List D)) (v48 : Int) (r49 : List (List D)) (v50 : Int) (v51 : Int) (r52 : List (List D)) (v53 : ByteArray) (v54 : ByteArray) (r55 : List (List D)) (k7 : is_dNodes r7 = true) (s7 : smL r7 = true) (k8 : is_dLinks r8 = true) (s8 : smL r8 = true) (k9 : is_dTurns r9 = true) (s9 : smL r9 = true) (k12 : is_dEntrys r12 = true) (s12 : smL r12 = true) (k17 : is_dNodes r17 = true) (s17 : smL r17 = true) (k18 : is_dLinks r18 = true) (s18 : smL r18 = true) (k19 : is_dTurns r19 = true) (s19 : smL r19 = true) (k25 : is_ints r25 = true) (s25 : smL r25 = true) (k30 : is_byts r30 = true) (s30 : smL r30 = true) (k33 : is_ints r33 = true) (s33 : smL r33 = true) (k42 : is_dPieces r42 = true) (s42 : smL r42 = true) (k43 : is_dLines r43 = true) (s43 : smL r43 = true) (k45 : is_ints r45 = true) (s45 : smL r45 = true) (k47 : is_ints r47 = true) (s47 : smL r47 = true) (k49 : is_ints r49 = true) (s49 : smL r49 = true) (k52 : is_strs r52 = true) (s52 : smL r52 = true) (k55 : is_dSents r55 = true) (s55 : smL r55 = true) : M_leqSession [.agg [V.v (.bool v0), V.v (.int .i64 v1), V.v (.int .i64 v2), V.v (.bool v3), V.v (.int .i64 v4), V.v (.int .i64 v5), V.v (.int .i64 v6), .lst (some 0) r7, .lst (some 1) r8, .lst (some 2) r9, V.v (.int .i64 v10), V.v (.int .i64 v11), .lst (some 3) r12, V.v (.int .i64 v13), V.v (.int .i64 v14), V.v (.int .i64 v15), V.v (.int .i64 v16), .lst (some 4) r17, .lst (some 5) r18, .lst (some 6) r19, V.v (.int .i64 v20), V.v (.int .i64 v21), V.v (.bool v22), V.v (.int .i64 v23), V.v (.int .i64 v24), .lst (some 7) r25, V.v (.int .i64 v26), V.v (.int .i64 v27), V.v (.bool v28), V.v (.int .i64 v29), .lst (some 8) r30, V.v (.bool v31), V.v (.int .i64 v32), .lst (some 9) r33, V.v (.int .i64 v34), V.v (.int .i64 v35), V.v (.int .i64 v36), V.v (.int .i64 v37), V.v (.int .i64 v38), V.v (.int .i64 v39), V.v (.int .i64 v40), V.v (.int .i64 v41), .lst (some 10) r42, .lst (some 11) r43, V.v (.int .i64 v44), .lst (some 12) r45, V.v (.int .i64 v46), .lst (some 13) r47, V.v (.int .i64 v48), .lst (some 14) r49, V.v (.int .i64 v50), V.v (.int .i64 v51), .lst (some 15) r52, V.v (.string v53), V.v (.string v54), .lst (some 16) r55], .agg [V.v (.bool v0), V.v (.int .i64 v1), V.v (.int .i64 v2), V.v (.bool v3), V.v (.int .i64 v4), V.v (.int .i64 v5), V.v (.int .i64 v6), .lst (some 17) r7, .lst (some 18) r8, .lst (some 19) r9, V.v (.int .i64 v10), V.v (.int .i64 v11), .lst (some 20) r12, V.v (.int .i64 v13), V.v (.int .i64 v14), V.v (.int .i64 v15), V.v (.int .i64 v16), .lst (some 21) r17, .lst (some 22) r18, .lst (some 23) r19, V.v (.int .i64 v20), V.v (.int .i64 v21), V.v (.bool v22), V.v (.int .i64 v23), V.v (.int .i64 v24), .lst (some 24) r25, V.v (.int .i64 v26), V.v (.int .i64 v27), V.v (.bool v28), V.v (.int .i64 v29), .lst (some 25) r30, V.v (.bool v31), V.v (.int .i64 v32), .lst (some 26) r33, V.v (.int .i64 v34), V.v (.int .i64 v35), V.v (.int .i64 v36), V.v (.int .i64 v37), V.v (.int .i64 v38), V.v (.int .i64 v39), V.v (.int .i64 v40), V.v (.int .i64 v41), .lst (some 27) r42, .lst (some 28) r43, V.v (.int .i64 v44), .lst (some 29) r45, V.v (.int .i64 v46), .lst (some 30) r47, V.v (.int .i64 v48), .lst (some 31) r49, V.v (.int .i64 v50), V.v (.int .i64 v51), .lst (some 32) r52, V.v (.string v53), V.v (.string v54), .lst (some 33) r55]] [] [] = some ⟨V.v (.bool true), [], []⟩ := by
  unfold M_leqSession
  simp [Tryz.func13, Tryz.f13, E_leqStore, E_leqDisk, E_leqPaint, E_leqDec, E_leqEd, E_leqHist, E_leqSentS, k7, s7, k8, s8, k9, s9, k12, s12, k17, s17, k18, s18, k19, s19, k25, s25, k30, s30, k33, s33, k42, s42, k43, s43, k45, s45, k47, s47, k49, s49, k52, s52, k55, s55]
theorem E_leqVt (v0 : Int) (v1 : Int) (r2 : List (List D)) (v3 : Int) (v4 : Int) (v5 : Bool) (v6 : Int) (r7 : List (List D)) (r8 : List (List D)) (v9 : Int) (k2 : is_ints r2 = true) (s2 : smL r2 = true) (k7 : is_ints r7 = true) (s7 : smL r7 = true) (k8 : is_byts r8 = true) (s8 : smL r8 = true) : M_leqVt [.agg [V.v (.int .i64 v0), V.v (.int .i64 v1), .lst (some 0) r2, V.v (.int .i64 v3), V.v (.int .i64 v4), V.v (.bool v5), V.v (.int .i64 v6), .lst (some 1) r7, .lst (some 2) r8, V.v (.int .i64 v9)], .agg [V.v (.int .i64 v0), V.v (.int .i64 v1), .lst (some 3) r2, V.v (.int .i64 v3), V.v (.int .i64 v4), V.v (.bool v5), V.v (.int .i64 v6), .lst (some 4) r7, .lst (some 5) r8, V.v (.int .i64 v9)]] [] [] = some ⟨V.v (.bool true), [], []⟩ := by
  unfold M_leqVt
  simp [Tryz.func14, Tryz.f14, E_leqGrid, E_leqIntS, E_leqByteS, k2, s2, k7, s7, k8, s8]
theorem E_leqWorld (v0 : Bool) (v1 : Int) (v2 : Int) (v3 : Bool) (v4 : Int) (v5 : Int) (v6 : Int) (r7 : List (List D)) (r8 : List (List D)) (r9 : List (List D)) (v10 : Int) (v11 : Int) (r12 : List (List D)) (v13 : Int) (v14 : Int) (v15 : Int) (v16 : Int) (r17 : List (List D)) (r18 : List (List D)) (r19 : List (List D)) (v20 : Int) (v21 : Int) (v22 : Bool) (v23 : Int) (v24 : Int) (r25 : List (List D)) (v26 : Int) (v27 : Int) (v28 : Bool) (v29 : Int) (r30 : List (List D)) (v31 : Bool) (v32 : Int) (r33 : List (List D)) (v34 : Int) (v35 : Int) (v36 : Int) (v37 : Int) (v38 : Int) (v39 : Int) (v40 : Int) (v41 : Int) (r42 : List (List D)) (r43 : List (List D)) (v44 : Int) (r45 : List (List D)) (v46 : Int) (r47 : List (List D)) (v48 : Int) (r49 : List (List D)) (v50 : Int) (v51 : Int) (r52 : List (List D)) (v53 : ByteArray) (v54 : ByteArray) (r55 : List (List D)) (v56 : Int) (v57 : Int) (r58 : List (List D)) (v59 : Int) (v60 : Int) (v61 : Bool) (v62 : Int) (r63 : List (List D)) (r64 : List (List D)) (v65 : Int) (k7 : is_dNodes r7 = true) (s7 : smL r7 = true) (k8 : is_dLinks r8 = true) (s8 : smL r8 = true) (k9 : is_dTurns r9 = true) (s9 : smL r9 = true) (k12 : is_dEntrys r12 = true) (s12 : smL r12 = true) (k17 : is_dNodes r17 = true) (s17 : smL r17 = true) (k18 : is_dLinks r18 = true) (s18 : smL r18 = true) (k19 : is_dTurns r19 = true) (s19 : smL r19 = true) (k25 : is_ints r25 = true) (s25 : smL r25 = true) (k30 : is_byts r30 = true) (s30 : smL r30 = true) (k33 : is_ints r33 = true) (s33 : smL r33 = true) (k42 : is_dPieces r42 = true) (s42 : smL r42 = true) (k43 : is_dLines r43 = true) (s43 : smL r43 = true) (k45 : is_ints r45 = true) (s45 : smL r45 = true) (k47 : is_ints r47 = true) (s47 : smL r47 = true) (k49 : is_ints r49 = true) (s49 : smL r49 = true) (k52 : is_strs r52 = true) (s52 : smL r52 = true) (k55 : is_dSents r55 = true) (s55 : smL r55 = true) (k58 : is_ints r58 = true) (s58 : smL r58 = true) (k63 : is_ints r63 = true) (s63 : smL r63 = true) (k64 : is_byts r64 = true) (s64 : smL r64 = true) : M_leqWorld [.agg [V.v (.bool v0), V.v (.int .i64 v1), V.v (.int .i64 v2), V.v (.bool v3), V.v (.int .i64 v4), V.v (.int .i64 v5), V.v (.int .i64 v6), .lst (some 0) r7, .lst (some 1) r8, .lst (some 2) r9, V.v (.int .i64 v10), V.v (.int .i64 v11), .lst (some 3) r12, V.v (.int .i64 v13), V.v (.int .i64 v14), V.v (.int .i64 v15), V.v (.int .i64 v16), .lst (some 4) r17, .lst (some 5) r18, .lst (some 6) r19, V.v (.int .i64 v20), V.v (.int .i64 v21), V.v (.bool v22), V.v (.int .i64 v23), V.v (.int .i64 v24), .lst (some 7) r25, V.v (.int .i64 v26), V.v (.int .i64 v27), V.v (.bool v28), V.v (.int .i64 v29), .lst (some 8) r30, V.v (.bool v31), V.v (.int .i64 v32), .lst (some 9) r33, V.v (.int .i64 v34), V.v (.int .i64 v35), V.v (.int .i64 v36), V.v (.int .i64 v37), V.v (.int .i64 v38), V.v (.int .i64 v39), V.v (.int .i64 v40), V.v (.int .i64 v41), .lst (some 10) r42, .lst (some 11) r43, V.v (.int .i64 v44), .lst (some 12) r45, V.v (.int .i64 v46), .lst (some 13) r47, V.v (.int .i64 v48), .lst (some 14) r49, V.v (.int .i64 v50), V.v (.int .i64 v51), .lst (some 15) r52, V.v (.string v53), V.v (.string v54), .lst (some 16) r55, V.v (.int .i64 v56), V.v (.int .i64 v57), .lst (some 17) r58, V.v (.int .i64 v59), V.v (.int .i64 v60), V.v (.bool v61), V.v (.int .i64 v62), .lst (some 18) r63, .lst (some 19) r64, V.v (.int .i64 v65)], .agg [V.v (.bool v0), V.v (.int .i64 v1), V.v (.int .i64 v2), V.v (.bool v3), V.v (.int .i64 v4), V.v (.int .i64 v5), V.v (.int .i64 v6), .lst (some 20) r7, .lst (some 21) r8, .lst (some 22) r9, V.v (.int .i64 v10), V.v (.int .i64 v11), .lst (some 23) r12, V.v (.int .i64 v13), V.v (.int .i64 v14), V.v (.int .i64 v15), V.v (.int .i64 v16), .lst (some 24) r17, .lst (some 25) r18, .lst (some 26) r19, V.v (.int .i64 v20), V.v (.int .i64 v21), V.v (.bool v22), V.v (.int .i64 v23), V.v (.int .i64 v24), .lst (some 27) r25, V.v (.int .i64 v26), V.v (.int .i64 v27), V.v (.bool v28), V.v (.int .i64 v29), .lst (some 28) r30, V.v (.bool v31), V.v (.int .i64 v32), .lst (some 29) r33, V.v (.int .i64 v34), V.v (.int .i64 v35), V.v (.int .i64 v36), V.v (.int .i64 v37), V.v (.int .i64 v38), V.v (.int .i64 v39), V.v (.int .i64 v40), V.v (.int .i64 v41), .lst (some 30) r42, .lst (some 31) r43, V.v (.int .i64 v44), .lst (some 32) r45, V.v (.int .i64 v46), .lst (some 33) r47, V.v (.int .i64 v48), .lst (some 34) r49, V.v (.int .i64 v50), V.v (.int .i64 v51), .lst (some 35) r52, V.v (.string v53), V.v (.string v54), .lst (some 36) r55, V.v (.int .i64 v56), V.v (.int .i64 v57), .lst (some 37) r58, V.v (.int .i64 v59), V.v (.int .i64 v60), V.v (.bool v61), V.v (.int .i64 v62), .lst (some 38) r63, .lst (some 39) r64, V.v (.int .i64 v65)]] [] [] = some ⟨V.v (.bool true), [], []⟩ := by
  unfold M_leqWorld
  simp [Tryz.func6, Tryz.f6, E_leqSession, E_leqVt, k7, s7, k8, s8, k9, s9, k12, s12, k17, s17, k18, s18, k19, s19, k25, s25, k30, s30, k33, s33, k42, s42, k43, s43, k45, s45, k47, s47, k49, s49, k52, s52, k55, s55, k58, s58, k63, s63, k64, s64]
end Go.Proofs.YtacnbajcignacaaGreat
