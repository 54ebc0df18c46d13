/-
  The laws' mark.. and held.. on empty lists. Printed by gen_laws.py.
-/
import Derived.Test.YtacnbajcignacaaGreatYS
import Derived.Test.YtacnbajcignacaaGreatMean
namespace Go.Proofs.YtacnbajcignacaaGreat
open Go.RowKit
set_option linter.unusedSimpArgs false
set_option linter.unusedVariables false
set_option maxHeartbeats 4000000
set_option maxRecDepth 100000

theorem E0_lmarkByteS (k : Int) : M_lmarkByteS [.own 0, V.v (.int .i64 k)] [] [[]] = some ⟨V.v (.int .i64 k), [], [(0, [])]⟩ := by
  unfold M_lmarkByteS
  simp [Tryz.func46, Tryz.f46]
  rw [loopV_unf]
  simp
theorem E0_lmarkNodeS (k : Int) : M_lmarkNodeS [.own 0, V.v (.int .i64 k)] [] [[]] = some ⟨V.v (.int .i64 k), [], [(0, [])]⟩ := by
  unfold M_lmarkNodeS
  simp [Tryz.func69, Tryz.f69]
  rw [loopV_unf]
  simp
theorem E0_lmarkLinkS (k : Int) : M_lmarkLinkS [.own 0, V.v (.int .i64 k)] [] [[]] = some ⟨V.v (.int .i64 k), [], [(0, [])]⟩ := by
  unfold M_lmarkLinkS
  simp [Tryz.func70, Tryz.f70]
  rw [loopV_unf]
  simp
theorem E0_lmarkTurnS (k : Int) : M_lmarkTurnS [.own 0, V.v (.int .i64 k)] [] [[]] = some ⟨V.v (.int .i64 k), [], [(0, [])]⟩ := by
  unfold M_lmarkTurnS
  simp [Tryz.func71, Tryz.f71]
  rw [loopV_unf]
  simp
theorem E0_lmarkDisk (v0 : Int) (v1 : Int) (v2 : Int) (k : Int) : M_lmarkDisk [.agg [V.v (.int .i64 v0), V.v (.int .i64 v1), V.v (.int .i64 v2), .own 0, .own 1, .own 2], V.v (.int .i64 k)] [] [[], [], []] = some ⟨V.v (.int .i64 k), [], [(0, []), (1, []), (2, [])]⟩ := by
  unfold M_lmarkDisk
  simp [Tryz.func38, Tryz.f38, E0_lmarkNodeS, E0_lmarkLinkS, E0_lmarkTurnS]
theorem E0_lmarkEntryS (k : Int) : M_lmarkEntryS [.own 0, V.v (.int .i64 k)] [] [[]] = some ⟨V.v (.int .i64 k), [], [(0, [])]⟩ := by
  unfold M_lmarkEntryS
  simp [Tryz.func68, Tryz.f68]
  rw [loopV_unf]
  simp
theorem E0_lmarkStore (v0 : Int) (v1 : Int) (v2 : Int) (v6 : Int) (v7 : Int) (v9 : Int) (k : Int) : M_lmarkStore [.agg [V.v (.int .i64 v0), V.v (.int .i64 v1), V.v (.int .i64 v2), .own 0, .own 1, .own 2, V.v (.int .i64 v6), V.v (.int .i64 v7), .own 3, V.v (.int .i64 v9)], V.v (.int .i64 k)] [] [[], [], [], []] = some ⟨V.v (.int .i64 k), [], [(0, []), (1, []), (2, []), (3, [])]⟩ := by
  unfold M_lmarkStore
  simp [Tryz.func37, Tryz.f37, E0_lmarkDisk, E0_lmarkEntryS]
theorem E0_lmarkIntS (k : Int) : M_lmarkIntS [.own 0, V.v (.int .i64 k)] [] [[]] = some ⟨V.v (.int .i64 k), [], [(0, [])]⟩ := by
  unfold M_lmarkIntS
  simp [Tryz.func45, Tryz.f45]
  rw [loopV_unf]
  simp
theorem E0_lmarkGrid (v0 : Int) (v1 : Int) (v3 : Int) (v4 : Int) (v5 : Bool) (k : Int) : M_lmarkGrid [.agg [V.v (.int .i64 v0), V.v (.int .i64 v1), .own 0, V.v (.int .i64 v3), V.v (.int .i64 v4), V.v (.bool v5)], V.v (.int .i64 k)] [] [[]] = some ⟨V.v (.int .i64 k), [], [(0, [])]⟩ := by
  unfold M_lmarkGrid
  simp [Tryz.func44, Tryz.f44, E0_lmarkIntS]
theorem E0_lmarkPaint (v0 : Int) (v1 : Int) (v2 : Bool) (v3 : Int) (v4 : Int) (v6 : Int) (v7 : Int) (v8 : Bool) (k : Int) : M_lmarkPaint [.agg [V.v (.int .i64 v0), V.v (.int .i64 v1), V.v (.bool v2), V.v (.int .i64 v3), V.v (.int .i64 v4), .own 0, V.v (.int .i64 v6), V.v (.int .i64 v7), V.v (.bool v8)], V.v (.int .i64 k)] [] [[]] = some ⟨V.v (.int .i64 k), [], [(0, [])]⟩ := by
  unfold M_lmarkPaint
  simp [Tryz.func39, Tryz.f39, E0_lmarkGrid]
theorem E0_lmarkDec (v0 : Int) (k : Int) : M_lmarkDec [.agg [V.v (.int .i64 v0), .own 0], V.v (.int .i64 k)] [] [[]] = some ⟨V.v (.int .i64 k), [], [(0, [])]⟩ := by
  unfold M_lmarkDec
  simp [Tryz.func40, Tryz.f40, E0_lmarkByteS]
theorem E0_lmarkLine (v1 : Int) (k : Int) : M_lmarkLine [.agg [.own 0, V.v (.int .i64 v1)], V.v (.int .i64 k)] [] [[]] = some ⟨V.v (.int .i64 k), [], [(0, [])]⟩ := by
  unfold M_lmarkLine
  simp [Tryz.func72, Tryz.f72, E0_lmarkIntS]
theorem E0_lmarkPieceS (k : Int) : M_lmarkPieceS [.own 0, V.v (.int .i64 k)] [] [[]] = some ⟨V.v (.int .i64 k), [], [(0, [])]⟩ := by
  unfold M_lmarkPieceS
  simp [Tryz.func95, Tryz.f95]
  rw [loopV_unf]
  simp
theorem E0_lmarkRing  (k : Int) : M_lmarkRing [.agg [.own 0], V.v (.int .i64 k)] [] [[]] = some ⟨V.v (.int .i64 k), [], [(0, [])]⟩ := by
  unfold M_lmarkRing
  simp [Tryz.func73, Tryz.f73, E0_lmarkPieceS]
theorem E0_lmarkLineS (k : Int) : M_lmarkLineS [.own 0, V.v (.int .i64 k)] [] [[]] = some ⟨V.v (.int .i64 k), [], [(0, [])]⟩ := by
  unfold M_lmarkLineS
  simp [Tryz.func96, Tryz.f96]
  rw [loopV_unf]
  simp
theorem E0_lmarkUndo  (k : Int) : M_lmarkUndo [.agg [.own 0], V.v (.int .i64 k)] [] [[]] = some ⟨V.v (.int .i64 k), [], [(0, [])]⟩ := by
  unfold M_lmarkUndo
  simp [Tryz.func74, Tryz.f74, E0_lmarkLineS]
theorem E0_lmarkEd (v0 : Bool) (v1 : Int) (v3 : Int) (v4 : Int) (v5 : Int) (v6 : Int) (v7 : Int) (v8 : Int) (v9 : Int) (v10 : Int) (v13 : Int) (v15 : Int) (v17 : Int) (v19 : Int) (k : Int) : M_lmarkEd [.agg [V.v (.bool v0), V.v (.int .i64 v1), .own 0, V.v (.int .i64 v3), V.v (.int .i64 v4), V.v (.int .i64 v5), V.v (.int .i64 v6), V.v (.int .i64 v7), V.v (.int .i64 v8), V.v (.int .i64 v9), V.v (.int .i64 v10), .own 1, .own 2, V.v (.int .i64 v13), .own 3, V.v (.int .i64 v15), .own 4, V.v (.int .i64 v17), .own 5, V.v (.int .i64 v19)], V.v (.int .i64 k)] [] [[], [], [], [], [], []] = some ⟨V.v (.int .i64 k), [], [(0, []), (1, []), (2, []), (3, []), (4, []), (5, [])]⟩ := by
  unfold M_lmarkEd
  simp [Tryz.func41, Tryz.f41, E0_lmarkLine, E0_lmarkRing, E0_lmarkUndo, E0_lmarkIntS]
theorem E0_lmarkStringS (k : Int) : M_lmarkStringS [.own 0, V.v (.int .i64 k)] [] [[]] = some ⟨V.v (.int .i64 k), [], [(0, [])]⟩ := by
  unfold M_lmarkStringS
  simp [Tryz.func75, Tryz.f75]
  rw [loopV_unf]
  simp
theorem E0_lmarkHist (v0 : Int) (k : Int) : M_lmarkHist [.agg [V.v (.int .i64 v0), .own 0], V.v (.int .i64 k)] [] [[]] = some ⟨V.v (.int .i64 k), [], [(0, [])]⟩ := by
  unfold M_lmarkHist
  simp [Tryz.func42, Tryz.f42, E0_lmarkStringS]
theorem E0_lmarkSentS (k : Int) : M_lmarkSentS [.own 0, V.v (.int .i64 k)] [] [[]] = some ⟨V.v (.int .i64 k), [], [(0, [])]⟩ := by
  unfold M_lmarkSentS
  simp [Tryz.func43, Tryz.f43]
  rw [loopV_unf]
  simp
theorem E0_lmarkSession (v0 : Bool) (v1 : Int) (v2 : Int) (v3 : Bool) (v4 : Int) (v5 : Int) (v6 : Int) (v10 : Int) (v11 : Int) (v13 : Int) (v14 : Int) (v15 : Int) (v16 : Int) (v20 : Int) (v21 : Int) (v22 : Bool) (v23 : Int) (v24 : Int) (v26 : Int) (v27 : Int) (v28 : Bool) (v29 : Int) (v31 : Bool) (v32 : Int) (v34 : Int) (v35 : Int) (v36 : Int) (v37 : Int) (v38 : Int) (v39 : Int) (v40 : Int) (v41 : Int) (v44 : Int) (v46 : Int) (v48 : Int) (v50 : Int) (v51 : Int) (v53 : ByteArray) (v54 : ByteArray) (k : Int) : M_lmarkSession [.agg [V.v (.bool v0), V.v (.int .i64 v1), V.v (.int .i64 v2), V.v (.bool v3), V.v (.int .i64 v4), V.v (.int .i64 v5), V.v (.int .i64 v6), .own 0, .own 1, .own 2, V.v (.int .i64 v10), V.v (.int .i64 v11), .own 3, V.v (.int .i64 v13), V.v (.int .i64 v14), V.v (.int .i64 v15), V.v (.int .i64 v16), .own 4, .own 5, .own 6, V.v (.int .i64 v20), V.v (.int .i64 v21), V.v (.bool v22), V.v (.int .i64 v23), V.v (.int .i64 v24), .own 7, V.v (.int .i64 v26), V.v (.int .i64 v27), V.v (.bool v28), V.v (.int .i64 v29), .own 8, V.v (.bool v31), V.v (.int .i64 v32), .own 9, V.v (.int .i64 v34), V.v (.int .i64 v35), V.v (.int .i64 v36), V.v (.int .i64 v37), V.v (.int .i64 v38), V.v (.int .i64 v39), V.v (.int .i64 v40), V.v (.int .i64 v41), .own 10, .own 11, V.v (.int .i64 v44), .own 12, V.v (.int .i64 v46), .own 13, V.v (.int .i64 v48), .own 14, V.v (.int .i64 v50), V.v (.int .i64 v51), .own 15, V.v (.string v53), V.v (.string v54), .own 16], V.v (.int .i64 k)] [] [[], [], [], [], [], [], [], [], [], [], [], [], [], [], [], [], []] = some ⟨V.v (.int .i64 k), [], [(0, []), (1, []), (2, []), (3, []), (4, []), (5, []), (6, []), (7, []), (8, []), (9, []), (10, []), (11, []), (12, []), (13, []), (14, []), (15, []), (16, [])]⟩ := by
  unfold M_lmarkSession
  simp [Tryz.func15, Tryz.f15, E0_lmarkStore, E0_lmarkDisk, E0_lmarkPaint, E0_lmarkDec, E0_lmarkEd, E0_lmarkHist, E0_lmarkSentS]
theorem E0_lmarkVt (v0 : Int) (v1 : Int) (v3 : Int) (v4 : Int) (v5 : Bool) (v6 : Int) (v9 : Int) (k : Int) : M_lmarkVt [.agg [V.v (.int .i64 v0), V.v (.int .i64 v1), .own 0, V.v (.int .i64 v3), V.v (.int .i64 v4), V.v (.bool v5), V.v (.int .i64 v6), .own 1, .own 2, V.v (.int .i64 v9)], V.v (.int .i64 k)] [] [[], [], []] = some ⟨V.v (.int .i64 k), [], [(0, []), (1, []), (2, [])]⟩ := by
  unfold M_lmarkVt
  simp [Tryz.func16, Tryz.f16, E0_lmarkGrid, E0_lmarkIntS, E0_lmarkByteS]
theorem E0_lmarkWorld (v0 : Bool) (v1 : Int) (v2 : Int) (v3 : Bool) (v4 : Int) (v5 : Int) (v6 : Int) (v10 : Int) (v11 : Int) (v13 : Int) (v14 : Int) (v15 : Int) (v16 : Int) (v20 : Int) (v21 : Int) (v22 : Bool) (v23 : Int) (v24 : Int) (v26 : Int) (v27 : Int) (v28 : Bool) (v29 : Int) (v31 : Bool) (v32 : Int) (v34 : Int) (v35 : Int) (v36 : Int) (v37 : Int) (v38 : Int) (v39 : Int) (v40 : Int) (v41 : Int) (v44 : Int) (v46 : Int) (v48 : Int) (v50 : Int) (v51 : Int) (v53 : ByteArray) (v54 : ByteArray) (v56 : Int) (v57 : Int) (v59 : Int) (v60 : Int) (v61 : Bool) (v62 : Int) (v65 : Int) (k : Int) : M_lmarkWorld [.agg [V.v (.bool v0), V.v (.int .i64 v1), V.v (.int .i64 v2), V.v (.bool v3), V.v (.int .i64 v4), V.v (.int .i64 v5), V.v (.int .i64 v6), .own 0, .own 1, .own 2, V.v (.int .i64 v10), V.v (.int .i64 v11), .own 3, V.v (.int .i64 v13), V.v (.int .i64 v14), V.v (.int .i64 v15), V.v (.int .i64 v16), .own 4, .own 5, .own 6, V.v (.int .i64 v20), V.v (.int .i64 v21), V.v (.bool v22), V.v (.int .i64 v23), V.v (.int .i64 v24), .own 7, V.v (.int .i64 v26), V.v (.int .i64 v27), V.v (.bool v28), V.v (.int .i64 v29), .own 8, V.v (.bool v31), V.v (.int .i64 v32), .own 9, V.v (.int .i64 v34), V.v (.int .i64 v35), V.v (.int .i64 v36), V.v (.int .i64 v37), V.v (.int .i64 v38), V.v (.int .i64 v39), V.v (.int .i64 v40), V.v (.int .i64 v41), .own 10, .own 11, V.v (.int .i64 v44), .own 12, V.v (.int .i64 v46), .own 13, V.v (.int .i64 v48), .own 14, V.v (.int .i64 v50), V.v (.int .i64 v51), .own 15, V.v (.string v53), V.v (.string v54), .own 16, V.v (.int .i64 v56), V.v (.int .i64 v57), .own 17, V.v (.int .i64 v59), V.v (.int .i64 v60), V.v (.bool v61), V.v (.int .i64 v62), .own 18, .own 19, V.v (.int .i64 v65)], V.v (.int .i64 k)] [] [[], [], [], [], [], [], [], [], [], [], [], [], [], [], [], [], [], [], [], []] = some ⟨V.v (.int .i64 k), [], [(0, []), (1, []), (2, []), (3, []), (4, []), (5, []), (6, []), (7, []), (8, []), (9, []), (10, []), (11, []), (12, []), (13, []), (14, []), (15, []), (16, []), (17, []), (18, []), (19, [])]⟩ := by
  unfold M_lmarkWorld
  simp [Tryz.func7, Tryz.f7, E0_lmarkSession, E0_lmarkVt]
theorem E0_lheldByteS (k : Int) : M_lheldByteS [.lst (some 0) [], V.v (.int .i64 k)] [] [] = some ⟨V.v (.int .i64 k), [], []⟩ := by
  unfold M_lheldByteS
  simp [Tryz.func56, Tryz.f56]
  rw [loopV_unf]
  simp
theorem E0_lheldNodeS (k : Int) : M_lheldNodeS [.lst (some 0) [], V.v (.int .i64 k)] [] [] = some ⟨V.v (.int .i64 k), [], []⟩ := by
  unfold M_lheldNodeS
  simp [Tryz.func78, Tryz.f78]
  rw [loopV_unf]
  simp
theorem E0_lheldLinkS (k : Int) : M_lheldLinkS [.lst (some 0) [], V.v (.int .i64 k)] [] [] = some ⟨V.v (.int .i64 k), [], []⟩ := by
  unfold M_lheldLinkS
  simp [Tryz.func79, Tryz.f79]
  rw [loopV_unf]
  simp
theorem E0_lheldTurnS (k : Int) : M_lheldTurnS [.lst (some 0) [], V.v (.int .i64 k)] [] [] = some ⟨V.v (.int .i64 k), [], []⟩ := by
  unfold M_lheldTurnS
  simp [Tryz.func80, Tryz.f80]
  rw [loopV_unf]
  simp
theorem E0_lheldDisk (v0 : Int) (v1 : Int) (v2 : Int) (k : Int) (hk : ¬ k < 0) : M_lheldDisk [.agg [V.v (.int .i64 v0), V.v (.int .i64 v1), V.v (.int .i64 v2), .lst (some 0) [], .lst (some 1) [], .lst (some 2) []], V.v (.int .i64 k)] [] [] = some ⟨V.v (.int .i64 k), [], []⟩ := by
  unfold M_lheldDisk
  simp [Tryz.func48, Tryz.f48, E0_lheldNodeS, E0_lheldLinkS, E0_lheldTurnS, hk]
theorem E0_lheldEntryS (k : Int) : M_lheldEntryS [.lst (some 0) [], V.v (.int .i64 k)] [] [] = some ⟨V.v (.int .i64 k), [], []⟩ := by
  unfold M_lheldEntryS
  simp [Tryz.func77, Tryz.f77]
  rw [loopV_unf]
  simp
theorem E0_lheldStore (v0 : Int) (v1 : Int) (v2 : Int) (v6 : Int) (v7 : Int) (v9 : Int) (k : Int) (hk : ¬ k < 0) : M_lheldStore [.agg [V.v (.int .i64 v0), V.v (.int .i64 v1), V.v (.int .i64 v2), .lst (some 0) [], .lst (some 1) [], .lst (some 2) [], V.v (.int .i64 v6), V.v (.int .i64 v7), .lst (some 3) [], V.v (.int .i64 v9)], V.v (.int .i64 k)] [] [] = some ⟨V.v (.int .i64 k), [], []⟩ := by
  unfold M_lheldStore
  simp [Tryz.func47, Tryz.f47, E0_lheldDisk, E0_lheldEntryS, hk]
theorem E0_lheldIntS (k : Int) : M_lheldIntS [.lst (some 0) [], V.v (.int .i64 k)] [] [] = some ⟨V.v (.int .i64 k), [], []⟩ := by
  unfold M_lheldIntS
  simp [Tryz.func55, Tryz.f55]
  rw [loopV_unf]
  simp
theorem E0_lheldGrid (v0 : Int) (v1 : Int) (v3 : Int) (v4 : Int) (v5 : Bool) (k : Int) (hk : ¬ k < 0) : M_lheldGrid [.agg [V.v (.int .i64 v0), V.v (.int .i64 v1), .lst (some 0) [], V.v (.int .i64 v3), V.v (.int .i64 v4), V.v (.bool v5)], V.v (.int .i64 k)] [] [] = some ⟨V.v (.int .i64 k), [], []⟩ := by
  unfold M_lheldGrid
  simp [Tryz.func54, Tryz.f54, E0_lheldIntS, hk]
theorem E0_lheldPaint (v0 : Int) (v1 : Int) (v2 : Bool) (v3 : Int) (v4 : Int) (v6 : Int) (v7 : Int) (v8 : Bool) (k : Int) (hk : ¬ k < 0) : M_lheldPaint [.agg [V.v (.int .i64 v0), V.v (.int .i64 v1), V.v (.bool v2), V.v (.int .i64 v3), V.v (.int .i64 v4), .lst (some 0) [], V.v (.int .i64 v6), V.v (.int .i64 v7), V.v (.bool v8)], V.v (.int .i64 k)] [] [] = some ⟨V.v (.int .i64 k), [], []⟩ := by
  unfold M_lheldPaint
  simp [Tryz.func49, Tryz.f49, E0_lheldGrid, hk]
theorem E0_lheldDec (v0 : Int) (k : Int) (hk : ¬ k < 0) : M_lheldDec [.agg [V.v (.int .i64 v0), .lst (some 0) []], V.v (.int .i64 k)] [] [] = some ⟨V.v (.int .i64 k), [], []⟩ := by
  unfold M_lheldDec
  simp [Tryz.func50, Tryz.f50, E0_lheldByteS, hk]
theorem E0_lheldLine (v1 : Int) (k : Int) (hk : ¬ k < 0) : M_lheldLine [.agg [.lst (some 0) [], V.v (.int .i64 v1)], V.v (.int .i64 k)] [] [] = some ⟨V.v (.int .i64 k), [], []⟩ := by
  unfold M_lheldLine
  simp [Tryz.func81, Tryz.f81, E0_lheldIntS, hk]
theorem E0_lheldPieceS (k : Int) : M_lheldPieceS [.lst (some 0) [], V.v (.int .i64 k)] [] [] = some ⟨V.v (.int .i64 k), [], []⟩ := by
  unfold M_lheldPieceS
  simp [Tryz.func97, Tryz.f97]
  rw [loopV_unf]
  simp
theorem E0_lheldRing  (k : Int) (hk : ¬ k < 0) : M_lheldRing [.agg [.lst (some 0) []], V.v (.int .i64 k)] [] [] = some ⟨V.v (.int .i64 k), [], []⟩ := by
  unfold M_lheldRing
  simp [Tryz.func82, Tryz.f82, E0_lheldPieceS, hk]
theorem E0_lheldLineS (k : Int) : M_lheldLineS [.lst (some 0) [], V.v (.int .i64 k)] [] [] = some ⟨V.v (.int .i64 k), [], []⟩ := by
  unfold M_lheldLineS
  simp [Tryz.func98, Tryz.f98]
  rw [loopV_unf]
  simp
theorem E0_lheldUndo  (k : Int) (hk : ¬ k < 0) : M_lheldUndo [.agg [.lst (some 0) []], V.v (.int .i64 k)] [] [] = some ⟨V.v (.int .i64 k), [], []⟩ := by
  unfold M_lheldUndo
  simp [Tryz.func83, Tryz.f83, E0_lheldLineS, hk]
theorem E0_lheldEd (v0 : Bool) (v1 : Int) (v3 : Int) (v4 : Int) (v5 : Int) (v6 : Int) (v7 : Int) (v8 : Int) (v9 : Int) (v10 : Int) (v13 : Int) (v15 : Int) (v17 : Int) (v19 : Int) (k : Int) (hk : ¬ k < 0) : M_lheldEd [.agg [V.v (.bool v0), V.v (.int .i64 v1), .lst (some 0) [], V.v (.int .i64 v3), V.v (.int .i64 v4), V.v (.int .i64 v5), V.v (.int .i64 v6), V.v (.int .i64 v7), V.v (.int .i64 v8), V.v (.int .i64 v9), V.v (.int .i64 v10), .lst (some 1) [], .lst (some 2) [], V.v (.int .i64 v13), .lst (some 3) [], V.v (.int .i64 v15), .lst (some 4) [], V.v (.int .i64 v17), .lst (some 5) [], V.v (.int .i64 v19)], V.v (.int .i64 k)] [] [] = some ⟨V.v (.int .i64 k), [], []⟩ := by
  unfold M_lheldEd
  simp [Tryz.func51, Tryz.f51, E0_lheldLine, E0_lheldRing, E0_lheldUndo, E0_lheldIntS, hk]
theorem E0_lheldStringS (k : Int) : M_lheldStringS [.lst (some 0) [], V.v (.int .i64 k)] [] [] = some ⟨V.v (.int .i64 k), [], []⟩ := by
  unfold M_lheldStringS
  simp [Tryz.func84, Tryz.f84]
  rw [loopV_unf]
  simp
theorem E0_lheldHist (v0 : Int) (k : Int) (hk : ¬ k < 0) : M_lheldHist [.agg [V.v (.int .i64 v0), .lst (some 0) []], V.v (.int .i64 k)] [] [] = some ⟨V.v (.int .i64 k), [], []⟩ := by
  unfold M_lheldHist
  simp [Tryz.func52, Tryz.f52, E0_lheldStringS, hk]
theorem E0_lheldSentS (k : Int) : M_lheldSentS [.lst (some 0) [], V.v (.int .i64 k)] [] [] = some ⟨V.v (.int .i64 k), [], []⟩ := by
  unfold M_lheldSentS
  simp [Tryz.func53, Tryz.f53]
  rw [loopV_unf]
  simp
theorem E0_lheldSession (v0 : Bool) (v1 : Int) (v2 : Int) (v3 : Bool) (v4 : Int) (v5 : Int) (v6 : Int) (v10 : Int) (v11 : Int) (v13 : Int) (v14 : Int) (v15 : Int) (v16 : Int) (v20 : Int) (v21 : Int) (v22 : Bool) (v23 : Int) (v24 : Int) (v26 : Int) (v27 : Int) (v28 : Bool) (v29 : Int) (v31 : Bool) (v32 : Int) (v34 : Int) (v35 : Int) (v36 : Int) (v37 : Int) (v38 : Int) (v39 : Int) (v40 : Int) (v41 : Int) (v44 : Int) (v46 : Int) (v48 : Int) (v50 : Int) (v51 : Int) (v53 : ByteArray) (v54 : ByteArray) (k : Int) (hk : ¬ k < 0) : M_lheldSession [.agg [V.v (.bool v0), V.v (.int .i64 v1), V.v (.int .i64 v2), V.v (.bool v3), V.v (.int .i64 v4), V.v (.int .i64 v5), V.v (.int .i64 v6), .lst (some 0) [], .lst (some 1) [], .lst (some 2) [], V.v (.int .i64 v10), V.v (.int .i64 v11), .lst (some 3) [], V.v (.int .i64 v13), V.v (.int .i64 v14), V.v (.int .i64 v15), V.v (.int .i64 v16), .lst (some 4) [], .lst (some 5) [], .lst (some 6) [], V.v (.int .i64 v20), V.v (.int .i64 v21), V.v (.bool v22), V.v (.int .i64 v23), V.v (.int .i64 v24), .lst (some 7) [], V.v (.int .i64 v26), V.v (.int .i64 v27), V.v (.bool v28), V.v (.int .i64 v29), .lst (some 8) [], V.v (.bool v31), V.v (.int .i64 v32), .lst (some 9) [], V.v (.int .i64 v34), V.v (.int .i64 v35), V.v (.int .i64 v36), V.v (.int .i64 v37), V.v (.int .i64 v38), V.v (.int .i64 v39), V.v (.int .i64 v40), V.v (.int .i64 v41), .lst (some 10) [], .lst (some 11) [], V.v (.int .i64 v44), .lst (some 12) [], V.v (.int .i64 v46), .lst (some 13) [], V.v (.int .i64 v48), .lst (some 14) [], V.v (.int .i64 v50), V.v (.int .i64 v51), .lst (some 15) [], V.v (.string v53), V.v (.string v54), .lst (some 16) []], V.v (.int .i64 k)] [] [] = some ⟨V.v (.int .i64 k), [], []⟩ := by
  unfold M_lheldSession
  simp [Tryz.func17, Tryz.f17, E0_lheldStore, E0_lheldDisk, E0_lheldPaint, E0_lheldDec, E0_lheldEd, E0_lheldHist, E0_lheldSentS, hk]
theorem E0_lheldVt (v0 : Int) (v1 : Int) (v3 : Int) (v4 : Int) (v5 : Bool) (v6 : Int) (v9 : Int) (k : Int) (hk : ¬ k < 0) : M_lheldVt [.agg [V.v (.int .i64 v0), V.v (.int .i64 v1), .lst (some 0) [], V.v (.int .i64 v3), V.v (.int .i64 v4), V.v (.bool v5), V.v (.int .i64 v6), .lst (some 1) [], .lst (some 2) [], V.v (.int .i64 v9)], V.v (.int .i64 k)] [] [] = some ⟨V.v (.int .i64 k), [], []⟩ := by
  unfold M_lheldVt
  simp [Tryz.func18, Tryz.f18, E0_lheldGrid, E0_lheldIntS, E0_lheldByteS, hk]
theorem E0_lheldWorld (v0 : Bool) (v1 : Int) (v2 : Int) (v3 : Bool) (v4 : Int) (v5 : Int) (v6 : Int) (v10 : Int) (v11 : Int) (v13 : Int) (v14 : Int) (v15 : Int) (v16 : Int) (v20 : Int) (v21 : Int) (v22 : Bool) (v23 : Int) (v24 : Int) (v26 : Int) (v27 : Int) (v28 : Bool) (v29 : Int) (v31 : Bool) (v32 : Int) (v34 : Int) (v35 : Int) (v36 : Int) (v37 : Int) (v38 : Int) (v39 : Int) (v40 : Int) (v41 : Int) (v44 : Int) (v46 : Int) (v48 : Int) (v50 : Int) (v51 : Int) (v53 : ByteArray) (v54 : ByteArray) (v56 : Int) (v57 : Int) (v59 : Int) (v60 : Int) (v61 : Bool) (v62 : Int) (v65 : Int) (k : Int) (hk : ¬ k < 0) : M_lheldWorld [.agg [V.v (.bool v0), V.v (.int .i64 v1), V.v (.int .i64 v2), V.v (.bool v3), V.v (.int .i64 v4), V.v (.int .i64 v5), V.v (.int .i64 v6), .lst (some 0) [], .lst (some 1) [], .lst (some 2) [], V.v (.int .i64 v10), V.v (.int .i64 v11), .lst (some 3) [], V.v (.int .i64 v13), V.v (.int .i64 v14), V.v (.int .i64 v15), V.v (.int .i64 v16), .lst (some 4) [], .lst (some 5) [], .lst (some 6) [], V.v (.int .i64 v20), V.v (.int .i64 v21), V.v (.bool v22), V.v (.int .i64 v23), V.v (.int .i64 v24), .lst (some 7) [], V.v (.int .i64 v26), V.v (.int .i64 v27), V.v (.bool v28), V.v (.int .i64 v29), .lst (some 8) [], V.v (.bool v31), V.v (.int .i64 v32), .lst (some 9) [], V.v (.int .i64 v34), V.v (.int .i64 v35), V.v (.int .i64 v36), V.v (.int .i64 v37), V.v (.int .i64 v38), V.v (.int .i64 v39), V.v (.int .i64 v40), V.v (.int .i64 v41), .lst (some 10) [], .lst (some 11) [], V.v (.int .i64 v44), .lst (some 12) [], V.v (.int .i64 v46), .lst (some 13) [], V.v (.int .i64 v48), .lst (some 14) [], V.v (.int .i64 v50), V.v (.int .i64 v51), .lst (some 15) [], V.v (.string v53), V.v (.string v54), .lst (some 16) [], V.v (.int .i64 v56), V.v (.int .i64 v57), .lst (some 17) [], V.v (.int .i64 v59), V.v (.int .i64 v60), V.v (.bool v61), V.v (.int .i64 v62), .lst (some 18) [], .lst (some 19) [], V.v (.int .i64 v65)], V.v (.int .i64 k)] [] [] = some ⟨V.v (.int .i64 k), [], []⟩ := by
  unfold M_lheldWorld
  simp [Tryz.func8, Tryz.f8, E0_lheldSession, E0_lheldVt, hk]
end Go.Proofs.YtacnbajcignacaaGreat
