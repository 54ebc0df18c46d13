/-
  New painters, disks, sessions: what the functions compute.
-/
import Derived.Test.YtacnbajcignacaaGreatYGrid
namespace Go.Proofs.YtacnbajcignacaaGreat
open Go.RowKit
set_option linter.unusedSimpArgs false
set_option linter.unusedVariables false
set_option maxHeartbeats 8000000
set_option maxRecDepth 100000

theorem E_sGridNew (w h : Int) (hn : gridNewOk w h = true) : M_sGridNew [V.v (.int .i64 w), V.v (.int .i64 h)] [] [] = some ⟨.tup [vGrid w h (.own 0) 0 0 false, V.v (.bool true)], [], [(0, ints (blanks (w * h).toNat))]⟩ := by
  unfold M_sGridNew
  obtain ⟨a, b, h3, hp⟩ := gridNewOk_of hn
  have h1 : ¬ w < 2 := by omega
  have h2 : ¬ 200 < w := by omega
  have h4 : ¬ h < 1 := by omega
  have h5 : ¬ 200 < h := by omega
  have h6 : ¬ (8000 < w * h) := by omega
  have hw := w64 (w * h) (by omega)
  obtain ⟨n, hn⟩ := Int.eq_ofNat_of_zero_le hp
  simp [Tryz.func22, Tryz.f22, h1, h2, h4, h5, hw, h6, vGrid]
  have hw9 := w64 (n : Int) (by omega)
  rw [loopV_go (fun k => .on ⟨[(7, V.v (.int .i64 ((k : Int)))), (6, .ref 6 0), (4, .ref 4 0), (1, V.v (.int .i64 h)), (0, V.v (.int .i64 w))], [(6, [V.v (.int .i64 w), V.v (.int .i64 h), .own 2000000000, V.v (.int .i64 0), V.v (.int .i64 0), V.v (.bool false)]), (4, [V.v (.int .i64 0), V.v (.int .i64 0), .own 2000000001, V.v (.int .i64 0), V.v (.int .i64 0), V.v (.bool false)])], [(2000000001, []), (2000000000, ints (blanks k))], []⟩) n ?_ ?_]
  · simp [hn, hw9]
  · simp [blanks, ints_nil]
  · intro j hj
    have hw2 := w64 (j + 1) (by omega)
    simp [hn, hw9, hj, hw2, blanks_len, ← blanks_snoc]
    simp (disch := omega) only [grd_pos]
    simp [hw2, blanks_snoc]
theorem E_sl29None0 (x y w h : Int) (wr : Bool) : M_sl29None [.agg [V.v (.int .i64 w), V.v (.int .i64 h), .lst (some 0) [], V.v (.int .i64 x), V.v (.int .i64 y), V.v (.bool wr)]] [] [] = some ⟨V.v (.bool (w == 0 && h == 0 && x == 0 && y == 0 && !wr)), [], []⟩ := by
  unfold M_sl29None
  by_cases h1 : w = 0 <;> by_cases h2 : h = 0 <;> by_cases h3 : x = 0 <;> by_cases h4 : y = 0 <;> simp [Tryz.func85, Tryz.f85, h1, h2, h3, h4]
theorem E_isameInts0 : M_isameInts [.lst (some 0) [], .lst (some 1) []] [] [] = some ⟨V.v (.bool true), [], []⟩ := by
  unfold M_isameInts
  simp [Tryz.func101, Tryz.f101]
  rw [loopV_unf]
  simp
theorem E_iSameGrid0 : M_iSameGrid [.agg [V.v (.int .i64 0), V.v (.int .i64 0), .lst (some 0) ([]), V.v (.int .i64 0), V.v (.int .i64 0), V.v (.bool false)], .agg [V.v (.int .i64 0), V.v (.int .i64 0), .lst (some 1) ([]), V.v (.int .i64 0), V.v (.int .i64 0), V.v (.bool false)]] [] [] = some ⟨V.v (.bool true), [], []⟩ := by
  unfold M_iSameGrid
  simp [Tryz.func88, Tryz.f88, E_isameInts0]
theorem E_iPaintOk0 (w h : Int) : M_iPaintOk [.agg [V.v (.int .i64 w), V.v (.int .i64 h), V.v (.bool false), V.v (.int .i64 0), V.v (.int .i64 0), .lst (some 0) ([]), V.v (.int .i64 0), V.v (.int .i64 0), V.v (.bool false)]] [] [] = some ⟨V.v (.bool (gridNewOk w h)), [], []⟩ := by
  unfold M_iPaintOk
  by_cases hg : gridNewOk w h = true
  · simp [Tryz.func58, Tryz.f58, E_iGridNew _ _ hg, vGrid, E_iSameGrid0, hg]
  · simp only [Bool.not_eq_true] at hg
    simp [Tryz.func58, Tryz.f58, E_iGridNew_no _ _ hg, vGrid, E_iSameGrid0, hg]
theorem E_sPaintOk0 (w h : Int) : M_sPaintOk [.agg [V.v (.int .i64 w), V.v (.int .i64 h), V.v (.bool false), V.v (.int .i64 0), V.v (.int .i64 0), .lst (some 0) ([]), V.v (.int .i64 0), V.v (.int .i64 0), V.v (.bool false)]] [] [] = some ⟨V.v (.bool (gridNewOk w h)), [], []⟩ := by
  unfold M_sPaintOk
  by_cases hg : gridNewOk w h = true
  · simp [Tryz.func57, Tryz.f57, E_sGridNew _ _ hg, vGrid, E_sl29None0, hg]
  · simp only [Bool.not_eq_true] at hg
    simp [Tryz.func57, Tryz.f57, E_sGridNew_no _ _ hg, vGrid, E_sl29None0, hg]
theorem E_iPaintNew (w h : Int) (hg : gridNewOk w h = true) : M_iPaintNew [V.v (.int .i64 w), V.v (.int .i64 h)] [] [] = some ⟨.tup [.agg [V.v (.int .i64 w), V.v (.int .i64 h), V.v (.bool false), V.v (.int .i64 0), V.v (.int .i64 0), .own 0, V.v (.int .i64 0), V.v (.int .i64 0), V.v (.bool false)], V.v (.bool true)], [], [(0, [])]⟩ := by
  unfold M_iPaintNew
  simp [Tryz.func23, Tryz.f23, E_iPaintOk0, hg]
theorem E_iPaintNew_no (w h : Int) (hg : gridNewOk w h = false) : M_iPaintNew [V.v (.int .i64 w), V.v (.int .i64 h)] [] [] = some ⟨.tup [.agg [V.v (.int .i64 0), V.v (.int .i64 0), V.v (.bool false), V.v (.int .i64 0), V.v (.int .i64 0), .own 0, V.v (.int .i64 0), V.v (.int .i64 0), V.v (.bool false)], V.v (.bool false)], [], [(0, [])]⟩ := by
  unfold M_iPaintNew
  simp [Tryz.func23, Tryz.f23, E_iPaintOk0, hg]
theorem E_sPaintNew (w h : Int) (hg : gridNewOk w h = true) : M_sPaintNew [V.v (.int .i64 w), V.v (.int .i64 h)] [] [] = some ⟨.tup [.agg [V.v (.int .i64 w), V.v (.int .i64 h), V.v (.bool false), V.v (.int .i64 0), V.v (.int .i64 0), .own 0, V.v (.int .i64 0), V.v (.int .i64 0), V.v (.bool false)], V.v (.bool true)], [], [(0, [])]⟩ := by
  unfold M_sPaintNew
  simp [Tryz.func19, Tryz.f19, E_sPaintOk0, hg]
theorem E_sPaintNew_no (w h : Int) (hg : gridNewOk w h = false) : M_sPaintNew [V.v (.int .i64 w), V.v (.int .i64 h)] [] [] = some ⟨.tup [.agg [V.v (.int .i64 0), V.v (.int .i64 0), V.v (.bool false), V.v (.int .i64 0), V.v (.int .i64 0), .own 0, V.v (.int .i64 0), V.v (.int .i64 0), V.v (.bool false)], V.v (.bool false)], [], [(0, [])]⟩ := by
  unfold M_sPaintNew
  simp [Tryz.func19, Tryz.f19, E_sPaintOk0, hg]
theorem E_iDiskNew (r : Int) (h : inR r 0 60000 = true) : M_iDiskNew [V.v (.int .i64 r)] [] [] = some ⟨.tup [.agg [V.v (.int .i64 r), V.v (.int .i64 (-1)), V.v (.int .i64 1), .own 0, .own 1, .own 2], V.v (.bool true)], [], [(0, []), (1, []), (2, [])]⟩ := by
  unfold M_iDiskNew
  simp [Tryz.func24, Tryz.f24, E_iin, h]
theorem E_iDiskNew_no (r : Int) (h : inR r 0 60000 = false) : M_iDiskNew [V.v (.int .i64 r)] [] [] = some ⟨.tup [.agg [V.v (.int .i64 0), V.v (.int .i64 0), V.v (.int .i64 0), .own 0, .own 1, .own 2], V.v (.bool false)], [], [(0, []), (1, []), (2, [])]⟩ := by
  unfold M_iDiskNew
  simp [Tryz.func24, Tryz.f24, E_iin, h]
theorem E_sDiskNew (r : Int) (h : inR r 0 60000 = true) : M_sDiskNew [V.v (.int .i64 r)] [] [] = some ⟨.tup [.agg [V.v (.int .i64 r), V.v (.int .i64 (-1)), V.v (.int .i64 1), .own 0, .own 1, .own 2], V.v (.bool true)], [], [(0, []), (1, []), (2, [])]⟩ := by
  unfold M_sDiskNew
  obtain ⟨a, b⟩ := inR_of h
  have a' : ¬ r < 0 := by omega
  have b' : ¬ 60000 < r := by omega
  simp [Tryz.func20, Tryz.f20, a', b']
theorem E_sDiskNew_no (r : Int) (h : inR r 0 60000 = false) : M_sDiskNew [V.v (.int .i64 r)] [] [] = some ⟨.tup [.agg [V.v (.int .i64 0), V.v (.int .i64 0), V.v (.int .i64 0), .own 0, .own 1, .own 2], V.v (.bool false)], [], [(0, []), (1, []), (2, [])]⟩ := by
  unfold M_sDiskNew
  by_cases a' : r < 0
  · simp [Tryz.func20, Tryz.f20, a']
  have b' : 60000 < r := by
    have : ¬ (inR r 0 60000 = true) := by rw [h]; simp
    rw [inR_iff] at this; omega
  simp [Tryz.func20, Tryz.f20, a', b']
theorem E_sl06Range (k n : Int) : M_sl06Range [V.v (.int .i64 k), V.v (.int .i64 n)] [] [] = some ⟨V.v (.bool (inR k 1 100 && inR n 0 60000)), [], []⟩ := by
  unfold M_sl06Range
  by_cases h1 : 1 ≤ k <;> by_cases h2 : k ≤ 100 <;> by_cases h3 : 0 ≤ n <;> simp [Tryz.func21, Tryz.f21, h1, h2, h3, inR]
def sessNewOk (w h room keep size : Int) : Bool := gridNewOk w h && inR room 0 60000 && inR keep 1 100 && inR size 0 60000
theorem E_iSessNew (vi : Bool) (w h room keep size : Int) (hs : sessNewOk w h room keep size = true) : M_iSessNew [V.v (.bool vi), V.v (.int .i64 w), V.v (.int .i64 h), V.v (.int .i64 room), V.v (.int .i64 keep), V.v (.int .i64 size)] [] [] = some ⟨.tup [.agg [V.v (.bool vi), V.v (.int .i64 keep), V.v (.int .i64 size), V.v (.bool false), V.v (.int .i64 0), V.v (.int .i64 0), V.v (.int .i64 0), .own 0, .own 1, .own 2, V.v (.int .i64 0), V.v (.int .i64 0), .own 3, V.v (.int .i64 0), V.v (.int .i64 room), V.v (.int .i64 (-1)), V.v (.int .i64 1), .own 4, .own 5, .own 6, V.v (.int .i64 w), V.v (.int .i64 h), V.v (.bool false), V.v (.int .i64 0), V.v (.int .i64 0), .own 7, V.v (.int .i64 0), V.v (.int .i64 0), V.v (.bool false), V.v (.int .i64 0), .own 8, V.v (.bool false), V.v (.int .i64 0), .own 9, V.v (.int .i64 0), V.v (.int .i64 0), V.v (.int .i64 0), V.v (.int .i64 0), V.v (.int .i64 0), V.v (.int .i64 0), V.v (.int .i64 0), V.v (.int .i64 0), .own 10, .own 11, V.v (.int .i64 0), .own 12, V.v (.int .i64 0), .own 13, V.v (.int .i64 0), .own 14, V.v (.int .i64 0), V.v (.int .i64 0), .own 15, V.v (.string (⟨#[]⟩)), V.v (.string (⟨#[]⟩)), .own 16], V.v (.bool true)], [], [(0, []), (1, []), (2, []), (3, []), (4, []), (5, []), (6, []), (7, []), (8, []), (9, []), (10, []), (11, []), (12, []), (13, []), (14, []), (15, []), (16, [])]⟩ := by
  unfold M_iSessNew
  simp only [sessNewOk, Bool.and_eq_true] at hs
  obtain ⟨⟨⟨h1, h2⟩, h3⟩, h4⟩ := hs
  simp [Tryz.func11, Tryz.f11, E_iin, h3, h4, E_iPaintNew _ _ h1, E_iDiskNew _ h2]
theorem E_sSessNew (vi : Bool) (w h room keep size : Int) (hs : sessNewOk w h room keep size = true) : M_sSessNew [V.v (.bool vi), V.v (.int .i64 w), V.v (.int .i64 h), V.v (.int .i64 room), V.v (.int .i64 keep), V.v (.int .i64 size)] [] [] = some ⟨.tup [.agg [V.v (.bool vi), V.v (.int .i64 keep), V.v (.int .i64 size), V.v (.bool false), V.v (.int .i64 0), V.v (.int .i64 0), V.v (.int .i64 0), .own 0, .own 1, .own 2, V.v (.int .i64 0), V.v (.int .i64 0), .own 3, V.v (.int .i64 0), V.v (.int .i64 room), V.v (.int .i64 (-1)), V.v (.int .i64 1), .own 4, .own 5, .own 6, V.v (.int .i64 w), V.v (.int .i64 h), V.v (.bool false), V.v (.int .i64 0), V.v (.int .i64 0), .own 7, V.v (.int .i64 0), V.v (.int .i64 0), V.v (.bool false), V.v (.int .i64 0), .own 8, V.v (.bool false), V.v (.int .i64 0), .own 9, V.v (.int .i64 0), V.v (.int .i64 0), V.v (.int .i64 0), V.v (.int .i64 0), V.v (.int .i64 0), V.v (.int .i64 0), V.v (.int .i64 0), V.v (.int .i64 0), .own 10, .own 11, V.v (.int .i64 0), .own 12, V.v (.int .i64 0), .own 13, V.v (.int .i64 0), .own 14, V.v (.int .i64 0), V.v (.int .i64 0), .own 15, V.v (.string (⟨#[]⟩)), V.v (.string (⟨#[]⟩)), .own 16], V.v (.bool true)], [], [(0, []), (1, []), (2, []), (3, []), (4, []), (5, []), (6, []), (7, []), (8, []), (9, []), (10, []), (11, []), (12, []), (13, []), (14, []), (15, []), (16, [])]⟩ := by
  unfold M_sSessNew
  simp only [sessNewOk, Bool.and_eq_true] at hs
  obtain ⟨⟨⟨h1, h2⟩, h3⟩, h4⟩ := hs
  simp [Tryz.func9, Tryz.f9, E_sl06Range, h3, h4, E_sPaintNew _ _ h1, E_sDiskNew _ h2]
theorem E_iSessNew_no (vi : Bool) (w h room keep size : Int) (hs : sessNewOk w h room keep size = false) : M_iSessNew [V.v (.bool vi), V.v (.int .i64 w), V.v (.int .i64 h), V.v (.int .i64 room), V.v (.int .i64 keep), V.v (.int .i64 size)] [] [] = some ⟨.tup [.agg [V.v (.bool false), V.v (.int .i64 0), V.v (.int .i64 0), V.v (.bool false), V.v (.int .i64 0), V.v (.int .i64 0), V.v (.int .i64 0), .own 0, .own 1, .own 2, V.v (.int .i64 0), V.v (.int .i64 0), .own 3, V.v (.int .i64 0), V.v (.int .i64 0), V.v (.int .i64 0), V.v (.int .i64 0), .own 4, .own 5, .own 6, V.v (.int .i64 0), V.v (.int .i64 0), V.v (.bool false), V.v (.int .i64 0), V.v (.int .i64 0), .own 7, V.v (.int .i64 0), V.v (.int .i64 0), V.v (.bool false), V.v (.int .i64 0), .own 8, V.v (.bool false), V.v (.int .i64 0), .own 9, V.v (.int .i64 0), V.v (.int .i64 0), V.v (.int .i64 0), V.v (.int .i64 0), V.v (.int .i64 0), V.v (.int .i64 0), V.v (.int .i64 0), V.v (.int .i64 0), .own 10, .own 11, V.v (.int .i64 0), .own 12, V.v (.int .i64 0), .own 13, V.v (.int .i64 0), .own 14, V.v (.int .i64 0), V.v (.int .i64 0), .own 15, V.v (.string (⟨#[]⟩)), V.v (.string (⟨#[]⟩)), .own 16], V.v (.bool false)], [], [(0, []), (1, []), (2, []), (3, []), (4, []), (5, []), (6, []), (7, []), (8, []), (9, []), (10, []), (11, []), (12, []), (13, []), (14, []), (15, []), (16, [])]⟩ := by
  unfold M_iSessNew
  cases h1 : gridNewOk w h <;> cases h2 : inR room 0 60000 <;> simp only [sessNewOk, h1, h2, Bool.true_and, Bool.false_and] at hs
  · simp [Tryz.func11, Tryz.f11, E_iPaintNew_no _ _ h1, E_iDiskNew_no _ h2]
  · simp [Tryz.func11, Tryz.f11, E_iPaintNew_no _ _ h1, E_iDiskNew _ h2]
  · simp [Tryz.func11, Tryz.f11, E_iPaintNew _ _ h1, E_iDiskNew_no _ h2]
  · cases h3 : inR keep 1 100
    · simp [Tryz.func11, Tryz.f11, E_iPaintNew _ _ h1, E_iDiskNew _ h2, E_iin, h3]
    · rw [h3, Bool.true_and] at hs
      simp [Tryz.func11, Tryz.f11, E_iPaintNew _ _ h1, E_iDiskNew _ h2, E_iin, h3, hs]
theorem E_sSessNew_no (vi : Bool) (w h room keep size : Int) (hs : sessNewOk w h room keep size = false) : M_sSessNew [V.v (.bool vi), V.v (.int .i64 w), V.v (.int .i64 h), V.v (.int .i64 room), V.v (.int .i64 keep), V.v (.int .i64 size)] [] [] = some ⟨.tup [.agg [V.v (.bool false), V.v (.int .i64 0), V.v (.int .i64 0), V.v (.bool false), V.v (.int .i64 0), V.v (.int .i64 0), V.v (.int .i64 0), .own 0, .own 1, .own 2, V.v (.int .i64 0), V.v (.int .i64 0), .own 3, V.v (.int .i64 0), V.v (.int .i64 0), V.v (.int .i64 0), V.v (.int .i64 0), .own 4, .own 5, .own 6, V.v (.int .i64 0), V.v (.int .i64 0), V.v (.bool false), V.v (.int .i64 0), V.v (.int .i64 0), .own 7, V.v (.int .i64 0), V.v (.int .i64 0), V.v (.bool false), V.v (.int .i64 0), .own 8, V.v (.bool false), V.v (.int .i64 0), .own 9, V.v (.int .i64 0), V.v (.int .i64 0), V.v (.int .i64 0), V.v (.int .i64 0), V.v (.int .i64 0), V.v (.int .i64 0), V.v (.int .i64 0), V.v (.int .i64 0), .own 10, .own 11, V.v (.int .i64 0), .own 12, V.v (.int .i64 0), .own 13, V.v (.int .i64 0), .own 14, V.v (.int .i64 0), V.v (.int .i64 0), .own 15, V.v (.string (⟨#[]⟩)), V.v (.string (⟨#[]⟩)), .own 16], V.v (.bool false)], [], [(0, []), (1, []), (2, []), (3, []), (4, []), (5, []), (6, []), (7, []), (8, []), (9, []), (10, []), (11, []), (12, []), (13, []), (14, []), (15, []), (16, [])]⟩ := by
  unfold M_sSessNew
  cases h1 : gridNewOk w h <;> cases h2 : inR room 0 60000 <;> simp only [sessNewOk, h1, h2, Bool.true_and, Bool.false_and] at hs
  · simp [Tryz.func9, Tryz.f9, E_sPaintNew_no _ _ h1, E_sDiskNew_no _ h2]
  · simp [Tryz.func9, Tryz.f9, E_sPaintNew_no _ _ h1, E_sDiskNew _ h2]
  · simp [Tryz.func9, Tryz.f9, E_sPaintNew _ _ h1, E_sDiskNew_no _ h2]
  · simp [Tryz.func9, Tryz.f9, E_sPaintNew _ _ h1, E_sDiskNew _ h2, E_sl06Range, hs]
end Go.Proofs.YtacnbajcignacaaGreat
