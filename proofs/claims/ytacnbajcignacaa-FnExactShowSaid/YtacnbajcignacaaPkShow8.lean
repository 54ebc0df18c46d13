/- Part 8 of a proof in several texts (an abstract evaluator, what the functions compute). -/
import Derived.Test.YtacnbajcignacaaPkShow7
import Derived.Test.YtacnbajcignacaaProg
namespace Go.Proofs.Ytacnbajcignacaa
theorem hmix : Try.prog.follows .mixedOrders = true := by kernel_rfl
noncomputable def M_sl01New : Mean := evFun Try.prog [] ⟨[(3, [4, 3, 0], [])], [], [], []⟩ 23
theorem S_sl01New : Sound Try.prog 23 M_sl01New := sound _ none_sound hmix Try.func23 (eqOf (by kernel_rfl))
noncomputable def M_sl01Byte : Mean := evFun Try.prog [] ⟨[], [], [(2, [], []), (3, [], []), (4, [], [])], []⟩ 97
theorem S_sl01Byte : Sound Try.prog 97 M_sl01Byte := sound _ none_sound hmix Try.func97 (eqOf (by kernel_rfl))
noncomputable def M_sl01Below : Mean := evFun Try.prog [(97, false, M_sl01Byte)] ⟨[], [], [], []⟩ 27
theorem S_sl01Below : Sound Try.prog 27 M_sl01Below := sound _ (cons_sound S_sl01Byte none_sound) hmix Try.func27 (eqOf (by kernel_rfl))
noncomputable def M_sl27Note : Mean := evFun Try.prog [(27, false, M_sl01Below)] ⟨[], [], [], []⟩ 24
theorem S_sl27Note : Sound Try.prog 24 M_sl27Note := sound _ (cons_sound S_sl01Below none_sound) hmix Try.func24 (eqOf (by kernel_rfl))
noncomputable def M_sl27Ps : Mean := evFun Try.prog [(27, false, M_sl01Below)] ⟨[], [], [], []⟩ 25
theorem S_sl27Ps : Sound Try.prog 25 M_sl27Ps := sound _ (cons_sound S_sl01Below none_sound) hmix Try.func25 (eqOf (by kernel_rfl))
noncomputable def M_sEdNew : Mean := evFun Try.prog [] ⟨[], [], [], []⟩ 90
theorem S_sEdNew : Sound Try.prog 90 M_sEdNew := sound _ none_sound hmix Try.func90 (eqOf (by kernel_rfl))
noncomputable def M_sl02Rune : Mean := evFun Try.prog [(27, false, M_sl01Below)] ⟨[], [], [], []⟩ 94
theorem S_sl02Rune : Sound Try.prog 94 M_sl02Rune := sound _ (cons_sound S_sl01Below none_sound) hmix Try.func94 (eqOf (by kernel_rfl))
noncomputable def M_sl02Runes : Mean := evFun Try.prog [(27, false, M_sl01Below), (94, false, M_sl02Rune)] ⟨[(3, [6, 5, 0], [1000000000])], [], [], []⟩ 96
theorem S_sl02Runes : Sound Try.prog 96 M_sl02Runes := sound _ (cons_sound S_sl01Below (cons_sound S_sl02Rune none_sound)) hmix Try.func96 (eqOf (by kernel_rfl))
noncomputable def M_sl13Runes : Mean := evFun Try.prog [(96, false, M_sl02Runes), (27, false, M_sl01Below)] ⟨[(3, [13, 12, 5, 0], [1000000000])], [], [], []⟩ 149
theorem S_sl13Runes : Sound Try.prog 149 M_sl13Runes := sound _ (cons_sound S_sl02Runes (cons_sound S_sl01Below none_sound)) hmix Try.func149 (eqOf (by kernel_rfl))
noncomputable def M_sl13Draw : Mean := evFun Try.prog [(149, false, M_sl13Runes), (27, false, M_sl01Below)] ⟨[], [], [], []⟩ 91
theorem S_sl13Draw : Sound Try.prog 91 M_sl13Draw := sound _ (cons_sound S_sl13Runes (cons_sound S_sl01Below none_sound)) hmix Try.func91 (eqOf (by kernel_rfl))
noncomputable def M_sRuneOk : Mean := evFun Try.prog [] ⟨[], [], [], []⟩ 162
theorem S_sRuneOk : Sound Try.prog 162 M_sRuneOk := sound _ none_sound hmix Try.func162 (eqOf (by kernel_rfl))
noncomputable def M_sPrintable : Mean := evFun Try.prog [(162, false, M_sRuneOk)] ⟨[], [], [], []⟩ 113
theorem S_sPrintable : Sound Try.prog 113 M_sPrintable := sound _ (cons_sound S_sRuneOk none_sound) hmix Try.func113 (eqOf (by kernel_rfl))
noncomputable def M_sl13Typed : Mean := evFun Try.prog [(113, false, M_sPrintable)] ⟨[], [], [], []⟩ 179
theorem S_sl13Typed : Sound Try.prog 179 M_sl13Typed := sound _ (cons_sound S_sPrintable none_sound) hmix Try.func179 (eqOf (by kernel_rfl))
noncomputable def M_sl13AllTyped : Mean := evFun Try.prog [(179, false, M_sl13Typed)] ⟨[(2, [7, 6, 5], [])], [], [], []⟩ 159
theorem S_sl13AllTyped : Sound Try.prog 159 M_sl13AllTyped := sound _ (cons_sound S_sl13Typed none_sound) hmix Try.func159 (eqOf (by kernel_rfl))
noncomputable def M_sl15Piece : Mean := evFun Try.prog [(159, false, M_sl13AllTyped)] ⟨[], [], [], []⟩ 161
theorem S_sl15Piece : Sound Try.prog 161 M_sl15Piece := sound _ (cons_sound S_sl13AllTyped none_sound) hmix Try.func161 (eqOf (by kernel_rfl))
noncomputable def M_sRingOk : Mean := evFun Try.prog [(161, false, M_sl15Piece)] ⟨[(2, [8, 7, 6, 1], [1])], [], [], []⟩ 111
theorem S_sRingOk : Sound Try.prog 111 M_sRingOk := sound _ (cons_sound S_sl15Piece none_sound) hmix Try.func111 (eqOf (by kernel_rfl))
noncomputable def M_sl15Copy : Mean := evFun Try.prog [] ⟨[(3, [10, 9, 8, 3, 2], [3, 2])], [], [(5, [], [(8, []), (10, [])])], []⟩ 176
theorem S_sl15Copy : Sound Try.prog 176 M_sl15Copy := sound _ none_sound hmix Try.func176 (eqOf (by kernel_rfl))
noncomputable def M_sl13Join : Mean := evFun Try.prog [] ⟨[], [], [], []⟩ 177
theorem S_sl13Join : Sound Try.prog 177 M_sl13Join := sound _ none_sound hmix Try.func177 (eqOf (by kernel_rfl))
noncomputable def M_sRingPut : Mean := evFun Try.prog [(111, false, M_sRingOk), (161, false, M_sl15Piece), (176, false, M_sl15Copy), (177, false, M_sl13Join)] ⟨[], [], [(12, [], [(7, [])])], []⟩ 150
theorem S_sRingPut : Sound Try.prog 150 M_sRingPut := sound _ (cons_sound S_sRingOk (cons_sound S_sl15Piece (cons_sound S_sl15Copy (cons_sound S_sl13Join none_sound)))) hmix Try.func150 (eqOf (by kernel_rfl))
noncomputable def M_sl15Ring : Mean := evFun Try.prog [(27, false, M_sl01Below), (149, false, M_sl13Runes), (150, false, M_sRingPut)] ⟨[(3, [4, 3, 2, 0], [1000000000, 3, 2])], [], [(5, [0, 1, 3, 2, 4, 5, 6, 7, 8, 9], [(2, [0, 3]), (4, [0]), (9, [8])])], []⟩ 92
theorem S_sl15Ring : Sound Try.prog 92 M_sl15Ring := sound _ (cons_sound S_sl01Below (cons_sound S_sl13Runes (cons_sound S_sRingPut none_sound))) hmix Try.func92 (eqOf (by kernel_rfl))
noncomputable def M_sLineOk : Mean := evFun Try.prog [(159, false, M_sl13AllTyped)] ⟨[], [], [], []⟩ 109
theorem S_sLineOk : Sound Try.prog 109 M_sLineOk := sound _ (cons_sound S_sl13AllTyped none_sound) hmix Try.func109 (eqOf (by kernel_rfl))
noncomputable def M_sUndoOk : Mean := evFun Try.prog [(109, false, M_sLineOk)] ⟨[(2, [8, 7, 6, 1], [1])], [], [], []⟩ 112
theorem S_sUndoOk : Sound Try.prog 112 M_sUndoOk := sound _ (cons_sound S_sLineOk none_sound) hmix Try.func112 (eqOf (by kernel_rfl))
noncomputable def M_sl15Line : Mean := evFun Try.prog [] ⟨[], [], [(1, [], [(7, [])])], []⟩ 153
theorem S_sl15Line : Sound Try.prog 153 M_sl15Line := sound _ none_sound hmix Try.func153 (eqOf (by kernel_rfl))
noncomputable def M_sl15Lines : Mean := evFun Try.prog [(153, false, M_sl15Line)] ⟨[(3, [10, 9, 8, 3, 2], [3, 2])], [], [(5, [], [(5, []), (7, [])])], []⟩ 151
theorem S_sl15Lines : Sound Try.prog 151 M_sl15Lines := sound _ (cons_sound S_sl15Line none_sound) hmix Try.func151 (eqOf (by kernel_rfl))
noncomputable def M_sl15Same : Mean := evFun Try.prog [] ⟨[(4, [13, 12, 1, 0], [])], [], [(6, [], [])], []⟩ 152
theorem S_sl15Same : Sound Try.prog 152 M_sl15Same := sound _ none_sound hmix Try.func152 (eqOf (by kernel_rfl))
noncomputable def M_sUndoPut : Mean := evFun Try.prog [(112, false, M_sUndoOk), (109, false, M_sLineOk), (151, false, M_sl15Lines), (152, false, M_sl15Same), (153, false, M_sl15Line)] ⟨[], [], [(5, [], []), (7, [], [(5, []), (7, [])])], []⟩ 93
theorem S_sUndoPut : Sound Try.prog 93 M_sUndoPut := sound _ (cons_sound S_sUndoOk (cons_sound S_sLineOk (cons_sound S_sl15Lines (cons_sound S_sl15Same (cons_sound S_sl15Line none_sound))))) hmix Try.func93 (eqOf (by kernel_rfl))
noncomputable def M_sl21Clip : Mean := evFun Try.prog [] ⟨[], [], [], []⟩ 95
theorem S_sl21Clip : Sound Try.prog 95 M_sl21Clip := sound _ none_sound hmix Try.func95 (eqOf (by kernel_rfl))
noncomputable def M_sl21Draw : Mean := evFun Try.prog [(27, false, M_sl01Below), (90, false, M_sEdNew), (91, false, M_sl13Draw), (92, false, M_sl15Ring), (93, false, M_sUndoPut), (94, false, M_sl02Rune), (95, false, M_sl21Clip), (96, false, M_sl02Runes)] ⟨[], [], [(5, [], [(3, [0, 1]), (9, [7])])], []⟩ 26
theorem S_sl21Draw : Sound Try.prog 26 M_sl21Draw := sound _ (cons_sound S_sl01Below (cons_sound S_sEdNew (cons_sound S_sl13Draw (cons_sound S_sl15Ring (cons_sound S_sUndoPut (cons_sound S_sl02Rune (cons_sound S_sl21Clip (cons_sound S_sl02Runes none_sound)))))))) hmix Try.func26 (eqOf (by kernel_rfl))
noncomputable def M_iin : Mean := evFun Try.prog [] ⟨[], [], [], []⟩ 37
theorem S_iin : Sound Try.prog 37 M_iin := sound _ none_sound hmix Try.func37 (eqOf (by kernel_rfl))
noncomputable def M_iGridNew : Mean := evFun Try.prog [(37, false, M_iin)] ⟨[(5, [28, 27, 6, 4], [6, 4])], [], [], []⟩ 28
theorem S_iGridNew : Sound Try.prog 28 M_iGridNew := sound _ (cons_sound S_iin none_sound) hmix Try.func28 (eqOf (by kernel_rfl))
noncomputable def M_iRuneOk : Mean := evFun Try.prog [(37, false, M_iin)] ⟨[], [], [], []⟩ 154
theorem S_iRuneOk : Sound Try.prog 154 M_iRuneOk := sound _ (cons_sound S_iin none_sound) hmix Try.func154 (eqOf (by kernel_rfl))
noncomputable def M_iRuneBytes : Mean := evFun Try.prog [(154, false, M_iRuneOk)] ⟨[], [], [], []⟩ 106
theorem S_iRuneBytes : Sound Try.prog 106 M_iRuneBytes := sound _ (cons_sound S_iRuneOk none_sound) hmix Try.func106 (eqOf (by kernel_rfl))
noncomputable def M_iRuneRead : Mean := evFun Try.prog [(37, false, M_iin), (106, false, M_iRuneBytes)] ⟨[(17, [57, 56, 55, 8, 7, 1, 0], [])], [], [(21, [], [])], []⟩ 105
theorem S_iRuneRead : Sound Try.prog 105 M_iRuneRead := sound _ (cons_sound S_iin (cons_sound S_iRuneBytes none_sound)) hmix Try.func105 (eqOf (by kernel_rfl))
noncomputable def M_iRunesOf : Mean := evFun Try.prog [(105, false, M_iRuneRead)] ⟨[(6, [6, 5, 4], [])], [], [], []⟩ 32
theorem S_iRunesOf : Sound Try.prog 32 M_iRunesOf := sound _ (cons_sound S_iRuneRead none_sound) hmix Try.func32 (eqOf (by kernel_rfl))
noncomputable def M_iPrintable : Mean := evFun Try.prog [(154, false, M_iRuneOk), (37, false, M_iin)] ⟨[], [], [], []⟩ 98
theorem S_iPrintable : Sound Try.prog 98 M_iPrintable := sound _ (cons_sound S_iRuneOk (cons_sound S_iin none_sound)) hmix Try.func98 (eqOf (by kernel_rfl))
noncomputable def M_ishortRunes : Mean := evFun Try.prog [(32, false, M_iRunesOf), (98, false, M_iPrintable)] ⟨[(5, [22, 21, 20, 4], [])], [], [], []⟩ 29
theorem S_ishortRunes : Sound Try.prog 29 M_ishortRunes := sound _ (cons_sound S_iRunesOf (cons_sound S_iPrintable none_sound)) hmix Try.func29 (eqOf (by kernel_rfl))
noncomputable def M_iadmissible : Mean := evFun Try.prog [(98, false, M_iPrintable)] ⟨[], [], [], []⟩ 178
theorem S_iadmissible : Sound Try.prog 178 M_iadmissible := sound _ (cons_sound S_iPrintable none_sound) hmix Try.func178 (eqOf (by kernel_rfl))
noncomputable def M_iareAdmissible : Mean := evFun Try.prog [(178, false, M_iadmissible)] ⟨[(2, [7, 6, 5], [])], [], [], []⟩ 155
theorem S_iareAdmissible : Sound Try.prog 155 M_iareAdmissible := sound _ (cons_sound S_iadmissible none_sound) hmix Try.func155 (eqOf (by kernel_rfl))
noncomputable def M_iLineOk : Mean := evFun Try.prog [(155, false, M_iareAdmissible), (37, false, M_iin)] ⟨[], [], [], []⟩ 99
theorem S_iLineOk : Sound Try.prog 99 M_iLineOk := sound _ (cons_sound S_iareAdmissible (cons_sound S_iin none_sound)) hmix Try.func99 (eqOf (by kernel_rfl))
noncomputable def M_iisAtEnd : Mean := evFun Try.prog [] ⟨[], [], [], []⟩ 156
theorem S_iisAtEnd : Sound Try.prog 156 M_iisAtEnd := sound _ none_sound hmix Try.func156 (eqOf (by kernel_rfl))
noncomputable def M_iisAmong : Mean := evFun Try.prog [] ⟨[(2, [5, 1, 0], [])], [], [], []⟩ 157
theorem S_iisAmong : Sound Try.prog 157 M_iisAmong := sound _ none_sound hmix Try.func157 (eqOf (by kernel_rfl))
noncomputable def M_imodeOk : Mean := evFun Try.prog [(156, false, M_iisAtEnd), (157, false, M_iisAmong)] ⟨[], [], [], []⟩ 100
theorem S_imodeOk : Sound Try.prog 100 M_imodeOk := sound _ (cons_sound S_iisAtEnd (cons_sound S_iisAmong none_sound)) hmix Try.func100 (eqOf (by kernel_rfl))
noncomputable def M_iRingOk : Mean := evFun Try.prog [(155, false, M_iareAdmissible)] ⟨[(2, [8, 7, 6, 1], [1])], [], [], []⟩ 101
theorem S_iRingOk : Sound Try.prog 101 M_iRingOk := sound _ (cons_sound S_iareAdmissible none_sound) hmix Try.func101 (eqOf (by kernel_rfl))
noncomputable def M_iUndoOk : Mean := evFun Try.prog [(99, false, M_iLineOk)] ⟨[(2, [8, 7, 6, 1], [1])], [], [], []⟩ 102
theorem S_iUndoOk : Sound Try.prog 102 M_iUndoOk := sound _ (cons_sound S_iLineOk none_sound) hmix Try.func102 (eqOf (by kernel_rfl))
noncomputable def M_iemptyLine : Mean := evFun Try.prog [] ⟨[], [], [], []⟩ 103
theorem S_iemptyLine : Sound Try.prog 103 M_iemptyLine := sound _ none_sound hmix Try.func103 (eqOf (by kernel_rfl))
noncomputable def M_iEdOk : Mean := evFun Try.prog [(99, false, M_iLineOk), (37, false, M_iin), (100, false, M_imodeOk), (98, false, M_iPrintable), (101, false, M_iRingOk), (102, false, M_iUndoOk), (103, false, M_iemptyLine)] ⟨[(10, [109, 108, 107, 1], [1])], [], [], []⟩ 30
theorem S_iEdOk : Sound Try.prog 30 M_iEdOk := sound _ (cons_sound S_iLineOk (cons_sound S_iin (cons_sound S_imodeOk (cons_sound S_iPrintable (cons_sound S_iRingOk (cons_sound S_iUndoOk (cons_sound S_iemptyLine none_sound))))))) hmix Try.func30 (eqOf (by kernel_rfl))
noncomputable def M_iWidth : Mean := evFun Try.prog [(98, false, M_iPrintable), (37, false, M_iin)] ⟨[(4, [18, 17, 16, 0], [])], [], [], []⟩ 104
theorem S_iWidth : Sound Try.prog 104 M_iWidth := sound _ (cons_sound S_iPrintable (cons_sound S_iin none_sound)) hmix Try.func104 (eqOf (by kernel_rfl))
noncomputable def M_iplaced : Mean := evFun Try.prog [(104, false, M_iWidth)] ⟨[], [], [], []⟩ 35
theorem S_iplaced : Sound Try.prog 35 M_iplaced := sound _ (cons_sound S_iWidth none_sound) hmix Try.func35 (eqOf (by kernel_rfl))
noncomputable def M_i_sheet_reach : Mean := evFun Try.prog [] ⟨[(3, [16, 15, 4, 1, 0], [1000000000]), (0, [1, 0], [1000000000])], [], [], []⟩ 36
theorem S_i_sheet_reach : Sound Try.prog 36 M_i_sheet_reach := sound _ none_sound hmix Try.func36 (eqOf (by kernel_rfl))
noncomputable def M_i_sheet_write : Mean := evFun Try.prog [(35, false, M_iplaced), (36, false, M_i_sheet_reach), (104, false, M_iWidth)] ⟨[(1, [8, 7, 6, 0], [1000000000])], [], [(3, [], [(21, [1, 18]), (24, [])]), (5, [], [(16, [])]), (7, [], [(16, [])]), (8, [], [(9, [])])], []⟩ 31
theorem S_i_sheet_write : Sound Try.prog 31 M_i_sheet_write := sound _ (cons_sound S_iplaced (cons_sound S_i_sheet_reach (cons_sound S_iWidth none_sound))) hmix Try.func31 (eqOf (by kernel_rfl))
noncomputable def M_iTextOf : Mean := evFun Try.prog [(106, false, M_iRuneBytes)] ⟨[(3, [8, 7, 6, 3], [])], [], [], []⟩ 39
theorem S_iTextOf : Sound Try.prog 39 M_iTextOf := sound _ (cons_sound S_iRuneBytes none_sound) hmix Try.func39 (eqOf (by kernel_rfl))
noncomputable def M_iPromptOf : Mean := evFun Try.prog [(39, false, M_iTextOf)] ⟨[], [], [], []⟩ 33
theorem S_iPromptOf : Sound Try.prog 33 M_iPromptOf := sound _ (cons_sound S_iTextOf none_sound) hmix Try.func33 (eqOf (by kernel_rfl))
noncomputable def M_iShown : Mean := evFun Try.prog [(98, false, M_iPrintable)] ⟨[(3, [8, 7, 6, 3], [])], [], [], []⟩ 34
theorem S_iShown : Sound Try.prog 34 M_iShown := sound _ (cons_sound S_iPrintable none_sound) hmix Try.func34 (eqOf (by kernel_rfl))
noncomputable def M_icellOk : Mean := evFun Try.prog [(104, false, M_iWidth)] ⟨[], [], [(1, [], [])], []⟩ 38
theorem S_icellOk : Sound Try.prog 38 M_icellOk := sound _ (cons_sound S_iWidth none_sound) hmix Try.func38 (eqOf (by kernel_rfl))
noncomputable def M_iGridOk : Mean := evFun Try.prog [(37, false, M_iin), (38, false, M_icellOk)] ⟨[(6, [64, 63, 1], [1])], [], [], []⟩ 8
theorem S_iGridOk : Sound Try.prog 8 M_iGridOk := sound _ (cons_sound S_iin (cons_sound S_icellOk none_sound)) hmix Try.func8 (eqOf (by kernel_rfl))
noncomputable def M_iGridRow : Mean := evFun Try.prog [(8, false, M_iGridOk), (37, false, M_iin), (39, false, M_iTextOf)] ⟨[(5, [6, 5], [])], [], [], []⟩ 9
theorem S_iGridRow : Sound Try.prog 9 M_iGridRow := sound _ (cons_sound S_iGridOk (cons_sound S_iin (cons_sound S_iTextOf none_sound))) hmix Try.func9 (eqOf (by kernel_rfl))
noncomputable def M_lszIntS : Mean := evFun Try.prog [] ⟨[], [], [], []⟩ 43
theorem S_lszIntS : Sound Try.prog 43 M_lszIntS := sound _ none_sound hmix Try.func43 (eqOf (by kernel_rfl))
noncomputable def M_lszLine : Mean := evFun Try.prog [(43, false, M_lszIntS)] ⟨[], [], [], []⟩ 40
theorem S_lszLine : Sound Try.prog 40 M_lszLine := sound _ (cons_sound S_lszIntS none_sound) hmix Try.func40 (eqOf (by kernel_rfl))
noncomputable def M_lszPiece : Mean := evFun Try.prog [(43, false, M_lszIntS)] ⟨[], [], [], []⟩ 158
theorem S_lszPiece : Sound Try.prog 158 M_lszPiece := sound _ (cons_sound S_lszIntS none_sound) hmix Try.func158 (eqOf (by kernel_rfl))
noncomputable def M_lszPieceS : Mean := evFun Try.prog [(158, false, M_lszPiece)] ⟨[(5, [5, 1, 0], [])], [], [], []⟩ 107
theorem S_lszPieceS : Sound Try.prog 107 M_lszPieceS := sound _ (cons_sound S_lszPiece none_sound) hmix Try.func107 (eqOf (by kernel_rfl))
noncomputable def M_lszRing : Mean := evFun Try.prog [(107, false, M_lszPieceS)] ⟨[], [], [], []⟩ 41
theorem S_lszRing : Sound Try.prog 41 M_lszRing := sound _ (cons_sound S_lszPieceS none_sound) hmix Try.func41 (eqOf (by kernel_rfl))
noncomputable def M_lszLineS : Mean := evFun Try.prog [(40, false, M_lszLine)] ⟨[(5, [5, 1, 0], [])], [], [], []⟩ 108
theorem S_lszLineS : Sound Try.prog 108 M_lszLineS := sound _ (cons_sound S_lszLine none_sound) hmix Try.func108 (eqOf (by kernel_rfl))
noncomputable def M_lszUndo : Mean := evFun Try.prog [(108, false, M_lszLineS)] ⟨[], [], [], []⟩ 42
theorem S_lszUndo : Sound Try.prog 42 M_lszUndo := sound _ (cons_sound S_lszLineS none_sound) hmix Try.func42 (eqOf (by kernel_rfl))
noncomputable def M_lszEd : Mean := evFun Try.prog [(40, false, M_lszLine), (41, false, M_lszRing), (42, false, M_lszUndo), (43, false, M_lszIntS)] ⟨[], [], [], []⟩ 10
theorem S_lszEd : Sound Try.prog 10 M_lszEd := sound _ (cons_sound S_lszLine (cons_sound S_lszRing (cons_sound S_lszUndo (cons_sound S_lszIntS none_sound)))) hmix Try.func10 (eqOf (by kernel_rfl))
noncomputable def M_ltoIntS : Mean := evFun Try.prog [] ⟨[(3, [4, 3, 0], [])], [], [], []⟩ 56
theorem S_ltoIntS : Sound Try.prog 56 M_ltoIntS := sound _ none_sound hmix Try.func56 (eqOf (by kernel_rfl))
noncomputable def M_ltoLine : Mean := evFun Try.prog [(56, false, M_ltoIntS)] ⟨[], [], [], []⟩ 53
theorem S_ltoLine : Sound Try.prog 53 M_ltoLine := sound _ (cons_sound S_ltoIntS none_sound) hmix Try.func53 (eqOf (by kernel_rfl))
noncomputable def M_ltoPiece : Mean := evFun Try.prog [(56, false, M_ltoIntS)] ⟨[], [], [], []⟩ 165
theorem S_ltoPiece : Sound Try.prog 165 M_ltoPiece := sound _ (cons_sound S_ltoIntS none_sound) hmix Try.func165 (eqOf (by kernel_rfl))
noncomputable def M_ltoPieceS : Mean := evFun Try.prog [(165, false, M_ltoPiece)] ⟨[(3, [4, 3, 0], [])], [], [], []⟩ 118
theorem S_ltoPieceS : Sound Try.prog 118 M_ltoPieceS := sound _ (cons_sound S_ltoPiece none_sound) hmix Try.func118 (eqOf (by kernel_rfl))
noncomputable def M_ltoRing : Mean := evFun Try.prog [(118, false, M_ltoPieceS)] ⟨[], [], [], []⟩ 54
theorem S_ltoRing : Sound Try.prog 54 M_ltoRing := sound _ (cons_sound S_ltoPieceS none_sound) hmix Try.func54 (eqOf (by kernel_rfl))
noncomputable def M_ltoLineS : Mean := evFun Try.prog [(53, false, M_ltoLine)] ⟨[(3, [4, 3, 0], [])], [], [], []⟩ 119
theorem S_ltoLineS : Sound Try.prog 119 M_ltoLineS := sound _ (cons_sound S_ltoLine none_sound) hmix Try.func119 (eqOf (by kernel_rfl))
noncomputable def M_ltoUndo : Mean := evFun Try.prog [(119, false, M_ltoLineS)] ⟨[], [], [], []⟩ 55
theorem S_ltoUndo : Sound Try.prog 55 M_ltoUndo := sound _ (cons_sound S_ltoLineS none_sound) hmix Try.func55 (eqOf (by kernel_rfl))
noncomputable def M_ltoEd : Mean := evFun Try.prog [(53, false, M_ltoLine), (54, false, M_ltoRing), (55, false, M_ltoUndo), (56, false, M_ltoIntS)] ⟨[], [], [], []⟩ 12
theorem S_ltoEd : Sound Try.prog 12 M_ltoEd := sound _ (cons_sound S_ltoLine (cons_sound S_ltoRing (cons_sound S_ltoUndo (cons_sound S_ltoIntS none_sound)))) hmix Try.func12 (eqOf (by kernel_rfl))
noncomputable def M_sGridNew : Mean := evFun Try.prog [] ⟨[(5, [7, 6, 4, 1, 0], [6, 4])], [], [], []⟩ 44
theorem S_sGridNew : Sound Try.prog 44 M_sGridNew := sound _ none_sound hmix Try.func44 (eqOf (by kernel_rfl))
noncomputable def M_sl21Empty : Mean := evFun Try.prog [] ⟨[], [], [], []⟩ 114
theorem S_sl21Empty : Sound Try.prog 114 M_sl21Empty := sound _ none_sound hmix Try.func114 (eqOf (by kernel_rfl))
noncomputable def M_sl03HasInt : Mean := evFun Try.prog [] ⟨[(2, [9, 8, 7, 1], [])], [], [], []⟩ 180
theorem S_sl03HasInt : Sound Try.prog 180 M_sl03HasInt := sound _ none_sound hmix Try.func180 (eqOf (by kernel_rfl))
noncomputable def M_sl21Among : Mean := evFun Try.prog [(180, false, M_sl03HasInt)] ⟨[], [], [], []⟩ 160
theorem S_sl21Among : Sound Try.prog 160 M_sl21Among := sound _ (cons_sound S_sl03HasInt none_sound) hmix Try.func160 (eqOf (by kernel_rfl))
noncomputable def M_sl21Mode : Mean := evFun Try.prog [(114, false, M_sl21Empty), (160, false, M_sl21Among)] ⟨[], [], [], []⟩ 110
theorem S_sl21Mode : Sound Try.prog 110 M_sl21Mode := sound _ (cons_sound S_sl21Empty (cons_sound S_sl21Among none_sound)) hmix Try.func110 (eqOf (by kernel_rfl))
noncomputable def M_sEdOk : Mean := evFun Try.prog [(109, false, M_sLineOk), (110, false, M_sl21Mode), (111, false, M_sRingOk), (112, false, M_sUndoOk), (113, false, M_sPrintable), (114, false, M_sl21Empty)] ⟨[(9, [138, 137, 136], [])], [], [], []⟩ 45
theorem S_sEdOk : Sound Try.prog 45 M_sEdOk := sound _ (cons_sound S_sLineOk (cons_sound S_sl21Mode (cons_sound S_sRingOk (cons_sound S_sUndoOk (cons_sound S_sPrintable (cons_sound S_sl21Empty none_sound)))))) hmix Try.func45 (eqOf (by kernel_rfl))
noncomputable def M_sRuneBytes : Mean := evFun Try.prog [(162, false, M_sRuneOk)] ⟨[], [], [], []⟩ 163
theorem S_sRuneBytes : Sound Try.prog 163 M_sRuneBytes := sound _ (cons_sound S_sRuneOk none_sound) hmix Try.func163 (eqOf (by kernel_rfl))
noncomputable def M_sRuneRead : Mean := evFun Try.prog [(163, false, M_sRuneBytes)] ⟨[(10, [8, 7, 6, 1, 0], []), (4, [6, 1, 0], [])], [], [(14, [], [])], []⟩ 115
theorem S_sRuneRead : Sound Try.prog 115 M_sRuneRead := sound _ (cons_sound S_sRuneBytes none_sound) hmix Try.func115 (eqOf (by kernel_rfl))
noncomputable def M_sRunesOf : Mean := evFun Try.prog [(115, false, M_sRuneRead)] ⟨[(6, [6, 5, 4], [])], [], [], []⟩ 47
theorem S_sRunesOf : Sound Try.prog 47 M_sRunesOf := sound _ (cons_sound S_sRuneRead none_sound) hmix Try.func47 (eqOf (by kernel_rfl))
noncomputable def M_sl27Fair : Mean := evFun Try.prog [(47, false, M_sRunesOf), (113, false, M_sPrintable)] ⟨[(5, [21, 20, 19], [])], [], [], []⟩ 46
theorem S_sl27Fair : Sound Try.prog 46 M_sl27Fair := sound _ (cons_sound S_sRunesOf (cons_sound S_sPrintable none_sound)) hmix Try.func46 (eqOf (by kernel_rfl))
noncomputable def M_sTextOf : Mean := evFun Try.prog [(163, false, M_sRuneBytes)] ⟨[(3, [9, 8, 7, 3], [])], [], [], []⟩ 116
theorem S_sTextOf : Sound Try.prog 116 M_sTextOf := sound _ (cons_sound S_sRuneBytes none_sound) hmix Try.func116 (eqOf (by kernel_rfl))
noncomputable def M_sPromptOf : Mean := evFun Try.prog [(116, false, M_sTextOf)] ⟨[], [], [], []⟩ 48
theorem S_sPromptOf : Sound Try.prog 48 M_sPromptOf := sound _ (cons_sound S_sTextOf none_sound) hmix Try.func48 (eqOf (by kernel_rfl))
noncomputable def M_sl02Wide : Mean := evFun Try.prog [] ⟨[], [], [], []⟩ 164
theorem S_sl02Wide : Sound Try.prog 164 M_sl02Wide := sound _ none_sound hmix Try.func164 (eqOf (by kernel_rfl))
noncomputable def M_sWidth : Mean := evFun Try.prog [(113, false, M_sPrintable), (164, false, M_sl02Wide)] ⟨[(5, [4, 3, 0], [])], [], [], []⟩ 117
theorem S_sWidth : Sound Try.prog 117 M_sWidth := sound _ (cons_sound S_sPrintable (cons_sound S_sl02Wide none_sound)) hmix Try.func117 (eqOf (by kernel_rfl))
noncomputable def M_sl27Next : Mean := evFun Try.prog [(117, false, M_sWidth)] ⟨[], [], [], []⟩ 51
theorem S_sl27Next : Sound Try.prog 51 M_sl27Next := sound _ (cons_sound S_sWidth none_sound) hmix Try.func51 (eqOf (by kernel_rfl))
noncomputable def M_sFlow : Mean := evFun Try.prog [(113, false, M_sPrintable), (51, false, M_sl27Next), (117, false, M_sWidth)] ⟨[(4, [33, 32, 31, 3, 2, 1], [])], [], [], []⟩ 49
theorem S_sFlow : Sound Try.prog 49 M_sFlow := sound _ (cons_sound S_sPrintable (cons_sound S_sl27Next (cons_sound S_sWidth none_sound))) hmix Try.func49 (eqOf (by kernel_rfl))
noncomputable def M_sShown : Mean := evFun Try.prog [(113, false, M_sPrintable)] ⟨[(3, [9, 8, 7, 3], [])], [], [], []⟩ 50
theorem S_sShown : Sound Try.prog 50 M_sShown := sound _ (cons_sound S_sPrintable none_sound) hmix Try.func50 (eqOf (by kernel_rfl))
noncomputable def M_sl27Lay : Mean := evFun Try.prog [(51, false, M_sl27Next), (117, false, M_sWidth)] ⟨[(2, [16, 15, 14, 10, 5, 4, 3, 2], [10, 5])], [], [], []⟩ 52
theorem S_sl27Lay : Sound Try.prog 52 M_sl27Lay := sound _ (cons_sound S_sl27Next (cons_sound S_sWidth none_sound)) hmix Try.func52 (eqOf (by kernel_rfl))
noncomputable def M_leqIntS : Mean := evFun Try.prog [] ⟨[(4, [5, 1, 0], [])], [], [(6, [], [])], []⟩ 57
theorem S_leqIntS : Sound Try.prog 57 M_leqIntS := sound _ none_sound hmix Try.func57 (eqOf (by kernel_rfl))
noncomputable def M_leqGrid : Mean := evFun Try.prog [(57, false, M_leqIntS)] ⟨[], [], [], []⟩ 13
theorem S_leqGrid : Sound Try.prog 13 M_leqGrid := sound _ (cons_sound S_leqIntS none_sound) hmix Try.func13 (eqOf (by kernel_rfl))
noncomputable def M_leqLine : Mean := evFun Try.prog [(57, false, M_leqIntS)] ⟨[], [], [], []⟩ 58
theorem S_leqLine : Sound Try.prog 58 M_leqLine := sound _ (cons_sound S_leqIntS none_sound) hmix Try.func58 (eqOf (by kernel_rfl))
noncomputable def M_leqPiece : Mean := evFun Try.prog [(57, false, M_leqIntS)] ⟨[], [], [], []⟩ 166
theorem S_leqPiece : Sound Try.prog 166 M_leqPiece := sound _ (cons_sound S_leqIntS none_sound) hmix Try.func166 (eqOf (by kernel_rfl))
noncomputable def M_leqPieceS : Mean := evFun Try.prog [(166, false, M_leqPiece)] ⟨[(4, [5, 1, 0], [])], [], [(6, [], [])], []⟩ 120
theorem S_leqPieceS : Sound Try.prog 120 M_leqPieceS := sound _ (cons_sound S_leqPiece none_sound) hmix Try.func120 (eqOf (by kernel_rfl))
noncomputable def M_leqRing : Mean := evFun Try.prog [(120, false, M_leqPieceS)] ⟨[], [], [], []⟩ 59
theorem S_leqRing : Sound Try.prog 59 M_leqRing := sound _ (cons_sound S_leqPieceS none_sound) hmix Try.func59 (eqOf (by kernel_rfl))
noncomputable def M_leqLineS : Mean := evFun Try.prog [(58, false, M_leqLine)] ⟨[(4, [5, 1, 0], [])], [], [(6, [], [])], []⟩ 121
theorem S_leqLineS : Sound Try.prog 121 M_leqLineS := sound _ (cons_sound S_leqLine none_sound) hmix Try.func121 (eqOf (by kernel_rfl))
noncomputable def M_leqUndo : Mean := evFun Try.prog [(121, false, M_leqLineS)] ⟨[], [], [], []⟩ 60
theorem S_leqUndo : Sound Try.prog 60 M_leqUndo := sound _ (cons_sound S_leqLineS none_sound) hmix Try.func60 (eqOf (by kernel_rfl))
noncomputable def M_leqEd : Mean := evFun Try.prog [(58, false, M_leqLine), (59, false, M_leqRing), (60, false, M_leqUndo), (57, false, M_leqIntS)] ⟨[], [], [], []⟩ 14
theorem S_leqEd : Sound Try.prog 14 M_leqEd := sound _ (cons_sound S_leqLine (cons_sound S_leqRing (cons_sound S_leqUndo (cons_sound S_leqIntS none_sound)))) hmix Try.func14 (eqOf (by kernel_rfl))
noncomputable def M_lmarkIntS : Mean := evFun Try.prog [] ⟨[(2, [5, 1, 0], [])], [], [], []⟩ 64
theorem S_lmarkIntS : Sound Try.prog 64 M_lmarkIntS := sound _ none_sound hmix Try.func64 (eqOf (by kernel_rfl))
noncomputable def M_lmarkLine : Mean := evFun Try.prog [(64, true, M_lmarkIntS)] ⟨[], [], [], []⟩ 61
theorem S_lmarkLine : Sound Try.prog 61 M_lmarkLine := sound _ (cons_sound S_lmarkIntS none_sound) hmix Try.func61 (eqOf (by kernel_rfl))
noncomputable def M_lmarkPieceS : Mean := evFun Try.prog [(64, true, M_lmarkIntS)] ⟨[(2, [5, 1, 0], [])], [], [], []⟩ 122
theorem S_lmarkPieceS : Sound Try.prog 122 M_lmarkPieceS := sound _ (cons_sound S_lmarkIntS none_sound) hmix Try.func122 (eqOf (by kernel_rfl))
noncomputable def M_lmarkRing : Mean := evFun Try.prog [(122, true, M_lmarkPieceS)] ⟨[], [], [], []⟩ 62
theorem S_lmarkRing : Sound Try.prog 62 M_lmarkRing := sound _ (cons_sound S_lmarkPieceS none_sound) hmix Try.func62 (eqOf (by kernel_rfl))
noncomputable def M_lmarkLineS : Mean := evFun Try.prog [(64, true, M_lmarkIntS)] ⟨[(2, [5, 1, 0], [])], [], [], []⟩ 123
theorem S_lmarkLineS : Sound Try.prog 123 M_lmarkLineS := sound _ (cons_sound S_lmarkIntS none_sound) hmix Try.func123 (eqOf (by kernel_rfl))
noncomputable def M_lmarkUndo : Mean := evFun Try.prog [(123, true, M_lmarkLineS)] ⟨[], [], [], []⟩ 63
theorem S_lmarkUndo : Sound Try.prog 63 M_lmarkUndo := sound _ (cons_sound S_lmarkLineS none_sound) hmix Try.func63 (eqOf (by kernel_rfl))
noncomputable def M_lmarkEd : Mean := evFun Try.prog [(61, true, M_lmarkLine), (62, true, M_lmarkRing), (63, true, M_lmarkUndo), (64, true, M_lmarkIntS)] ⟨[], [], [], []⟩ 15
theorem S_lmarkEd : Sound Try.prog 15 M_lmarkEd := sound _ (cons_sound S_lmarkLine (cons_sound S_lmarkRing (cons_sound S_lmarkUndo (cons_sound S_lmarkIntS none_sound)))) hmix Try.func15 (eqOf (by kernel_rfl))
noncomputable def M_lmarkGrid : Mean := evFun Try.prog [(64, true, M_lmarkIntS)] ⟨[], [], [], []⟩ 16
theorem S_lmarkGrid : Sound Try.prog 16 M_lmarkGrid := sound _ (cons_sound S_lmarkIntS none_sound) hmix Try.func16 (eqOf (by kernel_rfl))
noncomputable def M_lheldIntS : Mean := evFun Try.prog [] ⟨[(2, [5, 1, 0], [])], [], [], []⟩ 65
theorem S_lheldIntS : Sound Try.prog 65 M_lheldIntS := sound _ none_sound hmix Try.func65 (eqOf (by kernel_rfl))
noncomputable def M_lheldGrid : Mean := evFun Try.prog [(65, false, M_lheldIntS)] ⟨[], [], [], []⟩ 17
theorem S_lheldGrid : Sound Try.prog 17 M_lheldGrid := sound _ (cons_sound S_lheldIntS none_sound) hmix Try.func17 (eqOf (by kernel_rfl))
end Go.Proofs.Ytacnbajcignacaa
namespace Go.Proofs.Ytacnbajcignacaa
open Go.RowKit
set_option linter.unusedSimpArgs false
set_option linter.unusedVariables false
set_option maxHeartbeats 4000000
set_option maxRecDepth 10000
theorem E_iin (x a b : Int) : M_iin [V.v (.int .i64 x), V.v (.int .i64 a), V.v (.int .i64 b)] [] [] = some ⟨V.v (.bool (inR x a b)), [], []⟩ := by
  unfold M_iin
  by_cases h : a ≤ x <;> simp [Try.func37, Try.f37, h, inR]
def gridNewOk (w h : Int) : Bool := inR w 2 200 && inR h 1 200 && decide (w * h ≤ 8000)
theorem gridNewOk_of {w h : Int} (hn : gridNewOk w h = true) : (2 ≤ w ∧ w ≤ 200) ∧ (1 ≤ h ∧ h ≤ 200) ∧ w * h ≤ 8000 ∧ 0 ≤ w * h := by
  simp only [gridNewOk, Bool.and_eq_true, decide_eq_true_eq, inR_iff] at hn
  exact ⟨hn.1.1, hn.1.2, hn.2, Int.mul_nonneg (by omega) (by omega)⟩
theorem mul_range {w h : Int} (a : 2 ≤ w ∧ w ≤ 200) (b : 1 ≤ h ∧ h ≤ 200) : 0 ≤ w * h ∧ w * h ≤ 40000 :=
  ⟨Int.mul_nonneg (by omega) (by omega), by have := Int.mul_le_mul a.2 b.2 (by omega) (by omega); omega⟩
def vGrid (w h : Int) (p : V) (x y : Int) (wr : Bool) : V := .agg [V.v (.int .i64 w), V.v (.int .i64 h), p, V.v (.int .i64 x), V.v (.int .i64 y), V.v (.bool wr)]
theorem E_iGridNew_no (w h : Int) (hn : gridNewOk w h = false) : M_iGridNew [V.v (.int .i64 w), V.v (.int .i64 h)] [] [] = some ⟨.tup [vGrid 0 0 (.own 0) 0 0 false, V.v (.bool false)], [], [(0, [])]⟩ := by
  unfold M_iGridNew
  by_cases h1 : inR w 2 200 = true
  · by_cases h2 : inR h 1 200 = true
    · have hr := mul_range (inR_of h1) (inR_of h2)
      have hw := w64 (w * h) (by omega)
      have h3 : 8000 < w * h := by simpa [gridNewOk, h1, h2] using hn
      simp [Try.func28, Try.f28, E_iin, h1, h2, hw, h3, vGrid]
    · simp [Try.func28, Try.f28, E_iin, h1, h2, vGrid]
  · simp [Try.func28, Try.f28, E_iin, h1, vGrid]
theorem E_sGridNew_no (w h : Int) (hn : gridNewOk w h = false) : M_sGridNew [V.v (.int .i64 w), V.v (.int .i64 h)] [] [] = some ⟨.tup [vGrid 0 0 (.own 0) 0 0 false, V.v (.bool false)], [], [(0, [])]⟩ := by
  unfold M_sGridNew
  by_cases h1 : w < 2
  · simp [Try.func44, Try.f44, h1, vGrid]
  by_cases h2 : 200 < w
  · simp [Try.func44, Try.f44, h1, h2, vGrid]
  by_cases h3 : h < 1
  · simp [Try.func44, Try.f44, h1, h2, h3, vGrid]
  by_cases h4 : 200 < h
  · simp [Try.func44, Try.f44, h1, h2, h3, h4, vGrid]
  have hr := mul_range (w := w) (h := h) (by omega) (by omega)
  have hw := w64 (w * h) (by omega)
  have h5 : 8000 < w * h := by
    have e1 : inR w 2 200 = true := inR_iff.2 (by omega)
    have e2 : inR h 1 200 = true := inR_iff.2 (by omega)
    simpa [gridNewOk, e1, e2] using hn
  simp [Try.func44, Try.f44, h1, h2, h3, h4, hw, h5, vGrid]
def blanks (n : Nat) : List Int := List.replicate n 32
theorem blanks_snoc (n : Nat) : ints (blanks n) ++ [[D.a (.int .i64 32)]] = ints (blanks (n + 1)) := by rw [ints_snoc, blanks, ← List.replicate_succ']; rfl
theorem blanks_len (n : Nat) : (blanks n).length = n := List.length_replicate ..
theorem E_iGridNew (w h : Int) (hn : gridNewOk w h = true) : M_iGridNew [V.v (.int .i64 w), V.v (.int .i64 h)] [] [] = some ⟨.tup [vGrid w h (.own 0) 0 0 false, V.v (.bool true)], [], [(0, ints (blanks (w * h).toNat))]⟩ := by
  unfold M_iGridNew
  obtain ⟨a, b, h3, hp⟩ := gridNewOk_of hn
  have h1 := inR_iff.2 a
  have h2 := inR_iff.2 b
  have h3' : ¬ (8000 < w * h) := by omega
  have hw := w64 (w * h) (by omega)
  obtain ⟨n, hn⟩ := Int.eq_ofNat_of_zero_le hp
  simp [Try.func28, Try.f28, E_iin, h1, h2, hw, h3', vGrid]
  rw [hn] at h3
  rw [loopV_go (fun k => .on ⟨[(28, V.v (.int .i64 ((k : Int)))), (27, V.v (.int .i64 (w * h))), (6, .ref 6 0), (4, .ref 4 0)], [(6, [V.v (.int .i64 w), V.v (.int .i64 h), .own 2000000000, V.v (.int .i64 0), V.v (.int .i64 0), V.v (.bool false)]), (4, [V.v (.int .i64 0), V.v (.int .i64 0), .own 2000000001, V.v (.int .i64 0), V.v (.int .i64 0), V.v (.bool false)])], [(2000000001, []), (2000000000, ints (blanks k))], []⟩) n ?_ ?_]
  · simp [hn]
  · simp [blanks, ints_nil]
  · intro j hj
    have hw := w64 (j + 1) (by omega)
    simp [hn, hj, hw, blanks_len, ← blanks_snoc]
    simp (disch := omega) only [grd_pos]
    simp [hw, blanks_snoc]
end Go.Proofs.Ytacnbajcignacaa
namespace Go.Proofs.Ytacnbajcignacaa
open Go.RowKit
mutual
def bnD (B : Nat) : D → Bool
  | .a _ => true
  | .l rows => decide (rows.length ≤ B) && bnT B rows
  | .gone => false
def bnR (B : Nat) : List D → Bool
  | [] => true
  | d :: r => bnD B d && bnR B r
def bnT (B : Nat) : List (List D) → Bool
  | [] => true
  | r :: rows => bnR B r && bnT B rows
end
def bnL (B : Nat) (rows : List (List D)) : Bool := decide (rows.length ≤ B) && bnT B rows
abbrev smL (rows : List (List D)) : Bool := bnL 1000000000 rows
abbrev smR (r : List D) : Bool := bnR 1000000000 r
abbrev lgL (rows : List (List D)) : Bool := bnL 9223372036854775807 rows
abbrev lgR (r : List D) : Bool := bnR 9223372036854775807 r
variable {B : Nat}
@[simp] theorem bnD_a (v : Value) : bnD B (.a v) = true := id rfl
@[simp] theorem bnD_l (rows : List (List D)) : bnD B (.l rows) = bnL B rows := id rfl
@[simp] theorem bnR_nil : bnR B [] = true := id rfl
@[simp] theorem bnR_cons (d : D) (r : List D) : bnR B (d :: r) = (bnD B d && bnR B r) := id rfl
@[simp] theorem bnL_nil : bnL B [] = true := by simp [bnL, bnT]
theorem bnL_len {rows : List (List D)} (h : bnL B rows = true) : rows.length ≤ B := by
  unfold bnL at h; rw [Bool.and_eq_true, decide_eq_true_eq] at h; exact h.1
theorem bnT_at : ∀ {rows : List (List D)} {j : Nat} {r : List D}, bnT B rows = true → rows[j]? = some r → bnR B r = true
  | [], j, r, _, e => by simp at e
  | x :: rows, j, r, h, e => by
    have h : (bnR B x && bnT B rows) = true := h
    rw [Bool.and_eq_true] at h
    cases j with
    | zero => simp at e; subst e; exact h.1
    | succ j => exact bnT_at h.2 (by simpa using e)
theorem bnT_of : ∀ {rows : List (List D)}, (∀ (j : Nat) (r : List D), rows[j]? = some r → bnR B r = true) → bnT B rows = true
  | [], _ => rfl
  | x :: rows, h => by
    show (bnR B x && bnT B rows) = true
    rw [h 0 x rfl, bnT_of fun j r e => h (j + 1) r (by simpa using e)]; rfl
theorem bnL_at {rows : List (List D)} {j : Nat} {r : List D} (h : bnL B rows = true) (e : rows[j]? = some r) : bnR B r = true := by
  unfold bnL at h; rw [Bool.and_eq_true] at h; exact bnT_at h.2 e
theorem bnL_of {rows : List (List D)} (hl : rows.length ≤ B) (h : ∀ (j : Nat) (r : List D), rows[j]? = some r → bnR B r = true) : bnL B rows = true := by
  unfold bnL; rw [bnT_of h, decide_eq_true hl]; rfl
theorem smL_len {rows : List (List D)} (h : smL rows = true) : rows.length ≤ 1000000000 := bnL_len h
theorem smL_at {rows : List (List D)} {j : Nat} {r : List D} (h : smL rows = true) (e : rows[j]? = some r) : smR r = true := bnL_at h e
theorem bnT_flat : ∀ {rows : List (List D)}, rowsFlat rows = true → bnT B rows = true
  | [], _ => rfl
  | r :: rows, h => by
    have h : (r.all flatD && rowsFlat rows) = true := h
    rw [Bool.and_eq_true] at h
    have : ∀ l : List D, l.all flatD = true → bnR B l = true := by
      intro l; induction l with
      | nil => intro _; rfl
      | cons d l ih =>
        intro h
        rw [List.all_cons, Bool.and_eq_true] at h
        rw [bnR_cons, ih h.2]
        cases d with
        | a v => rfl
        | l rows => cases h.1
        | gone => cases h.1
    show (bnR B r && bnT B rows) = true
    rw [this r h.1, bnT_flat h.2]; rfl
theorem bnL_flat {rows : List (List D)} (h : rowsFlat rows = true) (hl : rows.length ≤ B) : bnL B rows = true := by
  unfold bnL; rw [bnT_flat h, decide_eq_true hl]; rfl
theorem bnL_ints {l : List Int} (h : l.length ≤ B) : bnL B (ints l) = true := bnL_flat (ints_flat l) (by simpa using h)
theorem bnL_byts {l : List UInt8} (h : l.length ≤ B) : bnL B (byts l) = true := bnL_flat (byts_flat l) (by simpa using h)
theorem bnL_strs {l : List ByteArray} (h : l.length ≤ B) : bnL B (strs l) = true := bnL_flat (strs_flat l) (by simpa using h)
theorem smL_ints {l : List Int} (h : l.length ≤ 1000000000) : smL (ints l) = true := bnL_ints h
theorem smL_byts {l : List UInt8} (h : l.length ≤ 1000000000) : smL (byts l) = true := bnL_byts h
theorem smL_strs {l : List ByteArray} (h : l.length ≤ 1000000000) : smL (strs l) = true := bnL_strs h
end Go.Proofs.Ytacnbajcignacaa
namespace Go.Proofs.Ytacnbajcignacaa
open Go.RowKit
set_option linter.unusedSimpArgs false
set_option linter.unusedVariables false
set_option maxHeartbeats 4000000
set_option maxRecDepth 10000
def runeOk (r : Int) : Bool := inR r 0 1114111 && !inR r 55296 57343
def printable (r : Int) : Bool := runeOk r && decide (32 ≤ r) && !inR r 127 159
def typed (r : Int) : Bool := printable r || r == 9 || r == 10
theorem firstBad {α : Type} (p : α → Bool) (l : List α) : l.all p = true ∨ (l.all p = false ∧ ∃ N, ∃ h : N < l.length, p l[N] = false ∧ ∀ j (hj : j < l.length), j < N → p l[j] = true) := by
  induction l with
  | nil => exact .inl rfl
  | cons x l ih =>
    cases hx : p x
    · exact .inr ⟨by simp [hx], 0, by simp, hx, fun j hj h => by omega⟩
    · rcases ih with h | ⟨h, N, hN, h1, h2⟩
      · exact .inl (by simp [hx, h])
      · refine .inr ⟨by simp [hx, h], N + 1, by simpa using hN, by simpa using h1, fun j hj hlt => ?_⟩
        cases j with
        | zero => simpa using hx
        | succ j => simpa using h2 j (by simpa using hj) (by omega)
theorem E_iRuneOk (r : Int) : M_iRuneOk [V.v (.int .i64 r)] [] [] = some ⟨V.v (.bool (runeOk r)), [], []⟩ := by
  unfold M_iRuneOk
  cases h1 : inR r 0 1114111 <;> cases h2 : inR r 55296 57343 <;> simp [Try.func154, Try.f154, E_iin, runeOk, h1, h2]
theorem E_sRuneOk (r : Int) : M_sRuneOk [V.v (.int .i64 r)] [] [] = some ⟨V.v (.bool (runeOk r)), [], []⟩ := by
  unfold M_sRuneOk
  by_cases h1 : 0 ≤ r <;> by_cases h2 : r ≤ 1114111 <;> by_cases h3 : r < 55296 <;> by_cases h4 : 57343 < r <;> simp [Try.func162, Try.f162, runeOk, inR, h1, h2, h3, h4] <;> omega
theorem E_iPrintable (r : Int) : M_iPrintable [V.v (.int .i64 r)] [] [] = some ⟨V.v (.bool (printable r)), [], []⟩ := by
  unfold M_iPrintable
  cases h1 : runeOk r <;> by_cases h3 : 32 ≤ r <;> cases h2 : inR r 127 159 <;> simp [Try.func98, Try.f98, E_iin, E_iRuneOk, printable, h1, h2, h3]
theorem E_sPrintable (r : Int) : M_sPrintable [V.v (.int .i64 r)] [] [] = some ⟨V.v (.bool (printable r)), [], []⟩ := by
  unfold M_sPrintable
  cases h1 : runeOk r <;> by_cases h3 : 32 ≤ r <;> by_cases h4 : r < 127 <;> by_cases h5 : 159 < r <;> simp [Try.func113, Try.f113, E_sRuneOk, printable, inR, h1, h3, h4, h5] <;> omega
theorem E_iadmissible (r : Int) : M_iadmissible [V.v (.int .i64 r)] [] [] = some ⟨V.v (.bool (typed r)), [], []⟩ := by
  unfold M_iadmissible
  by_cases h3 : r = 9
  · subst h3; cases h1 : printable 9 <;> simp [Try.func178, Try.f178, E_iPrintable, typed, h1]
  by_cases h4 : r = 10
  · subst h4; cases h1 : printable 10 <;> simp [Try.func178, Try.f178, E_iPrintable, typed, h1]
  cases h1 : printable r <;> simp [Try.func178, Try.f178, E_iPrintable, typed, h1, h3, h4]
theorem E_sl13Typed (r : Int) : M_sl13Typed [V.v (.int .i64 r)] [] [] = some ⟨V.v (.bool (typed r)), [], []⟩ := by
  unfold M_sl13Typed
  by_cases h3 : r = 9
  · subst h3; cases h1 : printable 9 <;> simp [Try.func179, Try.f179, E_sPrintable, typed, h1]
  by_cases h4 : r = 10
  · subst h4; cases h1 : printable 10 <;> simp [Try.func179, Try.f179, E_sPrintable, typed, h1]
  cases h1 : printable r <;> simp [Try.func179, Try.f179, E_sPrintable, typed, h1, h3, h4]
theorem E_sl13AllTyped (l : List Int) (hl : l.length ≤ 1000000000) : M_sl13AllTyped [.lst (some 0) (ints l)] [] [] = some ⟨V.v (.bool (l.all typed)), [], []⟩ := by
  unfold M_sl13AllTyped
  simp [Try.func159, Try.f159]
  rcases firstBad typed l with h | ⟨h, N, hN, h1, h2⟩
  · rw [loopV_go (fun j => .on ⟨[(7, V.v (.int .i64 ((j : Int)))), (6, V.v (.int .i64 ((l.length : Int)))), (5, .lst (some 0) (ints l))], [], [], []⟩) l.length ?_ ?_]
    · simp [h]
    · simp
    · intro j hj
      have hw := w64 (j + 1) (by omega)
      have := List.all_eq_true.1 h l[j] (List.getElem_mem hj)
      simp [hj, hw, ints_get hj, E_sl13Typed, this]
  · rw [loopV_go (fun j => .on ⟨[(7, V.v (.int .i64 ((j : Int)))), (6, V.v (.int .i64 ((l.length : Int)))), (5, .lst (some 0) (ints l))], [], [], []⟩) N ?_ ?_]
    · simp [h, hN, h1, ints_get hN, E_sl13Typed]
    · simp
    · intro j hj
      have hj' : j < l.length := by omega
      have hw := w64 (j + 1) (by omega)
      simp [hj', hw, ints_get hj', E_sl13Typed, h2 j hj' hj]
end Go.Proofs.Ytacnbajcignacaa
namespace Go.Proofs.Ytacnbajcignacaa
open Go.RowKit
set_option linter.unusedSimpArgs false
set_option linter.unusedVariables false
set_option maxHeartbeats 4000000
set_option maxRecDepth 10000
def by8 (x : Int) : UInt8 := UInt8.ofNat x.toNat
theorem u8_in (x : Int) (h : 0 ≤ x ∧ x ≤ 255) : IntKind.u8.wrap x = x := by
  simp [IntKind.wrap, IntKind.bits, IntKind.signed]; omega
theorem u8_by8 (x : Int) (h : 0 ≤ x ∧ x ≤ 255) : IntKind.u8.wrap x = ((by8 x).toNat : Int) := by
  rw [u8_in x h]
  unfold by8
  rw [UInt8.toNat_ofNat']
  omega
def runeBytes (r : Int) : List UInt8 :=
  if runeOk r = false then [] else if r < 128 then [by8 r] else if r < 2048 then [by8 (192 + r / 64), by8 (128 + r % 64)]
  else if r < 65536 then [by8 (224 + r / 4096), by8 (128 + r / 64 % 64), by8 (128 + r % 64)]
  else [by8 (240 + r / 262144), by8 (128 + r / 4096 % 64), by8 (128 + r / 64 % 64), by8 (128 + r % 64)]
theorem runeOk_range {r : Int} (h : runeOk r = true) : 0 ≤ r ∧ r ≤ 1114111 := by
  simp only [runeOk, Bool.and_eq_true] at h
  exact inR_of h.1
theorem byts_of (l : List UInt8) : byts l = l.map fun c => [D.a (.int .u8 (c.toNat : Int))] := rfl
theorem E_sRuneBytes (r : Int) : M_sRuneBytes [V.v (.int .i64 r)] [] [] = some ⟨.own 0, [], [(0, byts (runeBytes r))]⟩ := by
  unfold M_sRuneBytes
  cases h1 : runeOk r
  · simp [Try.func163, Try.f163, E_sRuneOk, h1, runeBytes, byts_of]
  obtain ⟨a, b⟩ := runeOk_range h1
  have d1 := Int.tdiv_eq_ediv_of_nonneg a (b := 64)
  have d2 := Int.tdiv_eq_ediv_of_nonneg a (b := 4096)
  have d3 := Int.tdiv_eq_ediv_of_nonneg a (b := 262144)
  have m1 := Int.tmod_eq_emod_of_nonneg a (b := 64)
  have m2 := Int.tmod_eq_emod_of_nonneg (show 0 ≤ r / 64 by omega) (b := 64)
  have m3 := Int.tmod_eq_emod_of_nonneg (show 0 ≤ r / 4096 by omega) (b := 64)
  have w1 := w64 (r / 64) (by omega)
  have w2 := w64 (r / 4096) (by omega)
  have w3 := w64 (r / 262144) (by omega)
  have v1 := w64 (128 + r % 64) (by omega)
  have v2 := w64 (128 + r / 64 % 64) (by omega)
  have v3 := w64 (128 + r / 4096 % 64) (by omega)
  have u1 := u8_by8 (128 + r % 64) (by omega)
  have u2 := u8_by8 (128 + r / 64 % 64) (by omega)
  have u3 := u8_by8 (128 + r / 4096 % 64) (by omega)
  by_cases h2 : r < 128
  · simp [Try.func163, Try.f163, E_sRuneOk, h1, runeBytes, h2, byts_of, u8_by8 r (by omega)]
  by_cases h3 : r < 2048
  · have x1 := w64 (192 + r / 64) (by omega)
    have x2 := u8_by8 (192 + r / 64) (by omega)
    simp [Try.func163, Try.f163, E_sRuneOk, h1, runeBytes, h2, h3, byts_of, d1, m1, w1, v1, u1, x1, x2]
  by_cases h4 : r < 65536
  · have x1 := w64 (224 + r / 4096) (by omega)
    have x2 := u8_by8 (224 + r / 4096) (by omega)
    simp [Try.func163, Try.f163, E_sRuneOk, h1, runeBytes, h2, h3, h4, byts_of, d1, d2, m1, m2, w1, w2, v1, v2, u1, u2, x1, x2]
  have x1 := w64 (240 + r / 262144) (by omega)
  have x2 := u8_by8 (240 + r / 262144) (by omega)
  simp [Try.func163, Try.f163, E_sRuneOk, h1, runeBytes, h2, h3, h4, byts_of, d1, d2, d3, m1, m2, m3, w1, w2, w3, v1, v2, v3, u1, u2, u3, x1, x2]
theorem E_iRuneBytes (r : Int) : M_iRuneBytes [V.v (.int .i64 r)] [] [] = some ⟨.own 0, [], [(0, byts (runeBytes r))]⟩ := by
  unfold M_iRuneBytes
  cases h1 : runeOk r
  · simp [Try.func106, Try.f106, E_iRuneOk, h1, runeBytes, byts_of]
  obtain ⟨a, b⟩ := runeOk_range h1
  have d1 := Int.tdiv_eq_ediv_of_nonneg a (b := 64)
  have d2 := Int.tdiv_eq_ediv_of_nonneg a (b := 4096)
  have d3 := Int.tdiv_eq_ediv_of_nonneg a (b := 262144)
  have m1 := Int.tmod_eq_emod_of_nonneg a (b := 64)
  have m2 := Int.tmod_eq_emod_of_nonneg (show 0 ≤ r / 64 by omega) (b := 64)
  have m3 := Int.tmod_eq_emod_of_nonneg (show 0 ≤ r / 4096 by omega) (b := 64)
  have w1 := w64 (r / 64) (by omega)
  have w2 := w64 (r / 4096) (by omega)
  have w3 := w64 (r / 262144) (by omega)
  have v1 := w64 (128 + r % 64) (by omega)
  have v2 := w64 (128 + r / 64 % 64) (by omega)
  have v3 := w64 (128 + r / 4096 % 64) (by omega)
  have u1 := u8_by8 (128 + r % 64) (by omega)
  have u2 := u8_by8 (128 + r / 64 % 64) (by omega)
  have u3 := u8_by8 (128 + r / 4096 % 64) (by omega)
  by_cases h2 : r < 128
  · simp [Try.func106, Try.f106, E_iRuneOk, h1, runeBytes, h2, byts_of, u8_by8 r (by omega)]
  by_cases h3 : r < 2048
  · have x1 := w64 (192 + r / 64) (by omega)
    have x2 := u8_by8 (192 + r / 64) (by omega)
    simp [Try.func106, Try.f106, E_iRuneOk, h1, runeBytes, h2, h3, byts_of, d1, m1, w1, v1, u1, x1, x2]
  by_cases h4 : r < 65536
  · have x1 := w64 (224 + r / 4096) (by omega)
    have x2 := u8_by8 (224 + r / 4096) (by omega)
    simp [Try.func106, Try.f106, E_iRuneOk, h1, runeBytes, h2, h3, h4, byts_of, d1, d2, m1, m2, w1, w2, v1, v2, u1, u2, x1, x2]
  have x1 := w64 (240 + r / 262144) (by omega)
  have x2 := u8_by8 (240 + r / 262144) (by omega)
  simp [Try.func106, Try.f106, E_iRuneOk, h1, runeBytes, h2, h3, h4, byts_of, d1, d2, d3, m1, m2, m3, w1, w2, w3, v1, v2, v3, u1, u2, u3, x1, x2]
end Go.Proofs.Ytacnbajcignacaa
namespace Go.Proofs.Ytacnbajcignacaa
open Go.RowKit
set_option linter.unusedSimpArgs false
set_option linter.unusedVariables false
set_option maxHeartbeats 4000000
set_option maxRecDepth 10000
def textOf (l : List Int) : List UInt8 := l.flatMap runeBytes
theorem runeBytes_len (r : Int) : (runeBytes r).length ≤ 4 := by
  unfold runeBytes
  split
  · simp
  split
  · simp
  split
  · simp
  split <;> simp
theorem textOf_len (l : List Int) : (textOf l).length ≤ 4 * l.length := by
  induction l with
  | nil => simp [textOf]
  | cons r l ih =>
    have := runeBytes_len r
    simp only [textOf, List.flatMap_cons, List.length_append, List.length_cons] at ih ⊢; omega
theorem textOf_take {l : List Int} {j : Nat} (h : j < l.length) : textOf (l.take (j + 1)) = textOf (l.take j) ++ runeBytes l[j] := by
  unfold textOf
  rw [List.take_add_one, List.getElem?_eq_getElem h, List.flatMap_append]; simp
theorem bytes_of_byts : ∀ (l : List UInt8), mapSome bytesOfRow (byts l) = some l
  | [] => rfl
  | c :: l => by
    rw [show byts (c :: l) = [D.a (.int .u8 (c.toNat : Int))] :: byts l from rfl]
    have h : UInt8.ofNat ((c.toNat : Int)).toNat = c := by simp
    simp only [mapSome, bytesOfRow, bnd_some, bytes_of_byts l, h]
theorem E_sTextOf (l : List Int) (hl : l.length ≤ 1000000000) : M_sTextOf [.lst (some 0) (ints l)] [] [] = some ⟨V.v (.string (⟨(textOf l).toArray⟩)), [], []⟩ := by
  unfold M_sTextOf
  simp [Try.func116, Try.f116]
  rw [loopV_go (fun j => .on ⟨[(9, V.v (.int .i64 ((j : Int)))), (8, V.v (.int .i64 ((l.length : Int)))), (7, .lst (some 0) (ints l)), (3, .own 2000000000)], [], [(2000000000, byts (textOf (l.take j)))], []⟩) l.length ?_ ?_]
  · simp [bytes_of_byts]
  · simp [textOf, byts_of]
  · intro j hj
    have hw := w64 (j + 1) (by omega)
    have h1 : (textOf (l.take j)).length ≤ 4000000000 := by
      have := textOf_len (l.take j)
      have e : (l.take j).length ≤ l.length := by simp; omega
      omega
    have h2 := runeBytes_len l[j]
    have h3 := textOf_take hj
    simp [hj, hw, ints_get hj, E_sRuneBytes]
    simp (disch := omega) only [grd_pos]
    simp [hw, h3]
theorem E_iTextOf (l : List Int) (hl : l.length ≤ 1000000000) : M_iTextOf [.lst (some 0) (ints l)] [] [] = some ⟨V.v (.string (⟨(textOf l).toArray⟩)), [], []⟩ := by
  unfold M_iTextOf
  simp [Try.func39, Try.f39]
  rw [loopV_go (fun j => .on ⟨[(8, V.v (.int .i64 ((j : Int)))), (7, V.v (.int .i64 ((l.length : Int)))), (6, .lst (some 0) (ints l)), (3, .own 2000000000)], [], [(2000000000, byts (textOf (l.take j)))], []⟩) l.length ?_ ?_]
  · simp [bytes_of_byts]
  · simp [textOf, byts_of]
  · intro j hj
    have hw := w64 (j + 1) (by omega)
    have h1 : (textOf (l.take j)).length ≤ 4000000000 := by
      have := textOf_len (l.take j)
      have e : (l.take j).length ≤ l.length := by simp; omega
      omega
    have h2 := runeBytes_len l[j]
    have h3 := textOf_take hj
    simp [hj, hw, ints_get hj, E_iRuneBytes]
    simp (disch := omega) only [grd_pos]
    simp [hw, h3]
end Go.Proofs.Ytacnbajcignacaa
namespace Go.Proofs.Ytacnbajcignacaa
open Go.RowKit
set_option linter.unusedSimpArgs false
set_option linter.unusedVariables false
set_option maxHeartbeats 4000000
set_option maxRecDepth 10000
def wideR (r : Int) : Bool := inR r 4352 4447 || inR r 11904 42191 || inR r 44032 55203 || inR r 63744 64255 || inR r 65280 65376 || inR r 65504 65510 || inR r 127744 129791 || inR r 131072 262141
def wd (r : Int) : Int := if printable r then (if wideR r then 2 else 1) else 0
theorem wd_range (r : Int) : 0 ≤ wd r ∧ wd r ≤ 2 := by unfold wd; split <;> (try split) <;> omega
theorem wd_print {r : Int} (h : printable r = true) : wd r = 1 ∨ wd r = 2 := by unfold wd; rw [if_pos h]; split <;> simp
def plc (w : Int) (p : Int × Int) (r : Int) : Int × Int := if p.1 + wd r > w then (0, p.2 + 1) else p
def flowS (w : Int) (p : Int × Int) (r : Int) : Int × Int := if printable r then ((plc w p r).1 + wd r, (plc w p r).2) else p
def flow (w : Int) (t : List Int) (p : Int × Int) : Int × Int := t.foldl (flowS w) p
theorem flow_take {w : Int} {t : List Int} {p : Int × Int} {j : Nat} (h : j < t.length) : flow w (t.take (j + 1)) p = flowS w (flow w (t.take j) p) t[j] := by
  unfold flow; rw [List.take_add_one, List.getElem?_eq_getElem h, List.foldl_append]; rfl
theorem flow_append (w : Int) (s t : List Int) (p : Int × Int) : flow w (s ++ t) p = flow w t (flow w s p) := List.foldl_append ..
theorem plc_in {w : Int} (hw : 2 ≤ w) {p : Int × Int} (h : 0 ≤ p.1 ∧ p.1 ≤ w) (r : Int) : 0 ≤ (plc w p r).1 ∧ (plc w p r).1 + wd r ≤ w ∧ p.2 ≤ (plc w p r).2 ∧ (plc w p r).2 ≤ p.2 + 1 := by
  have := wd_range r
  unfold plc; split <;> (try simp only) <;> omega
theorem flowS_in {w : Int} (hw : 2 ≤ w) {p : Int × Int} (h : 0 ≤ p.1 ∧ p.1 ≤ w) (r : Int) : (0 ≤ (flowS w p r).1 ∧ (flowS w p r).1 ≤ w) ∧ p.2 ≤ (flowS w p r).2 ∧ (flowS w p r).2 ≤ p.2 + 1 := by
  have := wd_range r
  have := plc_in hw h r
  unfold flowS; split <;> (try simp only) <;> omega
theorem flow_in {w : Int} (hw : 2 ≤ w) : ∀ (t : List Int) (p : Int × Int), 0 ≤ p.1 ∧ p.1 ≤ w → (0 ≤ (flow w t p).1 ∧ (flow w t p).1 ≤ w) ∧ p.2 ≤ (flow w t p).2 ∧ (flow w t p).2 ≤ p.2 + t.length
  | [], p, h => ⟨h, Int.le_refl _, by simp [flow]⟩
  | r :: t, p, h => by
    obtain ⟨a, b, c⟩ := flowS_in hw h r
    obtain ⟨d, e, f⟩ := flow_in hw t (flowS w p r) a
    have : flow w (r :: t) p = flow w t (flowS w p r) := rfl
    rw [this]
    simp only [List.length_cons]
    refine ⟨d, ?_, ?_⟩ <;> omega
def upd1 (c : Nat → Int) (i : Nat) (r : Int) : Nat → Int := fun j => if j = i then r else c j
def atp (w : Nat) (p : Int × Int) : Nat := p.2.toNat * w + p.1.toNat
def ink1 (w : Nat) (c : Nat → Int) (p : Int × Int) (r : Int) : Nat → Int :=
  if wd r = 2 then upd1 (upd1 c (atp w p) r) (atp w p + 1) (-1) else upd1 c (atp w p) r
def inkS (w : Nat) (s : (Nat → Int) × (Int × Int)) (r : Int) : (Nat → Int) × (Int × Int) := (ink1 w s.1 (plc w s.2 r) r, ((plc w s.2 r).1 + wd r, (plc w s.2 r).2))
def inks (w : Nat) (t : List Int) (s : (Nat → Int) × (Int × Int)) : (Nat → Int) × (Int × Int) := t.foldl (inkS w) s
theorem inks_take {w : Nat} {t : List Int} {s : (Nat → Int) × (Int × Int)} {j : Nat} (h : j < t.length) : inks w (t.take (j + 1)) s = inkS w (inks w (t.take j) s) t[j] := by
  unfold inks; rw [List.take_add_one, List.getElem?_eq_getElem h, List.foldl_append]; rfl
theorem inks_append (w : Nat) (s t : List Int) (p : (Nat → Int) × (Int × Int)) : inks w (s ++ t) p = inks w t (inks w s p) := List.foldl_append ..
theorem inks_flow {w : Nat} : ∀ (t : List Int) (s : (Nat → Int) × (Int × Int)), t.all printable = true → (inks w t s).2 = flow w t s.2
  | [], s, _ => rfl
  | r :: t, s, h => by
    simp only [List.all_cons, Bool.and_eq_true] at h
    have e1 : inks w (r :: t) s = inks w t (inkS w s r) := rfl
    have e2 : flow w (r :: t) s.2 = flow w t (flowS w s.2 r) := rfl
    rw [e1, e2, inks_flow t _ h.2]
    simp only [inkS, flowS, h.1, if_true]
def rowAt (c : Nat → Int) (w y : Nat) : List Int := (List.range w).map fun x => c (y * w + x)
def sheet (c : Nat → Int) (w k : Nat) : List (List Int) := (List.range k).map (rowAt c w)
def win (c : Nat → Int) (w top h : Nat) : List Int := (List.range (h * w)).map fun i => c (top * w + i)
@[simp] theorem rowAt_len (c : Nat → Int) (w y : Nat) : (rowAt c w y).length = w := by simp [rowAt]
@[simp] theorem sheet_len (c : Nat → Int) (w k : Nat) : (sheet c w k).length = k := by simp [sheet]
@[simp] theorem win_len (c : Nat → Int) (w top h : Nat) : (win c w top h).length = h * w := by simp [win]
theorem sheet_get {c : Nat → Int} {w k y : Nat} (h : y < k) : (sheet c w k)[y]? = some (rowAt c w y) := by simp [sheet, h]
theorem rowAt_set {c : Nat → Int} {w y x : Nat} (h : x < w) (r : Int) : (rowAt c w y).set x r = rowAt (upd1 c (y * w + x) r) w y := by
  apply List.ext_getElem (by simp)
  intro i h1 h2
  simp only [List.getElem_set, rowAt, List.getElem_map, List.getElem_range, upd1]
  by_cases e : x = i
  · subst e; simp
  · have : ¬ (y * w + i = y * w + x) := by omega
    rw [if_neg e, if_neg this]
theorem rowAt_other {c : Nat → Int} {w y y' x : Nat} (h : x < w) (hy : y' ≠ y) (r : Int) : rowAt (upd1 c (y * w + x) r) w y' = rowAt c w y' := by
  apply List.ext_getElem (by simp)
  intro i h1 h2
  simp only [rowAt, List.getElem_map, List.getElem_range, upd1]
  simp only [rowAt_len] at h1
  have : ¬ (y' * w + i = y * w + x) := by
    intro e
    rcases Nat.lt_or_gt_of_ne hy with g | g
    · have := Nat.mul_le_mul_right w (show y' + 1 ≤ y from g)
      rw [Nat.add_mul] at this; omega
    · have := Nat.mul_le_mul_right w (show y + 1 ≤ y' from g)
      rw [Nat.add_mul] at this; omega
  simp [this]
theorem sheet_set {c : Nat → Int} {w k y x : Nat} (h : x < w) (hy : y < k) (r : Int) : (sheet c w k).set y ((rowAt c w y).set x r) = sheet (upd1 c (y * w + x) r) w k := by
  rw [rowAt_set h]
  apply List.ext_getElem (by simp)
  intro i h1 h2
  simp only [List.getElem_set, sheet, List.getElem_map, List.getElem_range]
  by_cases e : y = i
  · subst e; simp
  · rw [if_neg e, rowAt_other h (Ne.symm e)]
theorem sheet_grow {c : Nat → Int} {w k : Nat} (h : ∀ i, k * w ≤ i → c i = 32) : sheet c w k ++ [List.replicate w 32] = sheet c w (k + 1) := by
  unfold sheet
  rw [List.range_succ, List.map_append, List.map_singleton]
  congr 2
  apply List.ext_getElem (by simp)
  intro i h1 h2
  simp only [rowAt, List.getElem_map, List.getElem_range, List.getElem_replicate]
  rw [h _ (by omega)]
theorem win_set {c : Nat → Int} {w top h i : Nat} (hi : i < h * w) (r : Int) : (win c w top h).set i r = win (upd1 c (top * w + i) r) w top h := by
  apply List.ext_getElem (by simp)
  intro j h1 h2
  simp only [List.getElem_set, win, List.getElem_map, List.getElem_range, upd1]
  by_cases e : i = j
  · subst e; simp
  · have : ¬ (top * w + j = top * w + i) := by omega
    rw [if_neg e, if_neg this]
theorem win_out {c : Nat → Int} {w top h i : Nat} (hi : i < top * w ∨ (top + h) * w ≤ i) (r : Int) : win (upd1 c i r) w top h = win c w top h := by
  apply List.ext_getElem (by simp)
  intro j h1 h2
  simp only [win_len] at h1
  simp only [win, List.getElem_map, List.getElem_range, upd1]
  rw [Nat.add_mul] at hi
  have : ¬ (top * w + j = i) := by omega
  simp [this]
theorem win_rows (c : Nat → Int) (w top : Nat) : ∀ h, ((List.range h).map fun y => rowAt c w (top + y)).flatten = win c w top h
  | 0 => by simp [win]
  | h + 1 => by
    rw [List.range_succ, List.map_append, List.flatten_append, win_rows c w top h]
    unfold win
    rw [Nat.add_mul, Nat.one_mul, List.range_add, List.map_append]
    congr 1
    simp only [List.map_singleton, List.flatten_singleton, rowAt, List.map_map]
    apply List.map_congr_left
    intro x hx
    simp only [Function.comp, Nat.add_mul, Nat.add_assoc]
theorem sheet_cut {c : Nat → Int} {w k top h : Nat} (hk : top + h ≤ k) : ((sheet c w k).drop top).take h = (List.range h).map fun y => rowAt c w (top + y) := by
  apply List.ext_getElem (by simp; omega)
  intro i h1 h2
  simp [sheet]
theorem win_blank (w h : Nat) : win (fun _ => 32) w 0 h = blanks (h * w) := by
  unfold win blanks
  apply List.ext_getElem (by simp)
  intro i h1 h2; simp
end Go.Proofs.Ytacnbajcignacaa
namespace Go.Proofs.Ytacnbajcignacaa
open Go.RowKit
set_option linter.unusedSimpArgs false
set_option linter.unusedVariables false
set_option maxHeartbeats 8000000
set_option maxRecDepth 10000
def wideRs : List (Int × Int) := [(4352, 4447), (11904, 42191), (44032, 55203), (63744, 64255), (65280, 65376), (65504, 65510), (127744, 129791), (131072, 262141)]
theorem wide_first (r : Int) : ∃ N, N ≤ 8 ∧ (∀ j, j < N → ∀ p, wideRs[j]? = some p → inR r p.1 p.2 = false) ∧ ((N = 8 ∧ wideR r = false) ∨ (N < 8 ∧ wideR r = true ∧ ∀ p, wideRs[N]? = some p → inR r p.1 p.2 = true)) := by
  have hw : wideR r = !(wideRs.all fun p => !inR r p.1 p.2) := by simp [wideR, wideRs, Bool.or_assoc]
  rcases firstBad (fun p => !inR r p.1 p.2) wideRs with h | ⟨h, N, hN, h1, h2⟩
  · refine ⟨8, Nat.le_refl _, fun j hj p hp => ?_, .inl ⟨rfl, by rw [hw, h]; rfl⟩⟩
    have := List.all_eq_true.1 h p (List.mem_of_getElem? hp)
    simpa using this
  · have hl : wideRs.length = 8 := rfl
    refine ⟨N, by omega, fun j hj p hp => ?_, .inr ⟨by omega, by rw [hw, h]; rfl, fun p hp => ?_⟩⟩
    · have := h2 j (by omega) hj
      rw [List.getElem?_eq_getElem (by omega : j < wideRs.length)] at hp
      injection hp with hp; rw [← hp]; simpa using this
    · rw [List.getElem?_eq_getElem hN] at hp
      injection hp with hp; rw [← hp]; simpa using h1
theorem E_iWidth (r : Int) : M_iWidth [V.v (.int .i64 r)] [] [] = some ⟨V.v (.int .i64 (wd r)), [], []⟩ := by
  unfold M_iWidth
  cases hp : printable r
  · simp [Try.func104, Try.f104, E_iPrintable, hp, wd]
  obtain ⟨N, hN8, hbad, hend⟩ := wide_first r
  simp [Try.func104, Try.f104, E_iPrintable, hp]
  rw [loopV_go (fun j => .on ⟨[(18, V.v (.int .i64 ((j : Int)))), (17, V.v (.int .i64 8)), (16, .own 2000000000), (0, V.v (.int .i64 r))], [], [(2000000000, [[D.a (.int .i64 4352), D.a (.int .i64 4447)], [D.a (.int .i64 11904), D.a (.int .i64 42191)], [D.a (.int .i64 44032), D.a (.int .i64 55203)], [D.a (.int .i64 63744), D.a (.int .i64 64255)], [D.a (.int .i64 65280), D.a (.int .i64 65376)], [D.a (.int .i64 65504), D.a (.int .i64 65510)], [D.a (.int .i64 127744), D.a (.int .i64 129791)], [D.a (.int .i64 131072), D.a (.int .i64 262141)]])], []⟩) N ?_ ?_]
  · rcases hend with ⟨rfl, e⟩ | ⟨h8, e, hg⟩
    · simp [wd, hp, e]
    · rcases (by omega : N = 0 ∨ N = 1 ∨ N = 2 ∨ N = 3 ∨ N = 4 ∨ N = 5 ∨ N = 6 ∨ N = 7) with rfl | rfl | rfl | rfl | rfl | rfl | rfl | rfl
      · have g : inR r 4352 4447 = true := hg (4352, 4447) rfl
        simp [E_iin, g, wd, hp, e]
      · have g : inR r 11904 42191 = true := hg (11904, 42191) rfl
        simp [E_iin, g, wd, hp, e]
      · have g : inR r 44032 55203 = true := hg (44032, 55203) rfl
        simp [E_iin, g, wd, hp, e]
      · have g : inR r 63744 64255 = true := hg (63744, 64255) rfl
        simp [E_iin, g, wd, hp, e]
      · have g : inR r 65280 65376 = true := hg (65280, 65376) rfl
        simp [E_iin, g, wd, hp, e]
      · have g : inR r 65504 65510 = true := hg (65504, 65510) rfl
        simp [E_iin, g, wd, hp, e]
      · have g : inR r 127744 129791 = true := hg (127744, 129791) rfl
        simp [E_iin, g, wd, hp, e]
      · have g : inR r 131072 262141 = true := hg (131072, 262141) rfl
        simp [E_iin, g, wd, hp, e]
  · simp
  · intro j hj
    have hb := hbad j hj
    rcases (by omega : j = 0 ∨ j = 1 ∨ j = 2 ∨ j = 3 ∨ j = 4 ∨ j = 5 ∨ j = 6 ∨ j = 7) with rfl | rfl | rfl | rfl | rfl | rfl | rfl | rfl
    · have g : inR r 4352 4447 = false := hb (4352, 4447) rfl
      simp [E_iin, g]
    · have g : inR r 11904 42191 = false := hb (11904, 42191) rfl
      simp [E_iin, g]
    · have g : inR r 44032 55203 = false := hb (44032, 55203) rfl
      simp [E_iin, g]
    · have g : inR r 63744 64255 = false := hb (63744, 64255) rfl
      simp [E_iin, g]
    · have g : inR r 65280 65376 = false := hb (65280, 65376) rfl
      simp [E_iin, g]
    · have g : inR r 65504 65510 = false := hb (65504, 65510) rfl
      simp [E_iin, g]
    · have g : inR r 127744 129791 = false := hb (127744, 129791) rfl
      simp [E_iin, g]
    · have g : inR r 131072 262141 = false := hb (131072, 262141) rfl
      simp [E_iin, g]
theorem E_sl02Wide : M_sl02Wide [] [] [] = some ⟨.own 0, [], [(0, [[D.a (.int .i64 4352)], [D.a (.int .i64 4447)], [D.a (.int .i64 11904)], [D.a (.int .i64 42191)], [D.a (.int .i64 44032)], [D.a (.int .i64 55203)], [D.a (.int .i64 63744)], [D.a (.int .i64 64255)], [D.a (.int .i64 65280)], [D.a (.int .i64 65376)], [D.a (.int .i64 65504)], [D.a (.int .i64 65510)], [D.a (.int .i64 127744)], [D.a (.int .i64 129791)], [D.a (.int .i64 131072)], [D.a (.int .i64 262141)]])]⟩ := by
  unfold M_sl02Wide
  simp [Try.func164, Try.f164]
theorem E_sWidth (r : Int) : M_sWidth [V.v (.int .i64 r)] [] [] = some ⟨V.v (.int .i64 (wd r)), [], []⟩ := by
  unfold M_sWidth
  cases hp : printable r
  · simp [Try.func117, Try.f117, E_sPrintable, hp, wd]
  obtain ⟨N, hN8, hbad, hend⟩ := wide_first r
  simp [Try.func117, Try.f117, E_sPrintable, hp, E_sl02Wide]
  rw [loopV_go (fun j => .on ⟨[(4, V.v (.int .i64 (2 * (j : Int)))), (3, .own 2000000000), (0, V.v (.int .i64 r))], [], [(2000000000, [[D.a (.int .i64 4352)], [D.a (.int .i64 4447)], [D.a (.int .i64 11904)], [D.a (.int .i64 42191)], [D.a (.int .i64 44032)], [D.a (.int .i64 55203)], [D.a (.int .i64 63744)], [D.a (.int .i64 64255)], [D.a (.int .i64 65280)], [D.a (.int .i64 65376)], [D.a (.int .i64 65504)], [D.a (.int .i64 65510)], [D.a (.int .i64 127744)], [D.a (.int .i64 129791)], [D.a (.int .i64 131072)], [D.a (.int .i64 262141)]])], []⟩) N ?_ ?_]
  · rcases hend with ⟨rfl, e⟩ | ⟨h8, e, hg⟩
    · simp [wd, hp, e]
    · rcases (by omega : N = 0 ∨ N = 1 ∨ N = 2 ∨ N = 3 ∨ N = 4 ∨ N = 5 ∨ N = 6 ∨ N = 7) with rfl | rfl | rfl | rfl | rfl | rfl | rfl | rfl
      · have g : inR r 4352 4447 = true := hg (4352, 4447) rfl
        obtain ⟨g1, g2⟩ := inR_of g
        have w1 := w64 1 (by omega)
        simp [g1, g2, w1, wd, hp, e]
      · have g : inR r 11904 42191 = true := hg (11904, 42191) rfl
        obtain ⟨g1, g2⟩ := inR_of g
        have w1 := w64 3 (by omega)
        simp [g1, g2, w1, wd, hp, e]
      · have g : inR r 44032 55203 = true := hg (44032, 55203) rfl
        obtain ⟨g1, g2⟩ := inR_of g
        have w1 := w64 5 (by omega)
        simp [g1, g2, w1, wd, hp, e]
      · have g : inR r 63744 64255 = true := hg (63744, 64255) rfl
        obtain ⟨g1, g2⟩ := inR_of g
        have w1 := w64 7 (by omega)
        simp [g1, g2, w1, wd, hp, e]
      · have g : inR r 65280 65376 = true := hg (65280, 65376) rfl
        obtain ⟨g1, g2⟩ := inR_of g
        have w1 := w64 9 (by omega)
        simp [g1, g2, w1, wd, hp, e]
      · have g : inR r 65504 65510 = true := hg (65504, 65510) rfl
        obtain ⟨g1, g2⟩ := inR_of g
        have w1 := w64 11 (by omega)
        simp [g1, g2, w1, wd, hp, e]
      · have g : inR r 127744 129791 = true := hg (127744, 129791) rfl
        obtain ⟨g1, g2⟩ := inR_of g
        have w1 := w64 13 (by omega)
        simp [g1, g2, w1, wd, hp, e]
      · have g : inR r 131072 262141 = true := hg (131072, 262141) rfl
        obtain ⟨g1, g2⟩ := inR_of g
        have w1 := w64 15 (by omega)
        simp [g1, g2, w1, wd, hp, e]
  · simp
  · intro j hj
    have hb := hbad j hj
    rcases (by omega : j = 0 ∨ j = 1 ∨ j = 2 ∨ j = 3 ∨ j = 4 ∨ j = 5 ∨ j = 6 ∨ j = 7) with rfl | rfl | rfl | rfl | rfl | rfl | rfl | rfl
    · have g : inR r 4352 4447 = false := hb (4352, 4447) rfl
      have w1 := w64 1 (by omega)
      have w2 := w64 2 (by omega)
      by_cases g1 : 4352 ≤ r
      · have g2 : ¬ r ≤ 4447 := fun h => by rw [inR_iff.2 ⟨g1, h⟩] at g; cases g
        simp [g1, g2, w1, w2]
      · simp [g1, w1, w2]
    · have g : inR r 11904 42191 = false := hb (11904, 42191) rfl
      have w1 := w64 3 (by omega)
      have w2 := w64 4 (by omega)
      by_cases g1 : 11904 ≤ r
      · have g2 : ¬ r ≤ 42191 := fun h => by rw [inR_iff.2 ⟨g1, h⟩] at g; cases g
        simp [g1, g2, w1, w2]
      · simp [g1, w1, w2]
    · have g : inR r 44032 55203 = false := hb (44032, 55203) rfl
      have w1 := w64 5 (by omega)
      have w2 := w64 6 (by omega)
      by_cases g1 : 44032 ≤ r
      · have g2 : ¬ r ≤ 55203 := fun h => by rw [inR_iff.2 ⟨g1, h⟩] at g; cases g
        simp [g1, g2, w1, w2]
      · simp [g1, w1, w2]
    · have g : inR r 63744 64255 = false := hb (63744, 64255) rfl
      have w1 := w64 7 (by omega)
      have w2 := w64 8 (by omega)
      by_cases g1 : 63744 ≤ r
      · have g2 : ¬ r ≤ 64255 := fun h => by rw [inR_iff.2 ⟨g1, h⟩] at g; cases g
        simp [g1, g2, w1, w2]
      · simp [g1, w1, w2]
    · have g : inR r 65280 65376 = false := hb (65280, 65376) rfl
      have w1 := w64 9 (by omega)
      have w2 := w64 10 (by omega)
      by_cases g1 : 65280 ≤ r
      · have g2 : ¬ r ≤ 65376 := fun h => by rw [inR_iff.2 ⟨g1, h⟩] at g; cases g
        simp [g1, g2, w1, w2]
      · simp [g1, w1, w2]
    · have g : inR r 65504 65510 = false := hb (65504, 65510) rfl
      have w1 := w64 11 (by omega)
      have w2 := w64 12 (by omega)
      by_cases g1 : 65504 ≤ r
      · have g2 : ¬ r ≤ 65510 := fun h => by rw [inR_iff.2 ⟨g1, h⟩] at g; cases g
        simp [g1, g2, w1, w2]
      · simp [g1, w1, w2]
    · have g : inR r 127744 129791 = false := hb (127744, 129791) rfl
      have w1 := w64 13 (by omega)
      have w2 := w64 14 (by omega)
      by_cases g1 : 127744 ≤ r
      · have g2 : ¬ r ≤ 129791 := fun h => by rw [inR_iff.2 ⟨g1, h⟩] at g; cases g
        simp [g1, g2, w1, w2]
      · simp [g1, w1, w2]
    · have g : inR r 131072 262141 = false := hb (131072, 262141) rfl
      have w1 := w64 15 (by omega)
      have w2 := w64 16 (by omega)
      by_cases g1 : 131072 ≤ r
      · have g2 : ¬ r ≤ 262141 := fun h => by rw [inR_iff.2 ⟨g1, h⟩] at g; cases g
        simp [g1, g2, w1, w2]
      · simp [g1, w1, w2]
end Go.Proofs.Ytacnbajcignacaa
namespace Go.Proofs.Ytacnbajcignacaa
open Go.RowKit
set_option linter.unusedSimpArgs false
set_option linter.unusedVariables false
set_option maxHeartbeats 4000000
set_option maxRecDepth 10000
theorem by8_nat {x : Int} (h : 0 ≤ x ∧ x ≤ 255) : ((by8 x).toNat : Int) = x := by
  rw [← u8_by8 x h, u8_in x h]
theorem by8_of (c : UInt8) : by8 (c.toNat : Int) = c := by simp [by8]
def nat8 (b : List UInt8) (i : Nat) : Int := ((b[i]?.getD 0).toNat : Int)
theorem nat8_range (b : List UInt8) (i : Nat) : 0 ≤ nat8 b i ∧ nat8 b i ≤ 255 := by
  have := (b[i]?.getD 0).toNat_lt
  unfold nat8; omega
def val (b : List UInt8) : Nat → Int
  | 1 => nat8 b 0
  | 2 => (nat8 b 0 - 192) * 64 + nat8 b 1 - 128
  | 3 => ((nat8 b 0 - 224) * 64 + nat8 b 1 - 128) * 64 + nat8 b 2 - 128
  | 4 => (((nat8 b 0 - 240) * 64 + nat8 b 1 - 128) * 64 + nat8 b 2 - 128) * 64 + nat8 b 3 - 128
  | _ => 0
def cls (c : Int) : Nat := if c < 128 then 1 else if inR c 192 223 then 2 else if inR c 224 239 then 3 else if inR c 240 247 then 4 else 0
def dec : List UInt8 → Option (Int × Nat)
  | [] => none
  | c :: l => if cls (nat8 (c :: l) 0) ≠ 0 ∧ cls (nat8 (c :: l) 0) ≤ (c :: l).length ∧ runeBytes (val (c :: l) (cls (nat8 (c :: l) 0))) = (c :: l).take (cls (nat8 (c :: l) 0)) then some (val (c :: l) (cls (nat8 (c :: l) 0)), cls (nat8 (c :: l) 0)) else none
theorem dec_cons (c : UInt8) (l : List UInt8) : dec (c :: l) = if cls (nat8 (c :: l) 0) ≠ 0 ∧ cls (nat8 (c :: l) 0) ≤ (c :: l).length ∧ runeBytes (val (c :: l) (cls (nat8 (c :: l) 0))) = (c :: l).take (cls (nat8 (c :: l) 0)) then some (val (c :: l) (cls (nat8 (c :: l) 0)), cls (nat8 (c :: l) 0)) else none := rfl
theorem runeBytes_cases {r : Int} (h : runeOk r = true) :
    (0 ≤ r ∧ r < 128 ∧ runeBytes r = [by8 r]) ∨ (128 ≤ r ∧ r < 2048 ∧ runeBytes r = [by8 (192 + r / 64), by8 (128 + r % 64)]) ∨
    (2048 ≤ r ∧ r < 65536 ∧ runeBytes r = [by8 (224 + r / 4096), by8 (128 + r / 64 % 64), by8 (128 + r % 64)]) ∨
    (65536 ≤ r ∧ r ≤ 1114111 ∧ runeBytes r = [by8 (240 + r / 262144), by8 (128 + r / 4096 % 64), by8 (128 + r / 64 % 64), by8 (128 + r % 64)]) := by
  obtain ⟨a, b⟩ := runeOk_range h
  by_cases h1 : r < 128
  · exact .inl ⟨a, h1, by simp [runeBytes, h, h1]⟩
  by_cases h2 : r < 2048
  · exact .inr (.inl ⟨by omega, h2, by simp [runeBytes, h, h1, h2]⟩)
  by_cases h3 : r < 65536
  · exact .inr (.inr (.inl ⟨by omega, h3, by simp [runeBytes, h, h1, h2, h3]⟩))
  · exact .inr (.inr (.inr ⟨by omega, b, by simp [runeBytes, h, h1, h2, h3]⟩))
theorem dec_rune {r : Int} (h : runeOk r = true) (t : List UInt8) : dec (runeBytes r ++ t) = some (r, (runeBytes r).length) := by
  rcases runeBytes_cases h with ⟨a, b, e⟩ | ⟨a, b, e⟩ | ⟨a, b, e⟩ | ⟨a, b, e⟩
  · have h0 := by8_nat (x := r) (by omega)
    have hc : cls r = 1 := by simp [cls, b]
    rw [e]
    simp [dec, nat8, h0, hc, val, e]
  · have h0 := by8_nat (x := 192 + r / 64) (by omega)
    have h1 := by8_nat (x := 128 + r % 64) (by omega)
    have hc : cls (192 + r / 64) = 2 := by
      have : ¬ 192 + r / 64 < 128 := by omega
      have i1 : inR (192 + r / 64) 192 223 = true := inR_iff.2 (by omega)
      simp [cls, this, i1]
    have hv : (192 + r / 64 - 192) * 64 + (128 + r % 64) - 128 = r := by omega
    rw [e]
    simp [dec, nat8, h0, h1, hc, val, hv, e]
  · have h0 := by8_nat (x := 224 + r / 4096) (by omega)
    have h1 := by8_nat (x := 128 + r / 64 % 64) (by omega)
    have h2 := by8_nat (x := 128 + r % 64) (by omega)
    have hc : cls (224 + r / 4096) = 3 := by
      have : ¬ 224 + r / 4096 < 128 := by omega
      have i1 : inR (224 + r / 4096) 192 223 = false := inR_no (by rw [inR_iff]; omega)
      have i2 : inR (224 + r / 4096) 224 239 = true := inR_iff.2 (by omega)
      simp [cls, this, i1, i2]
    have hv : ((224 + r / 4096 - 224) * 64 + (128 + r / 64 % 64) - 128) * 64 + (128 + r % 64) - 128 = r := by omega
    rw [e]
    simp [dec, nat8, h0, h1, h2, hc, val, hv, e]
  · have h0 := by8_nat (x := 240 + r / 262144) (by omega)
    have h1 := by8_nat (x := 128 + r / 4096 % 64) (by omega)
    have h2 := by8_nat (x := 128 + r / 64 % 64) (by omega)
    have h3 := by8_nat (x := 128 + r % 64) (by omega)
    have hc : cls (240 + r / 262144) = 4 := by
      have : ¬ 240 + r / 262144 < 128 := by omega
      have i1 : inR (240 + r / 262144) 192 223 = false := inR_no (by rw [inR_iff]; omega)
      have i2 : inR (240 + r / 262144) 224 239 = false := inR_no (by rw [inR_iff]; omega)
      have i3 : inR (240 + r / 262144) 240 247 = true := inR_iff.2 (by omega)
      simp [cls, this, i1, i2, i3]
    have hv : (((240 + r / 262144 - 240) * 64 + (128 + r / 4096 % 64) - 128) * 64 + (128 + r / 64 % 64) - 128) * 64 + (128 + r % 64) - 128 = r := by omega
    rw [e]
    simp [dec, nat8, h0, h1, h2, h3, hc, val, hv, e]
theorem runeBytes_ok {r : Int} (h : runeBytes r ≠ []) : runeOk r = true := by
  cases e : runeOk r
  · exact absurd (by simp [runeBytes, e]) h
  · rfl
theorem dec_some {b : List UInt8} {r : Int} {n : Nat} (h : dec b = some (r, n)) : runeOk r = true ∧ runeBytes r = b.take n ∧ n ≤ b.length ∧ n = (runeBytes r).length ∧ 1 ≤ n := by
  cases b with
  | nil => cases h
  | cons c l =>
    rw [dec_cons] at h
    by_cases hc : cls (nat8 (c :: l) 0) ≠ 0 ∧ cls (nat8 (c :: l) 0) ≤ (c :: l).length ∧ runeBytes (val (c :: l) (cls (nat8 (c :: l) 0))) = (c :: l).take (cls (nat8 (c :: l) 0))
    · rw [if_pos hc] at h
      obtain ⟨h1, h2, h3⟩ := hc
      simp only [Option.some.injEq, Prod.mk.injEq] at h
      obtain ⟨e1, e2⟩ := h
      rw [e1, e2] at h3
      rw [e2] at h1 h2
      have hlen : (runeBytes r).length = n := by rw [h3]; simp only [List.length_take]; omega
      exact ⟨runeBytes_ok (fun e => by rw [e] at hlen; simp at hlen; omega), h3, h2, hlen.symm, by omega⟩
    · rw [if_neg hc] at h; cases h
theorem cls_of {b : List UInt8} {n : Nat} (h1 : 1 ≤ n) (h2 : n ≤ b.length) (h3 : runeBytes (val b n) = b.take n) : cls (nat8 b 0) = n ∧ dec b = some (val b n, n) := by
  have hn : b.take n ≠ [] := fun e => by
    have : (b.take n).length = 0 := by rw [e]; rfl
    simp only [List.length_take] at this
    omega
  have ok := runeBytes_ok (r := val b n) (by rw [h3]; exact hn)
  have hd := dec_rune ok (b.drop n)
  rw [h3, List.take_append_drop] at hd
  have hl : (b.take n).length = n := by simp only [List.length_take]; omega
  rw [hl] at hd
  refine ⟨?_, hd⟩
  cases b with
  | nil => cases hd
  | cons c l =>
    rw [dec_cons] at hd
    by_cases hc : cls (nat8 (c :: l) 0) ≠ 0 ∧ cls (nat8 (c :: l) 0) ≤ (c :: l).length ∧ runeBytes (val (c :: l) (cls (nat8 (c :: l) 0))) = (c :: l).take (cls (nat8 (c :: l) 0))
    · rw [if_pos hc] at hd
      simp only [Option.some.injEq, Prod.mk.injEq] at hd; exact hd.2
    · rw [if_neg hc] at hd; cases hd
theorem dec_none {b : List UInt8} (h : dec b = none) (n : Nat) (h1 : 1 ≤ n) (h2 : n ≤ b.length) : runeBytes (val b n) ≠ b.take n := fun h3 => by
  rw [(cls_of h1 h2 h3).2] at h; cases h
def Reads (b : List UInt8) (l : List Int) (rest : List UInt8) : Prop := b = textOf l ++ rest ∧ (∀ r ∈ l, runeOk r = true) ∧ dec rest = none
theorem reads_ex : ∀ (n : Nat) (b : List UInt8), b.length ≤ n → ∃ l rest, Reads b l rest
  | 0, b, h => ⟨[], [], by cases b with
    | nil => exact ⟨rfl, by simp, rfl⟩
    | cons c l => simp at h⟩
  | n + 1, b, h => by
    cases e : dec b with
    | none => exact ⟨[], b, rfl, by simp, e⟩
    | some x =>
      obtain ⟨r, k⟩ := x
      obtain ⟨a1, a2, a3, a4, a5⟩ := dec_some e
      obtain ⟨l, rest, h1, h2, h3⟩ := reads_ex n (b.drop k) (by simp only [List.length_drop]; omega)
      refine ⟨r :: l, rest, ?_, ?_, h3⟩
      · rw [textOf, List.flatMap_cons, a2, List.append_assoc, ← textOf, ← h1, List.take_append_drop]
      · intro x hx
        rcases List.mem_cons.1 hx with rfl | hx
        · exact a1
        · exact h2 x hx
theorem Reads.at {b : List UInt8} {l : List Int} {rest : List UInt8} (h : Reads b l rest) {j : Nat} (hj : j < l.length) :
    (textOf (l.take j)).length < b.length ∧ dec (b.drop (textOf (l.take j)).length) = some (l[j], (runeBytes l[j]).length) ∧ (textOf (l.take j)).length + (runeBytes l[j]).length = (textOf (l.take (j + 1))).length := by
  obtain ⟨h1, h2, h3⟩ := h
  have ok := h2 l[j] (List.getElem_mem hj)
  have e : l = l.take j ++ l[j] :: l.drop (j + 1) := by
    rw [List.getElem_cons_drop, List.take_append_drop]
  have e2 : textOf l = textOf (l.take j) ++ (runeBytes l[j] ++ textOf (l.drop (j + 1))) := by
    conv => lhs; rw [e]
    unfold textOf
    rw [List.flatMap_append, List.flatMap_cons]
  have e3 : b.drop (textOf (l.take j)).length = runeBytes l[j] ++ (textOf (l.drop (j + 1)) ++ rest) := by
    rw [h1, e2, List.append_assoc, List.drop_left, List.append_assoc]
  have hpos : 1 ≤ (runeBytes l[j]).length := by
    rcases runeBytes_cases ok with ⟨_, _, e⟩ | ⟨_, _, e⟩ | ⟨_, _, e⟩ | ⟨_, _, e⟩ <;> rw [e] <;> simp
  refine ⟨?_, ?_, ?_⟩
  · rw [h1, e2]; simp only [List.length_append]; omega
  · rw [e3]; exact dec_rune ok _
  · rw [textOf_take hj, List.length_append]
theorem Reads.end {b : List UInt8} {l : List Int} {rest : List UInt8} (h : Reads b l rest) : b.drop (textOf l).length = rest ∧ (textOf l).length + rest.length = b.length := by
  obtain ⟨h1, h2, h3⟩ := h
  subst h1
  exact ⟨List.drop_left, by simp⟩
theorem Reads.len {b : List UInt8} {l : List Int} {rest : List UInt8} (h : Reads b l rest) : l.length ≤ b.length := by
  obtain ⟨h1, h2, h3⟩ := h
  subst h1
  have : ∀ l : List Int, (∀ r ∈ l, runeOk r = true) → l.length ≤ (textOf l).length := by
    intro l; induction l with
    | nil => intro _; simp
    | cons r l ih =>
      intro hl
      have := ih fun x hx => hl x (List.mem_cons_of_mem _ hx)
      have hpos : 1 ≤ (runeBytes r).length := by
        rcases runeBytes_cases (hl r (List.mem_cons_self ..)) with ⟨_, _, e⟩ | ⟨_, _, e⟩ | ⟨_, _, e⟩ | ⟨_, _, e⟩ <;> rw [e] <;> simp
      simp only [textOf, List.flatMap_cons, List.length_append, List.length_cons] at this ⊢; omega
  have := this l h2
  simp only [List.length_append]; omega
end Go.Proofs.Ytacnbajcignacaa
namespace Go.Proofs.Ytacnbajcignacaa
open Go.RowKit
set_option linter.unusedSimpArgs false
set_option linter.unusedVariables false
set_option maxHeartbeats 8000000
set_option maxRecDepth 10000
theorem nat8_drop {b : List UInt8} {k i : Nat} (h : k + i < b.length) : nat8 (b.drop k) i = (b[k + i].toNat : Int) := by
  unfold nat8
  rw [List.getElem?_drop, List.getElem?_eq_getElem h]; rfl
theorem nat8_drop0 {b : List UInt8} {k : Nat} (h : k < b.length) : nat8 (b.drop k) 0 = (b[k].toNat : Int) := nat8_drop (i := 0) h
theorem dec_at {b : List UInt8} {k : Nat} (h : k < b.length) : dec (b.drop k) = if cls (b[k].toNat : Int) ≠ 0 ∧ k + cls (b[k].toNat : Int) ≤ b.length ∧ runeBytes (val (b.drop k) (cls (b[k].toNat : Int))) = (b.drop k).take (cls (b[k].toNat : Int)) then some (val (b.drop k) (cls (b[k].toNat : Int)), cls (b[k].toNat : Int)) else none := by
  have e : b.drop k = b[k] :: b.drop (k + 1) := (List.drop_eq_getElem_cons h)
  have hn := nat8_drop0 h
  rw [e] at hn ⊢
  rw [dec_cons, hn]
  have hl : (b[k] :: b.drop (k + 1)).length = b.length - k := by rw [← e, List.length_drop]
  rw [hl]
  congr 1
  simp only [eq_iff_iff]
  constructor
  · rintro ⟨a, b, c⟩; exact ⟨a, by omega, c⟩
  · rintro ⟨a, b, c⟩; exact ⟨a, by omega, c⟩
theorem cut1 {b : List UInt8} {k : Nat} (h : k < b.length) : (b.drop k).take 1 = [b[k]] := by
  rw [List.drop_eq_getElem_cons h]; rfl
theorem cut2 {b : List UInt8} {k : Nat} (h : k + 1 < b.length) : (b.drop k).take 2 = [b[k], b[k + 1]] := by
  rw [List.drop_eq_getElem_cons (by omega : k < b.length), List.take_succ_cons, cut1 h]
theorem cut3 {b : List UInt8} {k : Nat} (h : k + 2 < b.length) : (b.drop k).take 3 = [b[k], b[k + 1], b[k + 2]] := by
  rw [List.drop_eq_getElem_cons (by omega : k < b.length), List.take_succ_cons, cut2 (by omega)]
theorem cut4 {b : List UInt8} {k : Nat} (h : k + 3 < b.length) : (b.drop k).take 4 = [b[k], b[k + 1], b[k + 2], b[k + 3]] := by
  rw [List.drop_eq_getElem_cons (by omega : k < b.length), List.take_succ_cons, cut3 (by omega)]
def decR : Option (Int × Nat) → Int
  | some x => x.1
  | none => 0
def decN : Option (Int × Nat) → Int
  | some x => x.2
  | none => 0
theorem toList_arr (l : List UInt8) : (ByteArray.mk l.toArray).toList = l := by simp
theorem E_iRuneRead (b : List UInt8) (k : Nat) (hk : k < b.length) (hb : b.length ≤ 1000000000) : M_iRuneRead [.lst (some 0) (byts b), V.v (.int .i64 ((k : Int)))] [] [] = some ⟨.tup [V.v (.int .i64 (decR (dec (b.drop k)))), V.v (.int .i64 (decN (dec (b.drop k))))], [], []⟩ := by
  unfold M_iRuneRead
  have hc := b[k].toNat_lt
  have h1 : ¬ ((b.length : Int) ≤ k) := by omega
  have h0 : ¬ ((k : Int) < 0) := by omega
  have w0 := w64 (b[k].toNat : Int) (by omega)
  rw [dec_at hk]
  generalize hx : (b[k].toNat : Int) = x at w0
  have hx0 : 0 ≤ x ∧ x ≤ 255 := by omega
  have hxo : UInt8.ofNat x.toNat = b[k] := by rw [← hx]; simp
  by_cases c1 : x < 128
  · have e1 : cls x = 1 := by simp [cls, c1]
    have hok : runeOk x = true := by
      have i1 : inR x 0 1114111 = true := inR_iff.2 (by omega)
      have i2 : inR x 55296 57343 = false := inR_no (by rw [inR_iff]; omega)
      simp [runeOk, i1, i2]
    have e2 : val (b.drop k) 1 = x := by rw [val, nat8_drop0 hk, hx]
    have e3 : runeBytes x = (b.drop k).take 1 := by
      rw [cut1 hk]; simp [runeBytes, hok, c1]; rw [← hx, by8_of]
    have e4 : k + 1 ≤ b.length := hk
    simp [Try.func105, Try.f105, h0, h1, hk, byts_get hk, hx, w0, c1, e1, e2, e3, e4, decR, decN]
  by_cases c2 : inR x 192 223 = true
  · have e1 : cls x = 2 := by simp [cls, c1, c2]
    obtain ⟨a1, a2⟩ := inR_of c2
    have w1 := w64 (x - 192) (by omega)
    have w2 := w64 ((b.length : Int) - 2) (by omega)
    by_cases e4 : k + 2 ≤ b.length
    · have e5 : ¬ ((b.length : Int) - 2 < k) := by omega
      have w3 := w64 ((k : Int) + 1) (by omega)
      have w4 := w64 ((k : Int) + 2) (by omega)
      have f1 : (0 : Int) ≤ (k : Int) + 1 := by omega
      have f2 : (k : Int) + 2 ≤ b.length := by omega
      have f3 : ((k : Int) + 2).toNat = k + 2 := by omega
      have f4 : k + 2 - (k + 1) = 1 := by omega
      have f5 : k + 2 - k = 2 := by omega
      have f7 : (k : Int) ≤ (k : Int) + 2 := by omega
      have f8 : (k : Int) + 1 ≤ (k : Int) + 2 := by omega
      have g1 : k + 1 < b.length := by omega
      have r1 := b[k + 1].toNat_lt
      have p1 := w64 (b[k + 1].toNat : Int) (by omega)
      have q10 := w64 ((x - 192) * 64) (by omega)
      have q11 := w64 ((x - 192) * 64 + (b[k + 1].toNat : Int)) (by omega)
      have q12 := w64 ((x - 192) * 64 + (b[k + 1].toNat : Int) - 128) (by omega)
      have v1 : val (b.drop k) 2 = (x - 192) * 64 + (b[k + 1].toNat : Int) - 128 := by rw [val, nat8_drop0 hk, nat8_drop g1, hx]
      have z0 : runeBytes ((x - 192) * 64 + (b[k + 1].toNat : Int) - 128) = [b[k], b[k + 1]] ∨ runeBytes ((x - 192) * 64 + (b[k + 1].toNat : Int) - 128) ≠ [b[k], b[k + 1]] := Decidable.em _
      rcases z0 with z | z
      · simp [Try.func105, Try.f105, h0, h1, hk, byts_get hk, hx, w0, c1, c2, e1, e4, e5, w1, w2, w3, w4, decR, decN, E_iin, f1, f2, f3, f4, f5, f7, f8, cut1 (k := k + 1) g1, cut2 g1, byts_cons, byts_nil, loopV_unf, p1, q10, q11, q12, E_iRuneBytes, bytes_of_byts, v1, z, hxo]
      · simp [Try.func105, Try.f105, h0, h1, hk, byts_get hk, hx, w0, c1, c2, e1, e4, e5, w1, w2, w3, w4, decR, decN, E_iin, f1, f2, f3, f4, f5, f7, f8, cut1 (k := k + 1) g1, cut2 g1, byts_cons, byts_nil, loopV_unf, p1, q10, q11, q12, E_iRuneBytes, bytes_of_byts, v1, z, hxo]
    · have e5 : (b.length : Int) - 2 < k := by omega
      simp [Try.func105, Try.f105, h0, h1, hk, byts_get hk, hx, w0, c1, c2, e1, e4, e5, w1, w2, decR, decN, E_iin]
  by_cases c3 : inR x 224 239 = true
  · have e1 : cls x = 3 := by simp [cls, c1, c2, c3]
    obtain ⟨a1, a2⟩ := inR_of c3
    have w1 := w64 (x - 224) (by omega)
    have w2 := w64 ((b.length : Int) - 3) (by omega)
    by_cases e4 : k + 3 ≤ b.length
    · have e5 : ¬ ((b.length : Int) - 3 < k) := by omega
      have w3 := w64 ((k : Int) + 1) (by omega)
      have w4 := w64 ((k : Int) + 3) (by omega)
      have f1 : (0 : Int) ≤ (k : Int) + 1 := by omega
      have f2 : (k : Int) + 3 ≤ b.length := by omega
      have f3 : ((k : Int) + 3).toNat = k + 3 := by omega
      have f4 : k + 3 - (k + 1) = 2 := by omega
      have f5 : k + 3 - k = 3 := by omega
      have f7 : (k : Int) ≤ (k : Int) + 3 := by omega
      have f8 : (k : Int) + 1 ≤ (k : Int) + 3 := by omega
      have g1 : k + 1 < b.length := by omega
      have r1 := b[k + 1].toNat_lt
      have p1 := w64 (b[k + 1].toNat : Int) (by omega)
      have g2 : k + 2 < b.length := by omega
      have r2 := b[k + 2].toNat_lt
      have p2 := w64 (b[k + 2].toNat : Int) (by omega)
      have q10 := w64 ((x - 224) * 64) (by omega)
      have q11 := w64 ((x - 224) * 64 + (b[k + 1].toNat : Int)) (by omega)
      have q12 := w64 ((x - 224) * 64 + (b[k + 1].toNat : Int) - 128) (by omega)
      have q20 := w64 (((x - 224) * 64 + (b[k + 1].toNat : Int) - 128) * 64) (by omega)
      have q21 := w64 (((x - 224) * 64 + (b[k + 1].toNat : Int) - 128) * 64 + (b[k + 2].toNat : Int)) (by omega)
      have q22 := w64 (((x - 224) * 64 + (b[k + 1].toNat : Int) - 128) * 64 + (b[k + 2].toNat : Int) - 128) (by omega)
      have v1 : val (b.drop k) 3 = ((x - 224) * 64 + (b[k + 1].toNat : Int) - 128) * 64 + (b[k + 2].toNat : Int) - 128 := by rw [val, nat8_drop0 hk, nat8_drop g1, nat8_drop g2, hx]
      have z0 : runeBytes (((x - 224) * 64 + (b[k + 1].toNat : Int) - 128) * 64 + (b[k + 2].toNat : Int) - 128) = [b[k], b[k + 1], b[k + 2]] ∨ runeBytes (((x - 224) * 64 + (b[k + 1].toNat : Int) - 128) * 64 + (b[k + 2].toNat : Int) - 128) ≠ [b[k], b[k + 1], b[k + 2]] := Decidable.em _
      rcases z0 with z | z
      · simp [Try.func105, Try.f105, h0, h1, hk, byts_get hk, hx, w0, c1, c2, c3, e1, e4, e5, w1, w2, w3, w4, decR, decN, E_iin, f1, f2, f3, f4, f5, f7, f8, cut2 (k := k + 1) g2, cut3 g2, byts_cons, byts_nil, loopV_unf, p1, p2, q10, q11, q12, q20, q21, q22, E_iRuneBytes, bytes_of_byts, v1, z, hxo]
      · simp [Try.func105, Try.f105, h0, h1, hk, byts_get hk, hx, w0, c1, c2, c3, e1, e4, e5, w1, w2, w3, w4, decR, decN, E_iin, f1, f2, f3, f4, f5, f7, f8, cut2 (k := k + 1) g2, cut3 g2, byts_cons, byts_nil, loopV_unf, p1, p2, q10, q11, q12, q20, q21, q22, E_iRuneBytes, bytes_of_byts, v1, z, hxo]
    · have e5 : (b.length : Int) - 3 < k := by omega
      simp [Try.func105, Try.f105, h0, h1, hk, byts_get hk, hx, w0, c1, c2, c3, e1, e4, e5, w1, w2, decR, decN, E_iin]
  by_cases c4 : inR x 240 247 = true
  · have e1 : cls x = 4 := by simp [cls, c1, c2, c3, c4]
    obtain ⟨a1, a2⟩ := inR_of c4
    have w1 := w64 (x - 240) (by omega)
    have w2 := w64 ((b.length : Int) - 4) (by omega)
    by_cases e4 : k + 4 ≤ b.length
    · have e5 : ¬ ((b.length : Int) - 4 < k) := by omega
      have w3 := w64 ((k : Int) + 1) (by omega)
      have w4 := w64 ((k : Int) + 4) (by omega)
      have f1 : (0 : Int) ≤ (k : Int) + 1 := by omega
      have f2 : (k : Int) + 4 ≤ b.length := by omega
      have f3 : ((k : Int) + 4).toNat = k + 4 := by omega
      have f4 : k + 4 - (k + 1) = 3 := by omega
      have f5 : k + 4 - k = 4 := by omega
      have f7 : (k : Int) ≤ (k : Int) + 4 := by omega
      have f8 : (k : Int) + 1 ≤ (k : Int) + 4 := by omega
      have g1 : k + 1 < b.length := by omega
      have r1 := b[k + 1].toNat_lt
      have p1 := w64 (b[k + 1].toNat : Int) (by omega)
      have g2 : k + 2 < b.length := by omega
      have r2 := b[k + 2].toNat_lt
      have p2 := w64 (b[k + 2].toNat : Int) (by omega)
      have g3 : k + 3 < b.length := by omega
      have r3 := b[k + 3].toNat_lt
      have p3 := w64 (b[k + 3].toNat : Int) (by omega)
      have q10 := w64 ((x - 240) * 64) (by omega)
      have q11 := w64 ((x - 240) * 64 + (b[k + 1].toNat : Int)) (by omega)
      have q12 := w64 ((x - 240) * 64 + (b[k + 1].toNat : Int) - 128) (by omega)
      have q20 := w64 (((x - 240) * 64 + (b[k + 1].toNat : Int) - 128) * 64) (by omega)
      have q21 := w64 (((x - 240) * 64 + (b[k + 1].toNat : Int) - 128) * 64 + (b[k + 2].toNat : Int)) (by omega)
      have q22 := w64 (((x - 240) * 64 + (b[k + 1].toNat : Int) - 128) * 64 + (b[k + 2].toNat : Int) - 128) (by omega)
      have q30 := w64 ((((x - 240) * 64 + (b[k + 1].toNat : Int) - 128) * 64 + (b[k + 2].toNat : Int) - 128) * 64) (by omega)
      have q31 := w64 ((((x - 240) * 64 + (b[k + 1].toNat : Int) - 128) * 64 + (b[k + 2].toNat : Int) - 128) * 64 + (b[k + 3].toNat : Int)) (by omega)
      have q32 := w64 ((((x - 240) * 64 + (b[k + 1].toNat : Int) - 128) * 64 + (b[k + 2].toNat : Int) - 128) * 64 + (b[k + 3].toNat : Int) - 128) (by omega)
      have v1 : val (b.drop k) 4 = (((x - 240) * 64 + (b[k + 1].toNat : Int) - 128) * 64 + (b[k + 2].toNat : Int) - 128) * 64 + (b[k + 3].toNat : Int) - 128 := by rw [val, nat8_drop0 hk, nat8_drop g1, nat8_drop g2, nat8_drop g3, hx]
      have z0 : runeBytes ((((x - 240) * 64 + (b[k + 1].toNat : Int) - 128) * 64 + (b[k + 2].toNat : Int) - 128) * 64 + (b[k + 3].toNat : Int) - 128) = [b[k], b[k + 1], b[k + 2], b[k + 3]] ∨ runeBytes ((((x - 240) * 64 + (b[k + 1].toNat : Int) - 128) * 64 + (b[k + 2].toNat : Int) - 128) * 64 + (b[k + 3].toNat : Int) - 128) ≠ [b[k], b[k + 1], b[k + 2], b[k + 3]] := Decidable.em _
      rcases z0 with z | z
      · simp [Try.func105, Try.f105, h0, h1, hk, byts_get hk, hx, w0, c1, c2, c3, c4, e1, e4, e5, w1, w2, w3, w4, decR, decN, E_iin, f1, f2, f3, f4, f5, f7, f8, cut3 (k := k + 1) g3, cut4 g3, byts_cons, byts_nil, loopV_unf, p1, p2, p3, q10, q11, q12, q20, q21, q22, q30, q31, q32, E_iRuneBytes, bytes_of_byts, v1, z, hxo]
      · simp [Try.func105, Try.f105, h0, h1, hk, byts_get hk, hx, w0, c1, c2, c3, c4, e1, e4, e5, w1, w2, w3, w4, decR, decN, E_iin, f1, f2, f3, f4, f5, f7, f8, cut3 (k := k + 1) g3, cut4 g3, byts_cons, byts_nil, loopV_unf, p1, p2, p3, q10, q11, q12, q20, q21, q22, q30, q31, q32, E_iRuneBytes, bytes_of_byts, v1, z, hxo]
    · have e5 : (b.length : Int) - 4 < k := by omega
      simp [Try.func105, Try.f105, h0, h1, hk, byts_get hk, hx, w0, c1, c2, c3, c4, e1, e4, e5, w1, w2, decR, decN, E_iin]
  have e1 : cls x = 0 := by simp [cls, c1, c2, c3, c4]
  simp [Try.func105, Try.f105, h0, h1, hk, byts_get hk, hx, w0, c1, c2, c3, c4, e1, decR, decN, E_iin]
theorem dec_val {b : List UInt8} {r : Int} {n : Nat} (h : dec b = some (r, n)) : r = val b n ∧ n ≤ 4 := by
  cases b with
  | nil => cases h
  | cons c l =>
    rw [dec_cons] at h
    by_cases hc : cls (nat8 (c :: l) 0) ≠ 0 ∧ cls (nat8 (c :: l) 0) ≤ (c :: l).length ∧ runeBytes (val (c :: l) (cls (nat8 (c :: l) 0))) = (c :: l).take (cls (nat8 (c :: l) 0))
    · rw [if_pos hc] at h
      simp only [Option.some.injEq, Prod.mk.injEq] at h
      refine ⟨by rw [← h.1, h.2], ?_⟩
      rw [← h.2]
      unfold cls
      split
      · omega
      split
      · omega
      split
      · omega
      split <;> omega
    · rw [if_neg hc] at h; cases h
theorem dec_find (b : List UInt8) : ∃ N, N ≤ 4 ∧ (∀ j, j < N → j + 1 ≤ b.length ∧ runeBytes (val b (j + 1)) ≠ b.take (j + 1)) ∧ ((N < 4 ∧ N + 1 ≤ b.length ∧ runeBytes (val b (N + 1)) = b.take (N + 1) ∧ dec b = some (val b (N + 1), N + 1)) ∨ ((N = 4 ∨ b.length < N + 1) ∧ dec b = none)) := by
  have step : ∀ n, n ≤ 4 → (∀ j, j < n → j + 1 ≤ b.length ∧ runeBytes (val b (j + 1)) ≠ b.take (j + 1)) → ∃ N, N ≤ 4 ∧ (∀ j, j < N → j + 1 ≤ b.length ∧ runeBytes (val b (j + 1)) ≠ b.take (j + 1)) ∧ ((N < 4 ∧ N + 1 ≤ b.length ∧ runeBytes (val b (N + 1)) = b.take (N + 1) ∧ dec b = some (val b (N + 1), N + 1)) ∨ ((N = 4 ∨ b.length < N + 1) ∧ dec b = none)) := by
    intro n
    induction h : 4 - n generalizing n with
    | zero =>
      intro hn hall
      refine ⟨n, hn, hall, .inr ⟨.inl (by omega), ?_⟩⟩
      cases e : dec b with
      | none => rfl
      | some x =>
        obtain ⟨r, m⟩ := x
        obtain ⟨a1, a2, a3, a4, a5⟩ := dec_some e
        obtain ⟨v1, v2⟩ := dec_val e
        have := (hall (m - 1) (by omega)).2
        rw [show m - 1 + 1 = m by omega, ← v1] at this
        exact absurd a2 this
    | succ d ih =>
      intro hn hall
      by_cases hl : n + 1 ≤ b.length
      · by_cases ht : runeBytes (val b (n + 1)) = b.take (n + 1)
        · exact ⟨n, hn, hall, .inl ⟨by omega, hl, ht, (cls_of (by omega) hl ht).2⟩⟩
        · refine ih (n + 1) (by omega) (by omega) fun j hj => ?_
          rcases Nat.lt_or_ge j n with h1 | h1
          · exact hall j h1
          · obtain rfl : j = n := by omega
            exact ⟨hl, ht⟩
      · refine ⟨n, hn, hall, .inr ⟨.inr (by omega), ?_⟩⟩
        cases e : dec b with
        | none => rfl
        | some x =>
          obtain ⟨r, m⟩ := x
          obtain ⟨a1, a2, a3, a4, a5⟩ := dec_some e
          obtain ⟨v1, v2⟩ := dec_val e
          have := (hall (m - 1) (by omega)).2
          rw [show m - 1 + 1 = m by omega, ← v1] at this
          exact absurd a2 this
  exact step 0 (by omega) fun j hj => by omega
theorem E_sRuneRead (b : List UInt8) (k : Nat) (hk : k < b.length) (hb : b.length ≤ 1000000000) : M_sRuneRead [.lst (some 0) (byts b), V.v (.int .i64 ((k : Int)))] [] [] = some ⟨.tup [V.v (.int .i64 (decR (dec (b.drop k)))), V.v (.int .i64 (decN (dec (b.drop k))))], [], []⟩ := by
  unfold M_sRuneRead
  have hc := b[k].toNat_lt
  have h1 : ¬ ((b.length : Int) ≤ k) := by omega
  have h0 : ¬ ((k : Int) < 0) := by omega
  have w0 := w64 (b[k].toNat : Int) (by omega)
  have wl := w64 ((b.length : Int) - k) (by omega)
  generalize hx : (b[k].toNat : Int) = x at w0
  have hx0 : 0 ≤ x ∧ x ≤ 255 := by omega
  have hxo : UInt8.ofNat x.toNat = b[k] := by rw [← hx]; simp
  obtain ⟨N, hN4, hbad, hend⟩ := dec_find (b.drop k)
  rw [List.length_drop] at hend
  simp only [List.length_drop] at hbad
  simp [Try.func115, Try.f115, h0, h1]
  rw [loopV_go (fun j => .on ⟨[(6, V.v (.int .i64 ((j : Int) + 1))), (1, V.v (.int .i64 ((k : Int)))), (0, .lst (some 0) (byts b))], [], [], []⟩) N ?_ ?_]
  · rcases hend with ⟨e1, e2, e3, e4⟩ | ⟨e1, e2⟩
    · rw [e4]
      rcases (by omega : N = 0 ∨ N = 1 ∨ N = 2 ∨ N = 3) with rfl | rfl | rfl | rfl
      · have w4 := w64 ((k : Int) + 1) (by omega)
        have f2 : (k : Int) + 1 ≤ b.length := by omega
        have f9 : (1 : Int) ≤ (b.length : Int) - k := by omega
        have f3 : ((k : Int) + 1).toNat = k + 1 := by omega
        have f5 : k + 1 - k = 1 := by omega
        have f7 : (k : Int) ≤ (k : Int) + 1 := by omega
        have v1 : val (b.drop k) 1 = x := by rw [val, nat8_drop0 hk, hx]
        have z : runeBytes (x) = (b.drop k).take 1 := by rw [← v1]; exact e3
        rw [cut1 hk] at z
        simp [hk, byts_get hk, hx, w0, wl, loopV_unf, E_sRuneBytes, bytes_of_byts, hxo, decR, decN, w4, f2, f9, f3, f5, f7, cut1 hk, v1, z]
      · have w1 := w64 (x - 192) (by omega)
        have w4 := w64 ((k : Int) + 2) (by omega)
        have f2 : (k : Int) + 2 ≤ b.length := by omega
        have f9 : (2 : Int) ≤ (b.length : Int) - k := by omega
        have f3 : ((k : Int) + 2).toNat = k + 2 := by omega
        have f5 : k + 2 - k = 2 := by omega
        have f7 : (k : Int) ≤ (k : Int) + 2 := by omega
        have g1 : k + 1 < b.length := by omega
        have r1 := b[k + 1].toNat_lt
        have p1 := w64 (b[k + 1].toNat : Int) (by omega)
        have t1 := w64 ((k : Int) + 1) (by omega)
        have u1 : ((k : Int) + 1).toNat = k + 1 := by omega
        have y1 : (k : Int) + 1 < b.length := by omega
        have l1 : (0 : Int) ≤ (k : Int) + 1 := by omega
        have q10 := w64 ((x - 192) * 64) (by omega)
        have q11 := w64 ((x - 192) * 64 + (b[k + 1].toNat : Int)) (by omega)
        have q12 := w64 ((x - 192) * 64 + (b[k + 1].toNat : Int) - 128) (by omega)
        have v1 : val (b.drop k) 2 = (x - 192) * 64 + (b[k + 1].toNat : Int) - 128 := by rw [val, nat8_drop0 hk, nat8_drop g1, hx]
        have z : runeBytes ((x - 192) * 64 + (b[k + 1].toNat : Int) - 128) = (b.drop k).take 2 := by rw [← v1]; exact e3
        rw [cut2 g1] at z
        simp [hk, byts_get hk, hx, w0, wl, loopV_unf, E_sRuneBytes, bytes_of_byts, hxo, decR, decN, w1, w4, f2, f9, f3, f5, f7, p1, t1, u1, y1, l1, byts_get g1, q10, q11, q12, cut2 g1, v1, z]
      · have w1 := w64 (x - 224) (by omega)
        have w4 := w64 ((k : Int) + 3) (by omega)
        have f2 : (k : Int) + 3 ≤ b.length := by omega
        have f9 : (3 : Int) ≤ (b.length : Int) - k := by omega
        have f3 : ((k : Int) + 3).toNat = k + 3 := by omega
        have f5 : k + 3 - k = 3 := by omega
        have f7 : (k : Int) ≤ (k : Int) + 3 := by omega
        have g1 : k + 1 < b.length := by omega
        have r1 := b[k + 1].toNat_lt
        have p1 := w64 (b[k + 1].toNat : Int) (by omega)
        have t1 := w64 ((k : Int) + 1) (by omega)
        have u1 : ((k : Int) + 1).toNat = k + 1 := by omega
        have y1 : (k : Int) + 1 < b.length := by omega
        have l1 : (0 : Int) ≤ (k : Int) + 1 := by omega
        have g2 : k + 2 < b.length := by omega
        have r2 := b[k + 2].toNat_lt
        have p2 := w64 (b[k + 2].toNat : Int) (by omega)
        have t2 := w64 ((k : Int) + 2) (by omega)
        have u2 : ((k : Int) + 2).toNat = k + 2 := by omega
        have y2 : (k : Int) + 2 < b.length := by omega
        have l2 : (0 : Int) ≤ (k : Int) + 2 := by omega
        have q10 := w64 ((x - 224) * 64) (by omega)
        have q11 := w64 ((x - 224) * 64 + (b[k + 1].toNat : Int)) (by omega)
        have q12 := w64 ((x - 224) * 64 + (b[k + 1].toNat : Int) - 128) (by omega)
        have q20 := w64 (((x - 224) * 64 + (b[k + 1].toNat : Int) - 128) * 64) (by omega)
        have q21 := w64 (((x - 224) * 64 + (b[k + 1].toNat : Int) - 128) * 64 + (b[k + 2].toNat : Int)) (by omega)
        have q22 := w64 (((x - 224) * 64 + (b[k + 1].toNat : Int) - 128) * 64 + (b[k + 2].toNat : Int) - 128) (by omega)
        have v1 : val (b.drop k) 3 = ((x - 224) * 64 + (b[k + 1].toNat : Int) - 128) * 64 + (b[k + 2].toNat : Int) - 128 := by rw [val, nat8_drop0 hk, nat8_drop g1, nat8_drop g2, hx]
        have z : runeBytes (((x - 224) * 64 + (b[k + 1].toNat : Int) - 128) * 64 + (b[k + 2].toNat : Int) - 128) = (b.drop k).take 3 := by rw [← v1]; exact e3
        rw [cut3 g2] at z
        simp [hk, byts_get hk, hx, w0, wl, loopV_unf, E_sRuneBytes, bytes_of_byts, hxo, decR, decN, w1, w4, f2, f9, f3, f5, f7, p1, t1, u1, y1, l1, byts_get g1, p2, t2, u2, y2, l2, byts_get g2, q10, q11, q12, q20, q21, q22, cut3 g2, v1, z]
      · have w1 := w64 (x - 240) (by omega)
        have w4 := w64 ((k : Int) + 4) (by omega)
        have f2 : (k : Int) + 4 ≤ b.length := by omega
        have f9 : (4 : Int) ≤ (b.length : Int) - k := by omega
        have f3 : ((k : Int) + 4).toNat = k + 4 := by omega
        have f5 : k + 4 - k = 4 := by omega
        have f7 : (k : Int) ≤ (k : Int) + 4 := by omega
        have g1 : k + 1 < b.length := by omega
        have r1 := b[k + 1].toNat_lt
        have p1 := w64 (b[k + 1].toNat : Int) (by omega)
        have t1 := w64 ((k : Int) + 1) (by omega)
        have u1 : ((k : Int) + 1).toNat = k + 1 := by omega
        have y1 : (k : Int) + 1 < b.length := by omega
        have l1 : (0 : Int) ≤ (k : Int) + 1 := by omega
        have g2 : k + 2 < b.length := by omega
        have r2 := b[k + 2].toNat_lt
        have p2 := w64 (b[k + 2].toNat : Int) (by omega)
        have t2 := w64 ((k : Int) + 2) (by omega)
        have u2 : ((k : Int) + 2).toNat = k + 2 := by omega
        have y2 : (k : Int) + 2 < b.length := by omega
        have l2 : (0 : Int) ≤ (k : Int) + 2 := by omega
        have g3 : k + 3 < b.length := by omega
        have r3 := b[k + 3].toNat_lt
        have p3 := w64 (b[k + 3].toNat : Int) (by omega)
        have t3 := w64 ((k : Int) + 3) (by omega)
        have u3 : ((k : Int) + 3).toNat = k + 3 := by omega
        have y3 : (k : Int) + 3 < b.length := by omega
        have l3 : (0 : Int) ≤ (k : Int) + 3 := by omega
        have q10 := w64 ((x - 240) * 64) (by omega)
        have q11 := w64 ((x - 240) * 64 + (b[k + 1].toNat : Int)) (by omega)
        have q12 := w64 ((x - 240) * 64 + (b[k + 1].toNat : Int) - 128) (by omega)
        have q20 := w64 (((x - 240) * 64 + (b[k + 1].toNat : Int) - 128) * 64) (by omega)
        have q21 := w64 (((x - 240) * 64 + (b[k + 1].toNat : Int) - 128) * 64 + (b[k + 2].toNat : Int)) (by omega)
        have q22 := w64 (((x - 240) * 64 + (b[k + 1].toNat : Int) - 128) * 64 + (b[k + 2].toNat : Int) - 128) (by omega)
        have q30 := w64 ((((x - 240) * 64 + (b[k + 1].toNat : Int) - 128) * 64 + (b[k + 2].toNat : Int) - 128) * 64) (by omega)
        have q31 := w64 ((((x - 240) * 64 + (b[k + 1].toNat : Int) - 128) * 64 + (b[k + 2].toNat : Int) - 128) * 64 + (b[k + 3].toNat : Int)) (by omega)
        have q32 := w64 ((((x - 240) * 64 + (b[k + 1].toNat : Int) - 128) * 64 + (b[k + 2].toNat : Int) - 128) * 64 + (b[k + 3].toNat : Int) - 128) (by omega)
        have v1 : val (b.drop k) 4 = (((x - 240) * 64 + (b[k + 1].toNat : Int) - 128) * 64 + (b[k + 2].toNat : Int) - 128) * 64 + (b[k + 3].toNat : Int) - 128 := by rw [val, nat8_drop0 hk, nat8_drop g1, nat8_drop g2, nat8_drop g3, hx]
        have z : runeBytes ((((x - 240) * 64 + (b[k + 1].toNat : Int) - 128) * 64 + (b[k + 2].toNat : Int) - 128) * 64 + (b[k + 3].toNat : Int) - 128) = (b.drop k).take 4 := by rw [← v1]; exact e3
        rw [cut4 g3] at z
        simp [hk, byts_get hk, hx, w0, wl, loopV_unf, E_sRuneBytes, bytes_of_byts, hxo, decR, decN, w1, w4, f2, f9, f3, f5, f7, p1, t1, u1, y1, l1, byts_get g1, p2, t2, u2, y2, l2, byts_get g2, p3, t3, u3, y3, l3, byts_get g3, q10, q11, q12, q20, q21, q22, q30, q31, q32, cut4 g3, v1, z]
    · rw [e2]
      by_cases e5 : N = 4
      · subst e5; simp [decR, decN]
      · have e6 : ¬ ((N : Int) + 1 ≤ (b.length : Int) - k) := by omega
        have e7 : (N : Int) + 1 ≤ 4 := by omega
        simp [wl, e6, e7, decR, decN]
  · simp
  · intro j hj
    have hb2 := hbad j hj
    rcases (by omega : j = 0 ∨ j = 1 ∨ j = 2 ∨ j = 3) with rfl | rfl | rfl | rfl
    · have w4 := w64 ((k : Int) + 1) (by omega)
      have f2 : (k : Int) + 1 ≤ b.length := by omega
      have f9 : (1 : Int) ≤ (b.length : Int) - k := by omega
      have f3 : ((k : Int) + 1).toNat = k + 1 := by omega
      have f5 : k + 1 - k = 1 := by omega
      have f7 : (k : Int) ≤ (k : Int) + 1 := by omega
      have v1 : val (b.drop k) 1 = x := by rw [val, nat8_drop0 hk, hx]
      have z : runeBytes (x) ≠ (b.drop k).take 1 := by rw [← v1]; exact hb2.2
      rw [cut1 hk] at z
      by_cases hl : (runeBytes (x)).length = 1
      · simp [hk, byts_get hk, hx, w0, wl, loopV_unf, E_sRuneBytes, bytes_of_byts, hxo, decR, decN, w4, f2, f9, f3, f5, f7, cut1 hk, v1, z, hl]
      · have hl' : ¬ (((runeBytes (x)).length : Int) = 1) := by omega
        simp [hk, byts_get hk, hx, w0, wl, loopV_unf, E_sRuneBytes, bytes_of_byts, hxo, decR, decN, w4, f2, f9, f3, f5, f7, cut1 hk, v1, z, hl, hl']
    · have w1 := w64 (x - 192) (by omega)
      have w4 := w64 ((k : Int) + 2) (by omega)
      have f2 : (k : Int) + 2 ≤ b.length := by omega
      have f9 : (2 : Int) ≤ (b.length : Int) - k := by omega
      have f3 : ((k : Int) + 2).toNat = k + 2 := by omega
      have f5 : k + 2 - k = 2 := by omega
      have f7 : (k : Int) ≤ (k : Int) + 2 := by omega
      have g1 : k + 1 < b.length := by omega
      have r1 := b[k + 1].toNat_lt
      have p1 := w64 (b[k + 1].toNat : Int) (by omega)
      have t1 := w64 ((k : Int) + 1) (by omega)
      have u1 : ((k : Int) + 1).toNat = k + 1 := by omega
      have y1 : (k : Int) + 1 < b.length := by omega
      have l1 : (0 : Int) ≤ (k : Int) + 1 := by omega
      have q10 := w64 ((x - 192) * 64) (by omega)
      have q11 := w64 ((x - 192) * 64 + (b[k + 1].toNat : Int)) (by omega)
      have q12 := w64 ((x - 192) * 64 + (b[k + 1].toNat : Int) - 128) (by omega)
      have v1 : val (b.drop k) 2 = (x - 192) * 64 + (b[k + 1].toNat : Int) - 128 := by rw [val, nat8_drop0 hk, nat8_drop g1, hx]
      have z : runeBytes ((x - 192) * 64 + (b[k + 1].toNat : Int) - 128) ≠ (b.drop k).take 2 := by rw [← v1]; exact hb2.2
      rw [cut2 g1] at z
      by_cases hl : (runeBytes ((x - 192) * 64 + (b[k + 1].toNat : Int) - 128)).length = 2
      · simp [hk, byts_get hk, hx, w0, wl, loopV_unf, E_sRuneBytes, bytes_of_byts, hxo, decR, decN, w1, w4, f2, f9, f3, f5, f7, p1, t1, u1, y1, l1, byts_get g1, q10, q11, q12, cut2 g1, v1, z, hl]
      · have hl' : ¬ (((runeBytes ((x - 192) * 64 + (b[k + 1].toNat : Int) - 128)).length : Int) = 2) := by omega
        simp [hk, byts_get hk, hx, w0, wl, loopV_unf, E_sRuneBytes, bytes_of_byts, hxo, decR, decN, w1, w4, f2, f9, f3, f5, f7, p1, t1, u1, y1, l1, byts_get g1, q10, q11, q12, cut2 g1, v1, z, hl, hl']
    · have w1 := w64 (x - 224) (by omega)
      have w4 := w64 ((k : Int) + 3) (by omega)
      have f2 : (k : Int) + 3 ≤ b.length := by omega
      have f9 : (3 : Int) ≤ (b.length : Int) - k := by omega
      have f3 : ((k : Int) + 3).toNat = k + 3 := by omega
      have f5 : k + 3 - k = 3 := by omega
      have f7 : (k : Int) ≤ (k : Int) + 3 := by omega
      have g1 : k + 1 < b.length := by omega
      have r1 := b[k + 1].toNat_lt
      have p1 := w64 (b[k + 1].toNat : Int) (by omega)
      have t1 := w64 ((k : Int) + 1) (by omega)
      have u1 : ((k : Int) + 1).toNat = k + 1 := by omega
      have y1 : (k : Int) + 1 < b.length := by omega
      have l1 : (0 : Int) ≤ (k : Int) + 1 := by omega
      have g2 : k + 2 < b.length := by omega
      have r2 := b[k + 2].toNat_lt
      have p2 := w64 (b[k + 2].toNat : Int) (by omega)
      have t2 := w64 ((k : Int) + 2) (by omega)
      have u2 : ((k : Int) + 2).toNat = k + 2 := by omega
      have y2 : (k : Int) + 2 < b.length := by omega
      have l2 : (0 : Int) ≤ (k : Int) + 2 := by omega
      have q10 := w64 ((x - 224) * 64) (by omega)
      have q11 := w64 ((x - 224) * 64 + (b[k + 1].toNat : Int)) (by omega)
      have q12 := w64 ((x - 224) * 64 + (b[k + 1].toNat : Int) - 128) (by omega)
      have q20 := w64 (((x - 224) * 64 + (b[k + 1].toNat : Int) - 128) * 64) (by omega)
      have q21 := w64 (((x - 224) * 64 + (b[k + 1].toNat : Int) - 128) * 64 + (b[k + 2].toNat : Int)) (by omega)
      have q22 := w64 (((x - 224) * 64 + (b[k + 1].toNat : Int) - 128) * 64 + (b[k + 2].toNat : Int) - 128) (by omega)
      have v1 : val (b.drop k) 3 = ((x - 224) * 64 + (b[k + 1].toNat : Int) - 128) * 64 + (b[k + 2].toNat : Int) - 128 := by rw [val, nat8_drop0 hk, nat8_drop g1, nat8_drop g2, hx]
      have z : runeBytes (((x - 224) * 64 + (b[k + 1].toNat : Int) - 128) * 64 + (b[k + 2].toNat : Int) - 128) ≠ (b.drop k).take 3 := by rw [← v1]; exact hb2.2
      rw [cut3 g2] at z
      by_cases hl : (runeBytes (((x - 224) * 64 + (b[k + 1].toNat : Int) - 128) * 64 + (b[k + 2].toNat : Int) - 128)).length = 3
      · simp [hk, byts_get hk, hx, w0, wl, loopV_unf, E_sRuneBytes, bytes_of_byts, hxo, decR, decN, w1, w4, f2, f9, f3, f5, f7, p1, t1, u1, y1, l1, byts_get g1, p2, t2, u2, y2, l2, byts_get g2, q10, q11, q12, q20, q21, q22, cut3 g2, v1, z, hl]
      · have hl' : ¬ (((runeBytes (((x - 224) * 64 + (b[k + 1].toNat : Int) - 128) * 64 + (b[k + 2].toNat : Int) - 128)).length : Int) = 3) := by omega
        simp [hk, byts_get hk, hx, w0, wl, loopV_unf, E_sRuneBytes, bytes_of_byts, hxo, decR, decN, w1, w4, f2, f9, f3, f5, f7, p1, t1, u1, y1, l1, byts_get g1, p2, t2, u2, y2, l2, byts_get g2, q10, q11, q12, q20, q21, q22, cut3 g2, v1, z, hl, hl']
    · have w1 := w64 (x - 240) (by omega)
      have w4 := w64 ((k : Int) + 4) (by omega)
      have f2 : (k : Int) + 4 ≤ b.length := by omega
      have f9 : (4 : Int) ≤ (b.length : Int) - k := by omega
      have f3 : ((k : Int) + 4).toNat = k + 4 := by omega
      have f5 : k + 4 - k = 4 := by omega
      have f7 : (k : Int) ≤ (k : Int) + 4 := by omega
      have g1 : k + 1 < b.length := by omega
      have r1 := b[k + 1].toNat_lt
      have p1 := w64 (b[k + 1].toNat : Int) (by omega)
      have t1 := w64 ((k : Int) + 1) (by omega)
      have u1 : ((k : Int) + 1).toNat = k + 1 := by omega
      have y1 : (k : Int) + 1 < b.length := by omega
      have l1 : (0 : Int) ≤ (k : Int) + 1 := by omega
      have g2 : k + 2 < b.length := by omega
      have r2 := b[k + 2].toNat_lt
      have p2 := w64 (b[k + 2].toNat : Int) (by omega)
      have t2 := w64 ((k : Int) + 2) (by omega)
      have u2 : ((k : Int) + 2).toNat = k + 2 := by omega
      have y2 : (k : Int) + 2 < b.length := by omega
      have l2 : (0 : Int) ≤ (k : Int) + 2 := by omega
      have g3 : k + 3 < b.length := by omega
      have r3 := b[k + 3].toNat_lt
      have p3 := w64 (b[k + 3].toNat : Int) (by omega)
      have t3 := w64 ((k : Int) + 3) (by omega)
      have u3 : ((k : Int) + 3).toNat = k + 3 := by omega
      have y3 : (k : Int) + 3 < b.length := by omega
      have l3 : (0 : Int) ≤ (k : Int) + 3 := by omega
      have q10 := w64 ((x - 240) * 64) (by omega)
      have q11 := w64 ((x - 240) * 64 + (b[k + 1].toNat : Int)) (by omega)
      have q12 := w64 ((x - 240) * 64 + (b[k + 1].toNat : Int) - 128) (by omega)
      have q20 := w64 (((x - 240) * 64 + (b[k + 1].toNat : Int) - 128) * 64) (by omega)
      have q21 := w64 (((x - 240) * 64 + (b[k + 1].toNat : Int) - 128) * 64 + (b[k + 2].toNat : Int)) (by omega)
      have q22 := w64 (((x - 240) * 64 + (b[k + 1].toNat : Int) - 128) * 64 + (b[k + 2].toNat : Int) - 128) (by omega)
      have q30 := w64 ((((x - 240) * 64 + (b[k + 1].toNat : Int) - 128) * 64 + (b[k + 2].toNat : Int) - 128) * 64) (by omega)
      have q31 := w64 ((((x - 240) * 64 + (b[k + 1].toNat : Int) - 128) * 64 + (b[k + 2].toNat : Int) - 128) * 64 + (b[k + 3].toNat : Int)) (by omega)
      have q32 := w64 ((((x - 240) * 64 + (b[k + 1].toNat : Int) - 128) * 64 + (b[k + 2].toNat : Int) - 128) * 64 + (b[k + 3].toNat : Int) - 128) (by omega)
      have v1 : val (b.drop k) 4 = (((x - 240) * 64 + (b[k + 1].toNat : Int) - 128) * 64 + (b[k + 2].toNat : Int) - 128) * 64 + (b[k + 3].toNat : Int) - 128 := by rw [val, nat8_drop0 hk, nat8_drop g1, nat8_drop g2, nat8_drop g3, hx]
      have z : runeBytes ((((x - 240) * 64 + (b[k + 1].toNat : Int) - 128) * 64 + (b[k + 2].toNat : Int) - 128) * 64 + (b[k + 3].toNat : Int) - 128) ≠ (b.drop k).take 4 := by rw [← v1]; exact hb2.2
      rw [cut4 g3] at z
      by_cases hl : (runeBytes ((((x - 240) * 64 + (b[k + 1].toNat : Int) - 128) * 64 + (b[k + 2].toNat : Int) - 128) * 64 + (b[k + 3].toNat : Int) - 128)).length = 4
      · simp [hk, byts_get hk, hx, w0, wl, loopV_unf, E_sRuneBytes, bytes_of_byts, hxo, decR, decN, w1, w4, f2, f9, f3, f5, f7, p1, t1, u1, y1, l1, byts_get g1, p2, t2, u2, y2, l2, byts_get g2, p3, t3, u3, y3, l3, byts_get g3, q10, q11, q12, q20, q21, q22, q30, q31, q32, cut4 g3, v1, z, hl]
      · have hl' : ¬ (((runeBytes ((((x - 240) * 64 + (b[k + 1].toNat : Int) - 128) * 64 + (b[k + 2].toNat : Int) - 128) * 64 + (b[k + 3].toNat : Int) - 128)).length : Int) = 4) := by omega
        simp [hk, byts_get hk, hx, w0, wl, loopV_unf, E_sRuneBytes, bytes_of_byts, hxo, decR, decN, w1, w4, f2, f9, f3, f5, f7, p1, t1, u1, y1, l1, byts_get g1, p2, t2, u2, y2, l2, byts_get g2, p3, t3, u3, y3, l3, byts_get g3, q10, q11, q12, q20, q21, q22, q30, q31, q32, cut4 g3, v1, z, hl, hl']
end Go.Proofs.Ytacnbajcignacaa
namespace Go.Proofs.Ytacnbajcignacaa
open Go.RowKit
set_option linter.unusedSimpArgs false
set_option linter.unusedVariables false
set_option maxHeartbeats 8000000
set_option maxRecDepth 10000
theorem rowsOfStr_byts (s : ByteArray) : rowsOfStr s = byts s.data.toList := rfl
theorem textOf_pos {r : Int} (h : runeOk r = true) : 1 ≤ (runeBytes r).length := by
  rcases runeBytes_cases h with ⟨_, _, e⟩ | ⟨_, _, e⟩ | ⟨_, _, e⟩ | ⟨_, _, e⟩ <;> rw [e] <;> simp
theorem E_iRunesOf (s : ByteArray) (l : List Int) (rest : List UInt8) (h : Reads s.data.toList l rest) (hs : s.size ≤ 65536) : M_iRunesOf [V.v (.string s)] [] [] = some ⟨.tup [.own 0, V.v (.bool rest.isEmpty)], [], [(0, if rest.isEmpty then ints l else [])]⟩ := by
  unfold M_iRunesOf
  have h1 : ¬ (65536 < (s.size : Int)) := by omega
  have h2 : s.size ≤ 4611686018427387904 := by omega
  have hsz : s.data.toList.length = s.size := by simp
  have hds : s.data.toList.length = s.data.size := Array.length_toList
  have hl := h.len
  simp [Try.func32, Try.f32, h1, h2, rowsOfStr_byts]
  rw [loopV_go (fun j => .on ⟨[(6, V.v (.int .i64 (((textOf (l.take j)).length : Int)))), (5, .fz (byts s.data.toList)), (4, .own 2000001000)], [], [(2000001000, ints (l.take j))], [(13, [])]⟩) l.length ?_ ?_]
  · obtain ⟨e1, e2⟩ := h.end
    have e3 := h.2.2
    cases rest with
    | nil =>
      have e4 : ¬ ((textOf l).length < s.size) := by rw [List.length_nil] at e2; omega
      simp [e4]
    | cons c rest =>
      have e4 : (textOf l).length < s.data.toList.length := by rw [List.length_cons] at e2; omega
      have e5 : (textOf l).length < s.size := by omega
      have e5b : (textOf l).length < s.data.size := by omega
      have e6 := E_iRuneRead s.data.toList (textOf l).length e4 (by omega)
      rw [e1, e3] at e6
      simp [e5, e5b, e6, decR, decN]
  · simp [textOf, ints_nil]
  · intro j hj
    obtain ⟨a1, a2, a3⟩ := h.at hj
    have a4 : (textOf (l.take (j + 1))).length ≤ 65536 := by
      have := textOf_take hj
      have e : (textOf (l.take (j + 1))).length ≤ s.data.toList.length := by
        conv => rhs; rw [h.1]
        rw [List.length_append]
        have : l = l.take (j + 1) ++ l.drop (j + 1) := (List.take_append_drop _ _).symm
        conv => rhs; rw [this]
        unfold textOf
        rw [List.flatMap_append, List.length_append]; omega
      omega
    have w1 := w64 ((textOf (l.take (j + 1))).length : Int) (by omega)
    have e5 : (textOf (l.take j)).length < s.size := by omega
    have e5b : (textOf (l.take j)).length < s.data.size := by omega
    have e6 := E_iRuneRead s.data.toList _ a1 (by omega)
    rw [a2] at e6
    have e7 := textOf_pos (h.2.1 l[j] (List.getElem_mem hj))
    have e8 : ¬ (runeBytes l[j] = []) := fun e => by rw [e] at e7; simp at e7
    have e9 : ((textOf (l.take j)).length : Int) + ((runeBytes l[j]).length : Int) = ((textOf (l.take (j + 1))).length : Int) := by omega
    have e10 : (l.take j).length ≤ 65536 := by simp; omega
    have e11 : ints (l.take j) ++ [[D.a (.int .i64 (l[j]))]] = ints (l.take (j + 1)) := by rw [ints_snoc, List.take_add_one, List.getElem?_eq_getElem hj]; rfl
    simp [e5, e5b, e6, decR, decN, e8]
    simp (disch := omega) only [grd_pos]
    simp [e9, w1, e11]
theorem E_iRunesOf_big (s : ByteArray) (hs : 65536 < s.size) : M_iRunesOf [V.v (.string s)] [] [] = some ⟨.tup [.own 0, V.v (.bool false)], [], [(0, [])]⟩ := by
  unfold M_iRunesOf
  have h1 : 65536 < (s.size : Int) := by omega
  simp [Try.func32, Try.f32, h1]
theorem E_sRunesOf (s : ByteArray) (l : List Int) (rest : List UInt8) (h : Reads s.data.toList l rest) (hs : s.size ≤ 65536) : M_sRunesOf [V.v (.string s)] [] [] = some ⟨.tup [.own 0, V.v (.bool rest.isEmpty)], [], [(0, if rest.isEmpty then ints l else [])]⟩ := by
  unfold M_sRunesOf
  have h1 : ¬ (65536 < (s.size : Int)) := by omega
  have h2 : s.size ≤ 4611686018427387904 := by omega
  have hsz : s.data.toList.length = s.size := by simp
  have hds : s.data.toList.length = s.data.size := Array.length_toList
  have hl := h.len
  simp [Try.func47, Try.f47, h1, h2, rowsOfStr_byts]
  rw [loopV_go (fun j => .on ⟨[(6, V.v (.int .i64 (((textOf (l.take j)).length : Int)))), (5, .own 2000001000), (4, .fz (byts s.data.toList))], [], [(2000001000, ints (l.take j))], [(13, [])]⟩) l.length ?_ ?_]
  · obtain ⟨e1, e2⟩ := h.end
    have e3 := h.2.2
    cases rest with
    | nil =>
      have e4 : ¬ ((textOf l).length < s.size) := by rw [List.length_nil] at e2; omega
      simp [e4]
    | cons c rest =>
      have e4 : (textOf l).length < s.data.toList.length := by rw [List.length_cons] at e2; omega
      have e5 : (textOf l).length < s.size := by omega
      have e5b : (textOf l).length < s.data.size := by omega
      have e6 := E_sRuneRead s.data.toList (textOf l).length e4 (by omega)
      rw [e1, e3] at e6
      simp [e5, e5b, e6, decR, decN]
  · simp [textOf, ints_nil]
  · intro j hj
    obtain ⟨a1, a2, a3⟩ := h.at hj
    have a4 : (textOf (l.take (j + 1))).length ≤ 65536 := by
      have := textOf_take hj
      have e : (textOf (l.take (j + 1))).length ≤ s.data.toList.length := by
        conv => rhs; rw [h.1]
        rw [List.length_append]
        have : l = l.take (j + 1) ++ l.drop (j + 1) := (List.take_append_drop _ _).symm
        conv => rhs; rw [this]
        unfold textOf
        rw [List.flatMap_append, List.length_append]; omega
      omega
    have w1 := w64 ((textOf (l.take (j + 1))).length : Int) (by omega)
    have e5 : (textOf (l.take j)).length < s.size := by omega
    have e5b : (textOf (l.take j)).length < s.data.size := by omega
    have e6 := E_sRuneRead s.data.toList _ a1 (by omega)
    rw [a2] at e6
    have e7 := textOf_pos (h.2.1 l[j] (List.getElem_mem hj))
    have e8 : ¬ (runeBytes l[j] = []) := fun e => by rw [e] at e7; simp at e7
    have e9 : ((textOf (l.take j)).length : Int) + ((runeBytes l[j]).length : Int) = ((textOf (l.take (j + 1))).length : Int) := by omega
    have e10 : (l.take j).length ≤ 65536 := by simp; omega
    have e11 : ints (l.take j) ++ [[D.a (.int .i64 (l[j]))]] = ints (l.take (j + 1)) := by rw [ints_snoc, List.take_add_one, List.getElem?_eq_getElem hj]; rfl
    simp [e5, e5b, e6, decR, decN, e8]
    simp (disch := omega) only [grd_pos]
    simp [e9, w1, e11]
theorem E_sRunesOf_big (s : ByteArray) (hs : 65536 < s.size) : M_sRunesOf [V.v (.string s)] [] [] = some ⟨.tup [.own 0, V.v (.bool false)], [], [(0, [])]⟩ := by
  unfold M_sRunesOf
  have h1 : 65536 < (s.size : Int) := by omega
  simp [Try.func47, Try.f47, h1]
end Go.Proofs.Ytacnbajcignacaa
namespace Go.Proofs.Ytacnbajcignacaa
open Go.RowKit
set_option linter.unusedSimpArgs false
set_option linter.unusedVariables false
set_option maxHeartbeats 8000000
set_option maxRecDepth 10000
theorem E_iplaced (r w x y : Int) (hx : 0 ≤ x ∧ x ≤ 1000000000) (hy : 0 ≤ y ∧ y ≤ 10000000000) : M_iplaced [V.v (.int .i64 r), V.v (.int .i64 w), V.v (.int .i64 x), V.v (.int .i64 y)] [] [] = some ⟨.tup [V.v (.int .i64 ((plc w (x, y) r).1)), V.v (.int .i64 ((plc w (x, y) r).2))], [], []⟩ := by
  unfold M_iplaced
  have hr := wd_range r
  have w1 := w64 (x + wd r) (by omega)
  have w2 := w64 (y + 1) (by omega)
  by_cases h : w < x + wd r <;> simp [Try.func35, Try.f35, E_iWidth, plc, w1, w2, h]
theorem E_sl27Next (r w x y : Int) (hx : 0 ≤ x ∧ x ≤ 1000000000) (hy : 0 ≤ y ∧ y ≤ 10000000000) : M_sl27Next [V.v (.int .i64 r), V.v (.int .i64 w), V.v (.int .i64 x), V.v (.int .i64 y)] [] [] = some ⟨.tup [V.v (.int .i64 ((plc w (x, y) r).1)), V.v (.int .i64 ((plc w (x, y) r).2))], [], []⟩ := by
  unfold M_sl27Next
  have hr := wd_range r
  have w1 := w64 (x + wd r) (by omega)
  have w2 := w64 (y + 1) (by omega)
  by_cases h : w < x + wd r <;> simp [Try.func51, Try.f51, E_sWidth, plc, w1, w2, h]
theorem E_sFlow (t : List Int) (w x y : Int) (hw : 2 ≤ w ∧ w ≤ 1000000) (hx : 0 ≤ x ∧ x ≤ w) (hy : 0 ≤ y ∧ y ≤ 8000) (ht : t.length ≤ 1000000000) : M_sFlow [.lst (some 0) (ints t), V.v (.int .i64 w), V.v (.int .i64 x), V.v (.int .i64 y)] [] [] = some ⟨.tup [V.v (.int .i64 ((flow w t (x, y)).1)), V.v (.int .i64 ((flow w t (x, y)).2))], [], []⟩ := by
  unfold M_sFlow
  have h1 : ¬ w < 2 := by omega
  have h2 : ¬ x < 0 := by omega
  have h3 : ¬ w < x := by omega
  have h4 : ¬ y < 0 := by omega
  have h5 : ¬ 8000 < y := by omega
  simp [Try.func49, Try.f49, h1, h2, h3, h4, h5]
  rw [loopV_go (fun j => .on ⟨[(33, V.v (.int .i64 ((j : Int)))), (32, V.v (.int .i64 ((t.length : Int)))), (31, .lst (some 0) (ints t)), (3, V.v (.int .i64 ((flow w (t.take j) (x, y)).2))), (2, V.v (.int .i64 ((flow w (t.take j) (x, y)).1))), (1, V.v (.int .i64 w))], [], [], []⟩) t.length ?_ ?_]
  · simp
  · simp [flow]
  · intro j hj
    have hw1 := w64 (j + 1) (by omega)
    obtain ⟨⟨a1, a2⟩, a3, a4⟩ := flow_in hw.1 (t.take j) (x, y) hx
    have a5 : (t.take j).length ≤ j := by simp; omega
    have e := flow_take (w := w) (p := (x, y)) hj
    generalize flow w (t.take j) (x, y) = p at *
    obtain ⟨px, py⟩ := p
    simp only at a1 a2 a3 a4
    have b := plc_in hw.1 (p := (px, py)) ⟨a1, a2⟩ t[j]
    have hr := wd_range t[j]
    have w2 := w64 ((plc w (px, py) t[j]).1 + wd t[j]) (by omega)
    cases hp : printable t[j]
    · simp [hj, hw1, ints_get hj, E_sPrintable, hp, e, flowS]
    · simp [hj, hw1, ints_get hj, E_sPrintable, hp, e, flowS, E_sl27Next t[j] w px py (by omega) (by omega), E_sWidth, w2]
def shown1 (r : Int) : List Int := if r = 9 then [94, 73] else if r = 10 then [94, 74] else if printable r then [r] else []
def shown (t : List Int) : List Int := t.flatMap shown1
theorem shown1_len (r : Int) : (shown1 r).length ≤ 2 := by
  unfold shown1; split <;> (try split) <;> (try split) <;> simp
theorem shown_len (t : List Int) : (shown t).length ≤ 2 * t.length := by
  induction t with
  | nil => simp [shown]
  | cons x r ih =>
    have := shown1_len x
    simp only [shown, List.flatMap_cons, List.length_append, List.length_cons] at ih ⊢; omega
theorem shown_take {t : List Int} {j : Nat} (h : j < t.length) : shown (t.take (j + 1)) = shown (t.take j) ++ shown1 t[j] := by
  unfold shown; rw [List.take_add_one, List.getElem?_eq_getElem h, List.flatMap_append]; simp
theorem shown_append (s t : List Int) : shown (s ++ t) = shown s ++ shown t := List.flatMap_append ..
theorem shown_print (t : List Int) : (shown t).all printable = true := by
  have h1 : printable 94 = true := by decide
  have h2 : printable 73 = true := by decide
  have h3 : printable 74 = true := by decide
  induction t with
  | nil => rfl
  | cons x r ih =>
    simp only [shown, List.flatMap_cons, List.all_append] at ih ⊢
    rw [ih, Bool.and_true]
    unfold shown1
    split
    · simp [h1, h2]
    split
    · simp [h1, h3]
    split
    · simp [*]
    · rfl
theorem E_iShown (t : List Int) (ht : t.length ≤ 1000000000) : M_iShown [.lst (some 0) (ints t)] [] [] = some ⟨.own 0, [], [(0, ints (shown t))]⟩ := by
  unfold M_iShown
  simp [Try.func34, Try.f34]
  rw [loopV_go (fun j => .on ⟨[(8, V.v (.int .i64 ((j : Int)))), (7, V.v (.int .i64 ((t.length : Int)))), (6, .lst (some 0) (ints t)), (3, .own 2000000000)], [], [(2000000000, ints (shown (t.take j)))], []⟩) t.length ?_ ?_]
  · simp
  · simp [shown, ints_nil]
  · intro j hj
    have hw := w64 (j + 1) (by omega)
    have hs := shown_take hj
    have hl : (shown (t.take j)).length ≤ 2000000000 := by
      have := shown_len (t.take j)
      have e : (t.take j).length ≤ t.length := by simp; omega
      omega
    by_cases h9 : t[j] = 9
    · simp [hj, hw, ints_get hj, h9]
      simp (disch := omega) only [grd_pos]
      simp [hw, hs, shown1, h9, ints_cons, ints_nil]
    by_cases h10 : t[j] = 10
    · simp [hj, hw, ints_get hj, h10]
      simp (disch := omega) only [grd_pos]
      simp [hw, hs, shown1, h10, ints_cons, ints_nil]
    cases hp : printable t[j]
    · simp [hj, hw, ints_get hj, h9, h10, E_iPrintable, hp, hs, shown1]
    · simp [hj, hw, ints_get hj, h9, h10, E_iPrintable, hp]
      simp (disch := omega) only [grd_pos]
      simp [hw, hs, shown1, h9, h10, hp, ints_cons, ints_nil]
theorem E_sShown (t : List Int) (ht : t.length ≤ 1000000000) : M_sShown [.lst (some 0) (ints t)] [] [] = some ⟨.own 0, [], [(0, ints (shown t))]⟩ := by
  unfold M_sShown
  simp [Try.func50, Try.f50]
  rw [loopV_go (fun j => .on ⟨[(9, V.v (.int .i64 ((j : Int)))), (8, V.v (.int .i64 ((t.length : Int)))), (7, .lst (some 0) (ints t)), (3, .own 2000000000)], [], [(2000000000, ints (shown (t.take j)))], []⟩) t.length ?_ ?_]
  · simp
  · simp [shown, ints_nil]
  · intro j hj
    have hw := w64 (j + 1) (by omega)
    have hs := shown_take hj
    have hl : (shown (t.take j)).length ≤ 2000000000 := by
      have := shown_len (t.take j)
      have e : (t.take j).length ≤ t.length := by simp; omega
      omega
    by_cases h9 : t[j] = 9
    · simp [hj, hw, ints_get hj, h9]
      simp (disch := omega) only [grd_pos]
      simp [hw, hs, shown1, h9, ints_cons, ints_nil]
    by_cases h10 : t[j] = 10
    · simp [hj, hw, ints_get hj, h10]
      simp (disch := omega) only [grd_pos]
      simp [hw, hs, shown1, h10, ints_cons, ints_nil]
    cases hp : printable t[j]
    · simp [hj, hw, ints_get hj, h9, h10, E_sPrintable, hp, hs, shown1]
    · simp [hj, hw, ints_get hj, h9, h10, E_sPrintable, hp]
      simp (disch := omega) only [grd_pos]
      simp [hw, hs, shown1, h9, h10, hp, ints_cons, ints_nil]
def fairB (s : ByteArray) (l : List Int) (rest : List UInt8) : Bool := decide (s.size ≤ 65536) && rest.isEmpty && decide (l.length ≤ 60) && l.all printable
theorem E_sl27Fair (s : ByteArray) (l : List Int) (rest : List UInt8) (h : Reads s.data.toList l rest) : M_sl27Fair [V.v (.string s)] [] [] = some ⟨V.v (.bool (fairB s l rest)), [], []⟩ := by
  unfold M_sl27Fair
  by_cases hs : s.size ≤ 65536
  · have hds : s.data.toList.length = s.size := by simp
    have hll := h.len
    cases hr : rest.isEmpty
    · simp [Try.func46, Try.f46, E_sRunesOf s l rest h hs, hr, fairB]
    · by_cases hl : l.length ≤ 60
      · have hl' : ¬ (60 < (l.length : Int)) := by omega
        simp [Try.func46, Try.f46, E_sRunesOf s l rest h hs, hr, hl']
        rcases firstBad printable l with g | ⟨g, N, hN, g1, g2⟩
        · rw [loopV_go (fun j => .on ⟨[(21, V.v (.int .i64 ((j : Int)))), (20, V.v (.int .i64 ((l.length : Int)))), (19, .own 2000000000)], [], [(2000000000, ints l)], []⟩) l.length ?_ ?_]
          · simp [fairB, hs, hr, hl, g]
          · simp
          · intro j hj
            have hw := w64 (j + 1) (by omega)
            have := List.all_eq_true.1 g l[j] (List.getElem_mem hj)
            simp [hj, hw, ints_get hj, E_sPrintable, this]
        · rw [loopV_go (fun j => .on ⟨[(21, V.v (.int .i64 ((j : Int)))), (20, V.v (.int .i64 ((l.length : Int)))), (19, .own 2000000000)], [], [(2000000000, ints l)], []⟩) N ?_ ?_]
          · simp [hN, ints_get hN, E_sPrintable, g1, g, fairB]
          · simp
          · intro j hj
            have hj' : j < l.length := by omega
            have hw := w64 (j + 1) (by omega)
            simp [hj', hw, ints_get hj', E_sPrintable, g2 j hj' hj]
      · have hl' : 60 < (l.length : Int) := by omega
        simp [Try.func46, Try.f46, E_sRunesOf s l rest h hs, hr, hl', fairB, hl]
  · have hs' : 65536 < s.size := by omega
    simp [Try.func46, Try.f46, E_sRunesOf_big s hs', fairB, hs]
theorem E_ishortRunes (s : ByteArray) (l : List Int) (rest : List UInt8) (h : Reads s.data.toList l rest) : M_ishortRunes [V.v (.string s)] [] [] = some ⟨.tup [.own 0, V.v (.bool (fairB s l rest))], [], [(0, if fairB s l rest then ints l else [])]⟩ := by
  unfold M_ishortRunes
  by_cases hs : s.size ≤ 65536
  · have hds : s.data.toList.length = s.size := by simp
    have hll := h.len
    cases hr : rest.isEmpty
    · simp [Try.func29, Try.f29, E_iRunesOf s l rest h hs, hr, fairB]
    · by_cases hl : l.length ≤ 60
      · have hl' : ¬ (60 < (l.length : Int)) := by omega
        simp [Try.func29, Try.f29, E_iRunesOf s l rest h hs, hr, hl']
        rcases firstBad printable l with g | ⟨g, N, hN, g1, g2⟩
        · rw [loopV_go (fun j => .on ⟨[(22, V.v (.int .i64 ((j : Int)))), (21, V.v (.int .i64 ((l.length : Int)))), (20, .own 2000000000), (4, .own 2000000000)], [], [(2000000000, ints l)], []⟩) l.length ?_ ?_]
          · simp [fairB, hs, hr, hl, g]
          · simp
          · intro j hj
            have hw := w64 (j + 1) (by omega)
            have := List.all_eq_true.1 g l[j] (List.getElem_mem hj)
            simp [hj, hw, ints_get hj, E_iPrintable, this]
        · rw [loopV_go (fun j => .on ⟨[(22, V.v (.int .i64 ((j : Int)))), (21, V.v (.int .i64 ((l.length : Int)))), (20, .own 2000000000), (4, .own 2000000000)], [], [(2000000000, ints l)], []⟩) N ?_ ?_]
          · simp [hN, ints_get hN, E_iPrintable, g1, g, fairB]
          · simp
          · intro j hj
            have hj' : j < l.length := by omega
            have hw := w64 (j + 1) (by omega)
            simp [hj', hw, ints_get hj', E_iPrintable, g2 j hj' hj]
      · have hl' : 60 < (l.length : Int) := by omega
        simp [Try.func29, Try.f29, E_iRunesOf s l rest h hs, hr, hl', fairB, hl]
  · have hs' : 65536 < s.size := by omega
    simp [Try.func29, Try.f29, E_iRunesOf_big s hs', fairB, hs]
def promptOf (mode : Int) (q : List Int) (ps : ByteArray) : ByteArray := if mode = 3 then ⟨#[40, 115, 101, 97, 114, 99, 104, 41, 96]⟩ ++ ⟨(textOf q).toArray⟩ ++ ⟨#[39, 58, 32]⟩ else ps
def edV (vi : Bool) (mode : Int) (lt : List Int) (la cnt op opc wt fr fh last : Int) (rp : List TPiece) (ul : List TLine) (nav : Int) (ot : List Int) (oa : Int) (q : List Int) (hit : Int) (bt : List Int) (ba : Int) : V := .agg [V.v (.bool vi), V.v (.int .i64 mode), .lst (some 0) (ints lt), V.v (.int .i64 la), V.v (.int .i64 cnt), V.v (.int .i64 op), V.v (.int .i64 opc), V.v (.int .i64 wt), V.v (.int .i64 fr), V.v (.int .i64 fh), V.v (.int .i64 last), .lst (some 1) (dPieces rp), .lst (some 2) (dLines ul), V.v (.int .i64 nav), .lst (some 3) (ints ot), V.v (.int .i64 oa), .lst (some 4) (ints q), V.v (.int .i64 hit), .lst (some 5) (ints bt), V.v (.int .i64 ba)]
end Go.Proofs.Ytacnbajcignacaa
namespace Go.Proofs.Ytacnbajcignacaa
open Go.RowKit
set_option linter.unusedSimpArgs false
set_option linter.unusedVariables false
set_option maxHeartbeats 4000000
set_option maxRecDepth 10000
def textOk (l : List Int) : Bool := decide (l.length ≤ 400) && l.all typed
def lineOk (t : List Int) (a : Int) : Bool := textOk t && inR a 0 t.length
def emptyL (t : List Int) (a : Int) : Bool := decide (t.length = 0) && (a == 0)
theorem E_iareAdmissible (l : List Int) (hl : l.length ≤ 1000000000) : M_iareAdmissible [.lst (some 0) (ints l)] [] [] = some ⟨V.v (.bool (textOk l)), [], []⟩ := by
  unfold M_iareAdmissible
  simp [Try.func155, Try.f155]
  by_cases hn : l.length ≤ 400
  · rcases firstBad typed l with h | ⟨h, N, hN, h1, h2⟩
    · rw [loopV_go (fun j => .on ⟨[(7, V.v (.int .i64 ((j : Int)))), (6, V.v (.int .i64 ((l.length : Int)))), (5, .lst (some 0) (ints l))], [], [], []⟩) l.length ?_ ?_]
      · simp [textOk, h, hn]
      · simp
      · intro j hj
        have hw := w64 (j + 1) (by omega)
        have := List.all_eq_true.1 h l[j] (List.getElem_mem hj)
        have h4 : ¬ (400 ≤ (j : Int)) := by omega
        simp [hj, hw, ints_get hj, E_iadmissible, this, h4]
    · rw [loopV_go (fun j => .on ⟨[(7, V.v (.int .i64 ((j : Int)))), (6, V.v (.int .i64 ((l.length : Int)))), (5, .lst (some 0) (ints l))], [], [], []⟩) N ?_ ?_]
      · have h4 : ¬ (400 ≤ (N : Int)) := by omega
        simp [textOk, h, hN, h1, ints_get hN, E_iadmissible, h4]
      · simp
      · intro j hj
        have hj' : j < l.length := by omega
        have hw := w64 (j + 1) (by omega)
        have h4 : ¬ (400 ≤ (j : Int)) := by omega
        simp [hj', hw, ints_get hj', E_iadmissible, h2 j hj' hj, h4]
  · rcases firstBad typed (l.take 400) with h | ⟨h, N, hN, h1, h2⟩
    · obtain ⟨N, hN⟩ : ∃ N : Nat, N = 400 := ⟨_, rfl⟩
      rw [loopV_go (fun j => .on ⟨[(7, V.v (.int .i64 ((j : Int)))), (6, V.v (.int .i64 ((l.length : Int)))), (5, .lst (some 0) (ints l))], [], [], []⟩) N ?_ ?_]
      · have h5 : N < l.length := by omega
        have h6 : 400 ≤ (N : Int) := by omega
        simp [textOk, hn, h5, ints_get h5, h6]
      · simp
      · intro j hj
        have hj' : j < l.length := by omega
        have hw := w64 (j + 1) (by omega)
        have h3 : typed l[j] = true := by
          have := List.all_eq_true.1 h ((l.take 400)[j]'(by simp; omega)) (List.getElem_mem _)
          simpa using this
        have h4 : ¬ (400 ≤ (j : Int)) := by omega
        simp [hj', hw, ints_get hj', E_iadmissible, h3, h4]
    · have hN' : N < 400 ∧ N < l.length := by simp at hN; omega
      rw [loopV_go (fun j => .on ⟨[(7, V.v (.int .i64 ((j : Int)))), (6, V.v (.int .i64 ((l.length : Int)))), (5, .lst (some 0) (ints l))], [], [], []⟩) N ?_ ?_]
      · have h4 : ¬ (400 ≤ (N : Int)) := by omega
        have h5 : typed l[N] = false := by simpa using h1
        simp [textOk, hn, hN'.2, h5, ints_get hN'.2, E_iadmissible, h4]
      · simp
      · intro j hj
        have hj' : j < l.length := by omega
        have hw := w64 (j + 1) (by omega)
        have h4 : ¬ (400 ≤ (j : Int)) := by omega
        have h3 : typed l[j] = true := by
          have := h2 j (by simp; omega) hj
          simpa using this
        simp [hj', hw, ints_get hj', E_iadmissible, h3, h4]
theorem E_sl15Piece (l : List Int) (hl : l.length ≤ 1000000000) : M_sl15Piece [.lst (some 0) (ints l)] [] [] = some ⟨V.v (.bool (textOk l)), [], []⟩ := by
  unfold M_sl15Piece
  by_cases hn : l.length ≤ 400
  · have : (l.length : Int) ≤ 400 := by omega
    cases h : l.all typed <;> simp [Try.func161, Try.f161, textOk, hn, this, E_sl13AllTyped l hl, h]
  · have : ¬ (l.length : Int) ≤ 400 := by omega
    simp [Try.func161, Try.f161, textOk, hn, this]
theorem E_iLineOk (l : List Int) (a : Int) (hl : l.length ≤ 1000000000) : M_iLineOk [.agg [.lst (some 0) (ints l), V.v (.int .i64 a)]] [] [] = some ⟨V.v (.bool (lineOk l a)), [], []⟩ := by
  unfold M_iLineOk
  cases h : textOk l <;> simp [Try.func99, Try.f99, lineOk, E_iareAdmissible l hl, E_iin, h]
theorem E_sLineOk (l : List Int) (a : Int) (hl : l.length ≤ 1000000000) : M_sLineOk [.agg [.lst (some 0) (ints l), V.v (.int .i64 a)]] [] [] = some ⟨V.v (.bool (lineOk l a)), [], []⟩ := by
  unfold M_sLineOk
  by_cases hn : l.length ≤ 400
  · have : (l.length : Int) ≤ 400 := by omega
    cases h : l.all typed <;> by_cases h1 : 0 ≤ a <;> by_cases h2 : a ≤ (l.length : Int) <;> simp [Try.func109, Try.f109, lineOk, textOk, inR, hn, this, E_sl13AllTyped l hl, h, h1, h2]
  · have : ¬ (l.length : Int) ≤ 400 := by omega
    simp [Try.func109, Try.f109, lineOk, textOk, hn, this]
theorem E_sl21Empty (l : List Int) (a : Int) : M_sl21Empty [.agg [.lst (some 0) (ints l), V.v (.int .i64 a)]] [] [] = some ⟨V.v (.bool (emptyL l a)), [], []⟩ := by
  unfold M_sl21Empty
  by_cases h1 : l.length = 0 <;> by_cases h2 : a = 0 <;> simp [Try.func114, Try.f114, emptyL, h1, h2]
theorem E_iemptyLine (l : List Int) (a : Int) : M_iemptyLine [.agg [.lst (some 0) (ints l), V.v (.int .i64 a)]] [] [] = some ⟨V.v (.bool (emptyL l a)), [], []⟩ := by
  unfold M_iemptyLine
  by_cases h1 : l.length = 0 <;> by_cases h2 : a = 0 <;> simp [Try.func103, Try.f103, emptyL, h1, h2]
def atEnd (l : List Int) (a : Int) : Bool := decide (0 < l.length) && (a == (l.length : Int))
theorem E_iisAtEnd (l : List Int) (a : Int) : M_iisAtEnd [.agg [.lst (some 0) (ints l), V.v (.int .i64 a)]] [] [] = some ⟨V.v (.bool (atEnd l a)), [], []⟩ := by
  unfold M_iisAtEnd
  by_cases h1 : 0 < l.length <;> by_cases h2 : a = (l.length : Int) <;> simp [Try.func156, Try.f156, atEnd, h1, h2] <;> omega
theorem E_sl03HasInt (l : List Int) (n : Int) (hl : l.length ≤ 1000000000) : M_sl03HasInt [.lst (some 0) (ints l), V.v (.int .i64 n)] [] [] = some ⟨V.v (.bool (!(l.all fun x => x != n))), [], []⟩ := by
  unfold M_sl03HasInt
  simp [Try.func180, Try.f180]
  rcases firstBad (fun x => x != n) l with h | ⟨h, N, hN, h1, h2⟩
  · rw [loopV_go (fun j => .on ⟨[(9, V.v (.int .i64 ((j : Int)))), (8, V.v (.int .i64 ((l.length : Int)))), (7, .lst (some 0) (ints l)), (1, V.v (.int .i64 n))], [], [], []⟩) l.length ?_ ?_]
    · simp only [h]; simp
    · simp
    · intro j hj
      have hw := w64 (j + 1) (by omega)
      have := List.all_eq_true.1 h l[j] (List.getElem_mem hj)
      simp at this
      simp [hj, hw, ints_get hj, this]
  · rw [loopV_go (fun j => .on ⟨[(9, V.v (.int .i64 ((j : Int)))), (8, V.v (.int .i64 ((l.length : Int)))), (7, .lst (some 0) (ints l)), (1, V.v (.int .i64 n))], [], [], []⟩) N ?_ ?_]
    · simp only [h]
      simp at h1
      simp [hN, h1, ints_get hN]
    · simp
    · intro j hj
      have hj' : j < l.length := by omega
      have hw := w64 (j + 1) (by omega)
      have := h2 j hj' hj
      simp at this
      simp [hj', hw, ints_get hj', this]
end Go.Proofs.Ytacnbajcignacaa
