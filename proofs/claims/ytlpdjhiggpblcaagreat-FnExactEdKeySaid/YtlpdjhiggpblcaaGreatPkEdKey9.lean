/- Part 9 of a proof in several texts (an abstract evaluator, what the functions compute). -/
import Derived.Test.YtlpdjhiggpblcaaGreatPkEdKey8
import Derived.Test.YtlpdjhiggpblcaaGreatProg
open Go.Proofs.Tryz
namespace Go.Proofs.YtlpdjhiggpblcaaGreat
set_option linter.unusedSectionVars false
set_option linter.unusedSimpArgs false
set_option linter.unusedVariables false
theorem ach:prog.follows .mixedOrders=true:=by kernel_rfl
theorem eD {G:List (FuncId×Bool×aN)}{gh:ou}{f:FuncId}{fn:Func}(hG:∀f M,look f G=some M→aD Tryz.prog f M.2)(hf:Tryz.prog.funcs[f]?=some fn)(h:akw gh fn=true:=by exact aV (by kernel_rfl)):aD Tryz.prog f (aJ Tryz.prog G gh f):=sound gh hG ach hf h
open Go.RowKit
noncomputable def Ep:aN:=aJ prog [] ⟨[],[],[],[]⟩ 148
theorem VP:aD prog 148 Ep:=eD ay func148
noncomputable def oG:aN:=aJ prog [(148,false,Ep)] ⟨[],[],[],[]⟩ 87
theorem AO:aD prog 87 oG:=eD (ah VP ay) func87
noncomputable def CU:aN:=aJ prog [(87,false,oG)] ⟨[],[],[],[]⟩ 271
theorem Zq:aD prog 271 CU:=eD (ah AO ay) func271
noncomputable def sO:aN:=aJ prog [(271,false,CU)] ⟨[(2,[7,6,5],[])],[],[],[]⟩ 213
theorem IC:aD prog 213 sO:=eD (ah Zq ay) func213
noncomputable def zI:aN:=aJ prog [(213,false,sO)] ⟨[],[],[],[]⟩ 215
theorem PO:aD prog 215 zI:=eD (ah IC ay) func215
noncomputable def wB:aN:=aJ prog [(215,false,zI)] ⟨[(2,[8,7,6,1],[1])],[],[],[]⟩ 136
theorem JL:aD prog 136 wB:=eD (ah PO ay) func136
noncomputable def yI:aN:=aJ prog [] ⟨[(3,[10,9,8,3,2],[3,2])],[],[(5,[],[(7,[0,1]),(8,[]),(10,[])])],[]⟩ 139
theorem Lf:aD prog 139 yI:=eD ay func139
noncomputable def mX:aN:=aJ prog [] ⟨[],[],[],[]⟩ 113
theorem vH:aD prog 113 mX:=eD ay func113
noncomputable def yJ:aN:=aJ prog [(136,false,wB),(215,false,zI),(139,false,yI),(113,false,mX)] ⟨[],[],[(12,[0,1,2,3,5,6,4,7,8],[(4,[5,6]),(7,[])])],[]⟩ 146
theorem Sc:aD prog 146 yJ:=eD (ah JL (ah PO (ah Lf (ah vH ay)))) func146
noncomputable def nM:aN:=aJ prog [(213,false,sO)] ⟨[],[],[],[]⟩ 134
theorem uq:aD prog 134 nM:=eD (ah IC ay) func134
noncomputable def wC:aN:=aJ prog [(134,false,nM)] ⟨[(2,[8,7,6,1],[1])],[],[],[]⟩ 137
theorem JM:aD prog 137 wC:=eD (ah uq ay) func137
noncomputable def lF:aN:=aJ prog [] ⟨[],[],[(1,[],[(7,[])])],[]⟩ 115
theorem oZ:aD prog 115 lF:=eD ay func115
noncomputable def qG:aN:=aJ prog [(115,false,lF)] ⟨[(3,[10,9,8,3,2],[3,2])],[],[(5,[],[(4,[0,1]),(5,[]),(7,[])])],[]⟩ 140
theorem CV:aD prog 140 qG:=eD (ah oZ ay) func140
noncomputable def yK:aN:=aJ prog [] ⟨[(4,[13,12,1,0],[])],[],[(6,[],[])],[]⟩ 147
theorem Lg:aD prog 147 yK:=eD ay func147
noncomputable def BS:aN:=aJ prog [(137,false,wC),(134,false,nM),(140,false,qG),(147,false,yK),(115,false,lF)] ⟨[],[],[(5,[],[]),(7,[],[(4,[0,1]),(5,[]),(7,[])])],[]⟩ 80
theorem aci:aD prog 80 BS:=eD (ah JM (ah uq (ah CV (ah Lg (ah oZ ay))))) func80
noncomputable def sP:aN:=aJ prog [] ⟨[],[],[],[]⟩ 82
theorem FK:aD prog 82 sP:=eD ay func82
noncomputable def nN:aN:=aJ prog [] ⟨[(2,[8,7,6,1],[1])],[],[],[]⟩ 70
theorem yL:aD prog 70 nN:=eD ay func70
noncomputable def zJ:aN:=aJ prog [(87,false,oG)] ⟨[],[],[],[]⟩ 34
theorem MO:aD prog 34 zJ:=eD (ah AO ay) func34
noncomputable def xu:aN:=aJ prog [] ⟨[],[],[],[]⟩ 42
theorem BU:aD prog 42 xu:=eD ay func42
noncomputable def Er:aN:=aJ prog [(42,false,xu)] ⟨[],[],[],[]⟩ 122
theorem VQ:aD prog 122 Er:=eD (ah BU ay) func122
noncomputable def oH:aN:=aJ prog [(122,false,Er),(42,false,xu)] ⟨[],[],[],[]⟩ 44
theorem xw:aD prog 44 oH:=eD (ah VQ (ah BU ay)) func44
noncomputable def zm:aN:=aJ prog [(44,false,oH)] ⟨[],[],[],[]⟩ 209
theorem Ul:aD prog 209 zm:=eD (ah xw ay) func209
noncomputable def nO:aN:=aJ prog [(209,false,zm)] ⟨[(2,[7,6,5],[])],[],[],[]⟩ 119
theorem yM:aD prog 119 nO:=eD (ah Ul ay) func119
noncomputable def rP:aN:=aJ prog [(119,false,nO),(42,false,xu)] ⟨[],[],[],[]⟩ 41
theorem yN:aD prog 41 rP:=eD (ah yM (ah BU ay)) func41
noncomputable def BX:aN:=aJ prog [] ⟨[],[],[],[]⟩ 120
theorem Sd:aD prog 120 BX:=eD ay func120
noncomputable def vJ:aN:=aJ prog [] ⟨[(2,[5,1,0],[])],[],[],[]⟩ 121
theorem Sg:aD prog 121 vJ:=eD ay func121
noncomputable def JN:aN:=aJ prog [(120,false,BX),(121,false,vJ)] ⟨[],[],[],[]⟩ 43
theorem aft:aD prog 43 JN:=eD (ah Sd (ah Sg ay)) func43
noncomputable def yO:aN:=aJ prog [(119,false,nO)] ⟨[(2,[8,7,6,1],[1])],[],[],[]⟩ 45
theorem JO:aD prog 45 yO:=eD (ah yM ay) func45
noncomputable def Bo:aN:=aJ prog [(41,false,rP)] ⟨[(2,[8,7,6,1],[1])],[],[],[]⟩ 46
theorem Ou:aD prog 46 Bo:=eD (ah yN ay) func46
noncomputable def AP:aN:=aJ prog [] ⟨[],[],[],[]⟩ 47
theorem Xp:aD prog 47 AP:=eD ay func47
noncomputable def CW:aN:=aJ prog [(41,false,rP),(42,false,xu),(43,false,JN),(44,false,oH),(45,false,yO),(46,false,Bo),(47,false,AP)] ⟨[(10,[109,108,107,1],[1])],[],[],[]⟩ 9
theorem Xq:aD prog 9 CW:=eD (ah yN (ah BU (ah aft (ah xw (ah JO (ah Ou (ah Xp ay))))))) func9
noncomputable def nZ:aN:=aJ prog [(42,false,xu)] ⟨[(4,[18,17,16],[])],[],[],[]⟩ 72
theorem JQ:aD prog 72 nZ:=eD (ah BU ay) func72
noncomputable def sQ:aN:=aJ prog [(42,false,xu)] ⟨[],[],[],[]⟩ 141
theorem BZ:aD prog 141 sQ:=eD (ah BU ay) func141
noncomputable def Es:aN:=aJ prog [(44,false,oH),(141,false,sQ),(42,false,xu)] ⟨[],[],[],[]⟩ 73
theorem ahF:aD prog 73 Es:=eD (ah xw (ah BZ (ah BU ay))) func73
noncomputable def rQ:aN:=aJ prog [(9,false,CW),(72,false,nZ),(73,false,Es)] ⟨[],[],[],[]⟩ 88
theorem Ov:aD prog 88 rQ:=eD (ah Xq (ah JQ (ah ahF ay))) func88
noncomputable def Et:aN:=aJ prog [] ⟨[(3,[6,5,1,0],[])],[],[],[]⟩ 150
theorem Zr:aD prog 150 Et:=eD ay func150
noncomputable def jZ:aN:=aJ prog [] ⟨[],[],[],[]⟩ 98
theorem nG:aD prog 98 jZ:=eD ay func98
noncomputable def nU:aN:=aJ prog [(41,false,rP),(98,false,jZ)] ⟨[],[],[(3,[0,1,2,3,4,5,6,8,9,10,11,12,14,15,16,17,18,20,7,13,19,21],[(7,[8,9,10,11,12,14,15,16,17,18,20]),(13,[14,15,16,17,18,20]),(21,[])])],[]⟩ 216
theorem Lh:aD prog 216 nU:=eD (ah yN (ah nG ay)) func216
noncomputable def kP:aN:=aJ prog [(98,false,jZ)] ⟨[],[],[(1,[],[(6,[])])],[]⟩ 100
theorem oI:aD prog 100 kP:=eD (ah nG ay) func100
noncomputable def wD:aN:=aJ prog [(98,false,jZ)] ⟨[(3,[9,8,7,3,2],[3,2])],[],[(5,[],[(6,[0,1]),(7,[]),(9,[])])],[]⟩ 142
theorem IE:aD prog 142 wD:=eD (ah nG ay) func142
noncomputable def wE:aN:=aJ prog [(100,false,kP)] ⟨[(3,[9,8,7,3,2],[3,2])],[],[(5,[],[(4,[0,1]),(5,[]),(7,[])])],[]⟩ 143
theorem IG:aD prog 143 wE:=eD (ah oI ay) func143
noncomputable def jG:aN:=aJ prog [(100,false,kP),(142,false,wD),(143,false,wE),(98,false,jZ)] ⟨[],[],[(1,[],[(10,[]),(12,[]),(14,[])]),(2,[],[(7,[]),(9,[])])],[]⟩ 74
theorem lG:aD prog 74 jG:=eD (ah oI (ah IE (ah IG (ah nG ay)))) func74
noncomputable def qP:aN:=aJ prog [(74,false,jG)] ⟨[],[],[],[]⟩ 171
theorem yP:aD prog 171 qP:=eD (ah lG ay) func171
noncomputable def kg:aN:=aJ prog [(171,false,qP)] ⟨[],[],[],[]⟩ 96
theorem mI:aD prog 96 kg:=eD (ah yP ay) func96
noncomputable def wF:aN:=aJ prog [] ⟨[(4,[13,12,1,0],[])],[],[(6,[],[])],[]⟩ 220
theorem II:aD prog 220 wF:=eD ay func220
noncomputable def Ca:aN:=aJ prog [(46,false,Bo),(41,false,rP),(143,false,wE),(220,false,wF),(100,false,kP)] ⟨[],[],[(5,[],[]),(7,[],[(4,[0,1]),(5,[]),(7,[])])],[]⟩ 226
theorem acj:aD prog 226 Ca:=eD (ah Ou (ah yN (ah IG (ah II (ah oI ay))))) func226
noncomputable def kI:aN:=aJ prog [(120,false,BX)] ⟨[],[],[],[]⟩ 176
theorem AQ:aD prog 176 kI:=eD (ah Sd ay) func176
noncomputable def Aj:aN:=aJ prog [(171,false,qP),(220,false,wF),(226,false,Ca),(100,false,kP),(176,false,kI)] ⟨[],[],[(4,[],[(6,[])])],[]⟩ 165
theorem Ow:aD prog 165 Aj:=eD (ah yP (ah II (ah acj (ah oI (ah AQ ay))))) func165
noncomputable def wG:aN:=aJ prog [(216,false,nU),(96,false,kg),(165,false,Aj)] ⟨[],[],[],[]⟩ 149
theorem VR:aD prog 149 wG:=eD (ah Lh (ah mI (ah Ow ay))) func149
noncomputable def yQ:aN:=aJ prog [(41,false,rP)] ⟨[],[],[],[]⟩ 222
theorem VT:aD prog 222 yQ:=eD (ah yN ay) func222
noncomputable def sS:aN:=aJ prog [(222,false,yQ),(98,false,jZ)] ⟨[],[],[(3,[0,1,2,3,4,5,6,7,8,10,11,13,9,12,14],[(9,[10,11,13]),(14,[])]),(8,[],[(7,[])])],[]⟩ 164
theorem FL:aD prog 164 sS:=eD (ah VT (ah nG ay)) func164
noncomputable def vK:aN:=aJ prog [(165,false,Aj)] ⟨[],[],[],[]⟩ 153
theorem FM:aD prog 153 vK:=eD (ah Ow ay) func153
noncomputable def FN:aN:=aJ prog [(164,false,sS),(96,false,kg),(153,false,vK)] ⟨[],[],[],[]⟩ 152
theorem ahG:aD prog 152 FN:=eD (ah FL (ah mI (ah FM ay))) func152
noncomputable def yR:aN:=aJ prog [(45,false,yO),(42,false,xu),(119,false,nO),(142,false,wD),(98,false,jZ)] ⟨[],[],[(7,[0,1,2,4,5,3,6,7,8],[(3,[4,5]),(6,[]),(8,[])]),(10,[],[(8,[0,1]),(11,[])]),(4,[],[(9,[0,1]),(12,[])])],[]⟩ 166
theorem Si:aD prog 166 yR:=eD (ah JO (ah BU (ah yM (ah IE (ah nG ay))))) func166
noncomputable def qd:aN:=aJ prog [(164,false,sS),(96,false,kg),(165,false,Aj),(166,false,yR)] ⟨[],[],[],[]⟩ 94
theorem QL:aD prog 94 qd:=eD (ah FL (ah mI (ah Ow (ah Si ay)))) func94
noncomputable def og:aN:=aJ prog [] ⟨[],[],[],[]⟩ 162
theorem uw:aD prog 162 og:=eD ay func162
noncomputable def vL:aN:=aJ prog [(42,false,xu)] ⟨[],[],[],[]⟩ 223
theorem FP:aD prog 223 vL:=eD (ah BU ay) func223
noncomputable def Cb:aN:=aJ prog [(42,false,xu)] ⟨[],[],[],[]⟩ 159
theorem Sj:aD prog 159 Cb:=eD (ah BU ay) func159
noncomputable def o7:aN:=aJ prog [(141,false,sQ),(223,false,vL),(159,false,Cb),(44,false,oH)] ⟨[],[],[],[]⟩ 163
theorem FQ:aD prog 163 o7:=eD (ah BZ (ah FP (ah Sj (ah xw ay)))) func163
noncomputable def vM:aN:=aJ prog [(163,false,o7)] ⟨[],[],[],[]⟩ 273
theorem FR:aD prog 273 vM:=eD (ah FQ ay) func273
noncomputable def nH:aN:=aJ prog [(162,false,og),(273,false,vM)] ⟨[(7,[7,2,1,0],[]),(2,[2,1,0],[])],[],[],[]⟩ 217
theorem KG:aD prog 217 nH:=eD (ah uw (ah FR ay)) func217
noncomputable def iJ:aN:=aJ prog [(74,false,jG),(152,false,FN),(94,false,qd),(217,false,nH)] ⟨[],[],[(1,[],[]),(16,[],[(11,[10])])],[]⟩ 151
theorem Xr:aD prog 151 iJ:=eD (ah lG (ah ahG (ah QL (ah KG ay)))) func151
noncomputable def qQ:aN:=aJ prog [(98,false,jZ)] ⟨[],[],[(1,[],[(10,[])])],[]⟩ 154
theorem zn:aD prog 154 qQ:=eD (ah nG ay) func154
noncomputable def zK:aN:=aJ prog [(72,false,nZ)] ⟨[],[],[],[]⟩ 172
theorem PS:aD prog 172 zK:=eD (ah JQ ay) func172
noncomputable def sU:aN:=aJ prog [(72,false,nZ),(42,false,xu)] ⟨[],[],[],[]⟩ 231
theorem Sk:aD prog 231 sU:=eD (ah JQ (ah BU ay)) func231
noncomputable def xA:aN:=aJ prog [(122,false,Er)] ⟨[],[],[],[]⟩ 230
theorem MP:aD prog 230 xA:=eD (ah VQ ay) func230
noncomputable def CX:aN:=aJ prog [(42,false,xu),(230,false,xA)] ⟨[(17,[57,56,55,8,7,1,0],[])],[],[(21,[],[])],[]⟩ 276
theorem Zt:aD prog 276 CX:=eD (ah BU (ah MP ay)) func276
noncomputable def yS:aN:=aJ prog [(276,false,CX)] ⟨[(6,[6,5,4],[])],[],[],[]⟩ 234
theorem Sl:aD prog 234 yS:=eD (ah Zt ay) func234
noncomputable def wH:aN:=aJ prog [(234,false,yS),(41,false,rP)] ⟨[],[],[],[]⟩ 232
theorem VU:aD prog 232 wH:=eD (ah Sl (ah yN ay)) func232
noncomputable def dO:aN:=aJ prog [(9,false,CW),(171,false,qP),(172,false,zK),(100,false,kP),(176,false,kI),(231,false,sU),(232,false,wH)] ⟨[],[],[(10,[],[(7,[])])],[]⟩ 218
theorem afu:aD prog 218 dO:=eD (ah Xq (ah yP (ah PS (ah oI (ah AQ (ah Sk (ah VU ay))))))) func218
noncomputable def AU:aN:=aJ prog [(218,false,dO),(96,false,kg)] ⟨[],[],[],[]⟩ 155
theorem Xt:aD prog 155 AU:=eD (ah afu (ah mI ay)) func155
noncomputable def fu:aN:=aJ prog [(150,false,Et),(149,false,wG),(74,false,jG),(151,false,iJ),(152,false,FN),(154,false,qQ),(153,false,vK),(155,false,AU)] ⟨[],[],[(1,[],[]),(7,[],[(10,[9])]),(9,[],[(8,[7])]),(19,[],[(11,[10])]),(21,[],[(11,[10])]),(23,[],[(8,[7])]),(25,[],[(9,[8])])],[]⟩ 89
theorem Sm:aD prog 89 fu:=eD (ah Zr (ah VR (ah lG (ah Xr (ah ahG (ah zn (ah FM (ah Xt ay)))))))) func89
noncomputable def zL:aN:=aJ prog [(162,false,og),(163,false,o7)] ⟨[(4,[1,0],[]),(2,[1,0],[])],[],[],[]⟩ 93
theorem PU:aD prog 93 zL:=eD (ah uw (ah FQ ay)) func93
noncomputable def lH:aN:=aJ prog [(93,false,zL)] ⟨[],[],[],[]⟩ 156
theorem vN:aD prog 156 lH:=eD (ah PU ay) func156
noncomputable def Bp:aN:=aJ prog [(162,false,og),(163,false,o7)] ⟨[(4,[1,0],[]),(2,[1,0],[])],[],[],[]⟩ 158
theorem VW:aD prog 158 Bp:=eD (ah uw (ah FQ ay)) func158
noncomputable def lI:aN:=aJ prog [(158,false,Bp)] ⟨[],[],[],[]⟩ 157
theorem vO:aD prog 157 lI:=eD (ah VW ay) func157
noncomputable def mJ:aN:=aJ prog [(93,false,zL)] ⟨[],[],[],[]⟩ 92
theorem xB:aD prog 92 mJ:=eD (ah PU ay) func92
noncomputable def Eu:aN:=aJ prog [(273,false,vM)] ⟨[(2,[7,2,1,0],[])],[],[],[]⟩ 277
theorem VX:aD prog 277 Eu:=eD (ah FR ay) func277
noncomputable def wI:aN:=aJ prog [(162,false,og),(273,false,vM),(277,false,Eu)] ⟨[(4,[2,1,0],[])],[],[],[]⟩ 238
theorem Zu:aD prog 238 wI:=eD (ah uw (ah FR (ah VX ay))) func238
noncomputable def mK:aN:=aJ prog [(238,false,wI)] ⟨[],[],[],[]⟩ 237
theorem xC:aD prog 237 mK:=eD (ah Zu ay) func237
noncomputable def mM:aN:=aJ prog [(217,false,nH)] ⟨[],[],[],[]⟩ 239
theorem xD:aD prog 239 mM:=eD (ah KG ay) func239
noncomputable def xE:aN:=aJ prog [(162,false,og),(273,false,vM),(277,false,Eu)] ⟨[(5,[7,2,1,0],[])],[],[],[]⟩ 241
theorem Xu:aD prog 241 xE:=eD (ah uw (ah FR (ah VX ay))) func241
noncomputable def mO:aN:=aJ prog [(241,false,xE)] ⟨[],[],[],[]⟩ 240
theorem xF:aD prog 240 mO:=eD (ah Xu ay) func240
noncomputable def fZ:aN:=VK (aJ prog [(92,false,mJ),(156,false,lH),(157,false,lI),(237,false,mK),(239,false,mM),(240,false,mO)] ⟨[(2,[8,7,2,0],[1000000000])],[],[],[]⟩ 91) (aJ prog [(92,false,mJ),(156,false,lH),(157,false,lI),(237,false,mK),(239,false,mM),(240,false,mO)] ⟨[(2,[8,7,2,0],[1000000001,1000000000])],[],[],[]⟩ 91)
theorem IJ:aD prog 91 fZ:=Zj (sound _ (ah xB (ah vN (ah vO (ah xC (ah xD (ah xF ay)))))) ach func91 (aV (by kernel_rfl))) (sound _ (ah xB (ah vN (ah vO (ah xC (ah xD (ah xF ay)))))) ach func91 (aV (by kernel_rfl)))
noncomputable def o8:aN:=aJ prog [(45,false,yO),(98,false,jZ)] ⟨[],[],[],[]⟩ 219
theorem Li:aD prog 219 o8:=eD (ah JO (ah nG ay)) func219
open Classical in
noncomputable def zM:aN:=fun args boxes trees=>match args,boxes,trees with
 | [.agg [.aM (some 0) rows]],[],[]=>if yO [.agg [.aM (some 0) rows]] [] []=some ⟨.v (.bool true),[],[]⟩∧wD [.agg [.aM (some 0) rows]] [] []=some ⟨.agg [.own 0],[],[(0,rows)]⟩∧(∀r∈rows,∃q,r= [D.l q])∧rows.length≤1000 then some ⟨.agg [.own 0],[],[(0,rows.drop 1++rows.take 1)]⟩else none
 | _,_,_=>none
set_option maxHeartbeats 8000000 in
set_option maxRecDepth 100000 in
theorem Zv:aD prog 221 zM:=
 R3 (gh:=⟨[],[(5,[3])],[(5,[],[(9,[]),(11,[])])],[]⟩) (ah (f:=45) (m:=false) JO (ah (f:=142) (m:=false) IE ay)) ach func221 rfl rfl (by decide) (aV (by kernel_rfl)) 4 (fun args boxes trees r h=>by
  unfold zM at h
  split at h
  ·rename_i rows
   split at h
   ·rename_i hc
    obtain⟨e1,e2,hw,hlen⟩:=hc
    injection h with h;subst h
    refine⟨by simp,rfl,rfl,rfl,10000,?_⟩
    have hw1:=aeA hw
    unfold Xj Ai
    simp [partsOf,func221,f221,rM,e1,e2,bV,l6,nX]
    refine⟨rows,rfl,fun us Y0 huc=>?_⟩
    rw [MK hw1]at Y0
    have ha:=Iw hw1 Y0
    have hone:=Ld hw Y0 huc
    have fin:Iu rows us ⟨.agg [.own 0],[],[(0,rows.tail++rows.take 1)]⟩ ⟨.agg [.own 0],[],[(0,(us.tail++us.take 1).map fun u=> [D.a u])]⟩:=by
     rw [←List.drop_one,←List.drop_one]
     exact fun c hK' y w u m r=>VN hw1 Y0 m r
    have hul:us.length≤1000:=by omega
    simp only [upd,if_true,ha]
    cases us with
    | nil=>
     simp [f221,rM]
     exact fin
    | cons u us=>
     have hu1:u.oneCell'=true:=hone u (by simp)
     have hu2:=R4 fun v hv=>hone v (List.mem_cons_of_mem _ hv)
     have q1:(1:Int)≤(us.length:Int)+1:=by omega
     have q2:(0:Int)<(us.length:Int)+1:=by omega
     have q3:us.length≤1000:=by simp at hul;omega
     have g1:us.length*24≤140737488355328:=by omega
     have g2:us.length≤4611686018427387904:=by omega
     have g3:(us.length+1)*24≤140737488355328:=by omega
     have g4:us.length+1≤4611686018427387904:=by omega
     have g5:us.length≤4611686018427387903:=by omega
     simp [f221,rM,hu1,hu2,q1,q2,g1,g2,g3,g4,g5,aeB,VO]
     simp at fin
     exact fin
   ·cases h
  ·cases h)
noncomputable def jr:aN:=aJ prog [(219,false,o8),(220,false,wF),(96,false,kg),(164,false,sS),(221,false,zM),(216,false,nU),(74,false,jG),(165,false,Aj)] ⟨[],[],[(7,[],[(8,[6])])],[]⟩ 160
theorem Zw:aD prog 160 jr:=eD (ah Li (ah II (ah mI (ah FL (ah Zv (ah Lh (ah lG (ah Ow ay)))))))) func160
noncomputable def IK:aN:=aJ prog [(141,false,sQ)] ⟨[],[],[],[]⟩ 224
theorem Zx:aD prog 224 IK:=eD (ah BZ ay) func224
noncomputable def IL:aN:=aJ prog [(223,false,vL)] ⟨[],[],[],[]⟩ 225
theorem Zy:aD prog 225 IL:=eD (ah FP ay) func225
noncomputable def zN:aN:=aJ prog [(222,false,yQ),(42,false,xu),(154,false,qQ),(141,false,sQ),(223,false,vL),(224,false,IK),(225,false,IL)] ⟨[(6,[12,11,10,8,3,2],[10,8])],[],[(11,[],[(6,[])]),(12,[],[(6,[])])],[]⟩ 161
theorem Zz:aD prog 161 zN:=eD (ah VT (ah BU (ah zn (ah BZ (ah FP (ah Zx (ah Zy ay))))))) func161
noncomputable def fG:aN:=aJ prog [(156,false,lH),(157,false,lI),(159,false,Cb),(74,false,jG),(91,false,fZ),(154,false,qQ),(153,false,vK),(94,false,qd),(160,false,jr),(158,false,Bp),(161,false,zN),(96,false,kg)] ⟨[],[],[(1,[],[(10,[3,4,5,6,7,8])]),(9,[],[(6,[0,1,2]),(11,[])]),(11,[],[(6,[0,1,2]),(11,[])]),(13,[],[(5,[0,1]),(9,[])]),(19,[],[(12,[10])]),(16,[0],[])],[]⟩ 90
theorem Xv:aD prog 90 fG:=eD (ah vN (ah vO (ah Sj (ah lG (ah IJ (ah zn (ah FM (ah QL (ah Zw (ah VW (ah Zz (ah mI ay)))))))))))) func90
noncomputable def FT:aN:=aJ prog [(219,false,o8),(96,false,kg),(149,false,wG)] ⟨[],[],[],[]⟩ 167
theorem ajc:aD prog 167 FT:=eD (ah Li (ah mI (ah VR ay))) func167
noncomputable def oJ:aN:=aJ prog [(41,false,rP),(154,false,qQ)] ⟨[],[],[(6,[],[(19,[4,5,6]),(21,[])])],[]⟩ 168
theorem ZA:aD prog 168 oJ:=eD (ah yN (ah zn ay)) func168
noncomputable def sV:aN:=aJ prog [(46,false,Bo),(143,false,wE),(100,false,kP)] ⟨[],[],[(5,[],[(8,[]),(9,[])])],[]⟩ 227
theorem ZB:aD prog 227 sV:=eD (ah Ou (ah IG (ah oI ay))) func227
noncomputable def zo:aN:=aJ prog [(227,false,sV),(96,false,kg),(171,false,qP),(176,false,kI)] ⟨[],[],[(5,[],[(6,[4]),(8,[])])],[]⟩ 169
theorem aeC:aD prog 169 zo:=eD (ah ZB (ah mI (ah yP (ah AQ ay)))) func169
noncomputable def FU:aN:=aJ prog [(171,false,qP),(100,false,kP)] ⟨[],[],[],[]⟩ 170
theorem Xw:aD prog 170 FU:=eD (ah yP (ah oI ay)) func170
noncomputable def bR:aN:=aJ prog [(89,false,fu),(94,false,qd),(167,false,FT),(168,false,oJ),(96,false,kg),(153,false,vK),(169,false,zo),(170,false,FU)] ⟨[],[],[(1,[0],[])],[]⟩ 95
theorem Xx:aD prog 95 bR:=eD (ah Sm (ah QL (ah ajc (ah ZA (ah mI (ah FM (ah aeC (ah Xw ay)))))))) func95
noncomputable def jv:aN:=aJ prog [(88,false,rQ),(89,false,fu),(90,false,fG),(92,false,mJ),(91,false,fZ),(94,false,qd),(95,false,bR),(96,false,kg)] ⟨[],[],[],[]⟩ 35
theorem ZC:aD prog 35 jv:=eD (ah Ov (ah Sm (ah Xv (ah xB (ah IJ (ah QL (ah Xx (ah mI ay)))))))) func35
noncomputable def Ev:aN:=aJ prog [(230,false,xA)] ⟨[(3,[8,7,6,3],[])],[],[],[]⟩ 174
theorem VY:aD prog 174 Ev:=eD (ah MP ay) func174
noncomputable def zO:aN:=aJ prog [(72,false,nZ),(42,false,xu),(229,false,lD)] ⟨[(8,[12,11,5,4,3,1],[5])],[],[],[]⟩ 173
theorem ZE:aD prog 173 zO:=eD (ah JQ (ah BU (ah Lc ay))) func173
noncomputable def vP:aN:=aJ prog [(9,false,CW),(44,false,oH),(231,false,sU),(232,false,wH),(174,false,Ev),(233,false,rJ),(234,false,yS),(74,false,jG),(100,false,kP),(98,false,jZ)] ⟨[(4,[36,35,34,8,5,4,3,2],[8,5,4])],[],[(19,[],[(7,[3,4,5]),(9,[3,4,5]),(11,[4,5]),(13,[5]),(15,[])])],[]⟩ 175
theorem acn:aD prog 175 vP:=eD (ah Xq (ah xw (ah Sk (ah VU (ah VY (ah Qn (ah Sl (ah lG (ah oI (ah nG ay)))))))))) func175
noncomputable def MQ:aN:=aJ prog [(172,false,zK),(174,false,Ev),(173,false,zO),(175,false,vP),(74,false,jG)] ⟨[],[],[(3,[],[])],[]⟩ 97
theorem ajd:aD prog 97 MQ:=eD (ah PS (ah VY (ah ZE (ah acn (ah lG ay))))) func97
noncomputable def FV:aN:=aJ prog [(74,false,jG),(176,false,kI)] ⟨[],[],[],[]⟩ 99
theorem aje:aD prog 99 FV:=eD (ah lG (ah AQ ay)) func99
noncomputable def cu:aN:=aJ prog [(88,false,rQ),(98,false,jZ),(97,false,MQ),(74,false,jG),(99,false,FV),(100,false,kP)] ⟨[],[],[(5,[0,1,2,3,4,5,6,7,9,10,8,11,12,13,14,15],[(8,[0,1,9,10]),(14,[])])],[]⟩ 36
theorem Xy:aD prog 36 cu:=eD (ah Ov (ah nG (ah ajd (ah lG (ah aje (ah oI ay)))))) func36
noncomputable def IQ:aN:=aJ prog [] ⟨[],[],[],[]⟩ 177
theorem ZF:aD prog 177 IQ:=eD ay func177
noncomputable def l8:aN:=aJ prog [(162,false,og)] ⟨[(6,[10,9,2,0],[]),(12,[11,2,0],[]),(18,[12,9,2,0],[]),(24,[13,2,0],[])],[],[],[]⟩ 235
theorem ZG:aD prog 235 l8:=eD (ah uw ay) func235
noncomputable def Bq:aN:=aJ prog [(162,false,og),(235,false,l8)] ⟨[(3,[19,18,3,2,1,0],[])],[],[],[]⟩ 178
theorem VZ:aD prog 178 Bq:=eD (ah uw (ah ZG ay)) func178
noncomputable def MR:aN:=aJ prog [(162,false,og)] ⟨[],[],[],[]⟩ 242
theorem ajf:aD prog 242 MR:=eD (ah uw ay) func242
noncomputable def Br:aN:=aJ prog [] ⟨[],[],[],[]⟩ 236
theorem V3:aD prog 236 Br:=eD ay func236
noncomputable def lJ:aN:=aJ prog [(96,false,kg),(154,false,qQ),(165,false,Aj),(236,false,Br),(164,false,sS),(74,false,jG),(166,false,yR),(153,false,vK)] ⟨[],[],[(4,[],[(8,[])]),(9,[],[(8,[])]),(10,[],[(5,[])])],[]⟩ 181
theorem Ox:aD prog 181 lJ:=eD (ah mI (ah zn (ah Ow (ah V3 (ah FL (ah lG (ah Si (ah FM ay)))))))) func181
noncomputable def AV:aN:=aJ prog [(154,false,qQ),(153,false,vK),(242,false,MR),(181,false,lJ)] ⟨[],[],[(2,[],[(8,[])])],[]⟩ 184
theorem Xz:aD prog 184 AV:=eD (ah zn (ah FM (ah ajf (ah Ox ay)))) func184
noncomputable def wJ:aN:=aJ prog [(178,false,Bq),(96,false,kg),(184,false,AV)] ⟨[],[],[],[]⟩ 179
theorem V4:aD prog 179 wJ:=eD (ah VZ (ah mI (ah Xz ay))) func179
noncomputable def mP:aN:=aJ prog [(96,false,kg),(154,false,qQ),(153,false,vK),(177,false,IQ),(178,false,Bq),(74,false,jG),(179,false,wJ)] ⟨[(9,[10,9,8,6,4,3,2],[9,6,4,3])],[],[],[]⟩ 101
theorem afv:aD prog 101 mP:=eD (ah mI (ah zn (ah FM (ah ZF (ah VZ (ah lG (ah V4 ay))))))) func101
noncomputable def aT:aN:=aJ prog [(162,false,og),(223,false,vL),(237,false,mK),(91,false,fZ),(239,false,mM),(240,false,mO),(163,false,o7)] ⟨[(23,[13,11,4],[4])],[],[],[]⟩ 183
theorem IU:aD prog 183 aT:=eD (ah uw (ah FP (ah xC (ah IJ (ah xD (ah xF (ah FQ ay))))))) func183
noncomputable def yT:aN:=aJ prog [(183,false,aT),(184,false,AV)] ⟨[],[],[],[]⟩ 180
theorem afw:aD prog 180 yT:=eD (ah IU (ah Xz ay)) func180
noncomputable def bG:aN:=aJ prog [(74,false,jG),(96,false,kg),(171,false,qP),(155,false,AU),(180,false,yT),(181,false,lJ),(170,false,FU)] ⟨[],[],[(1,[],[])],[]⟩ 102
theorem aco:aD prog 102 bG:=eD (ah lG (ah mI (ah yP (ah Xt (ah afw (ah Ox (ah Xw ay))))))) func102
noncomputable def eX:aN:=aJ prog [(74,false,jG),(42,false,xu),(177,false,IQ),(96,false,kg),(179,false,wJ),(121,false,vJ)] ⟨[],[],[(18,[],[(4,[1,2]),(6,[]),(8,[])])],[]⟩ 182
theorem ahH:aD prog 182 eX:=eD (ah lG (ah BU (ah ZF (ah mI (ah V4 (ah Sg ay)))))) func182
noncomputable def xG:aN:=aJ prog [(219,false,o8),(150,false,Et),(154,false,qQ),(216,false,nU),(96,false,kg),(153,false,vK)] ⟨[],[],[(5,[],[(9,[])])],[]⟩ 185
theorem ahI:aD prog 185 xG:=eD (ah Li (ah Zr (ah zn (ah Lh (ah mI (ah FM ay)))))) func185
noncomputable def sW:aN:=aJ prog [(96,false,kg),(154,false,qQ),(141,false,sQ),(224,false,IK),(225,false,IL),(153,false,vK)] ⟨[(6,[8,7,4,2],[7,4,2])],[],[(10,[],[(6,[])]),(11,[],[(6,[])])],[]⟩ 186
theorem ZH:aD prog 186 sW:=eD (ah mI (ah zn (ah BZ (ah Zx (ah Zy (ah FM ay)))))) func186
noncomputable def qx:aN:=aJ prog [(183,false,aT),(96,false,kg),(154,false,qQ),(165,false,Aj),(236,false,Br)] ⟨[],[],[(1,[],[]),(11,[],[(8,[])])],[]⟩ 187
theorem ahJ:aD prog 187 qx:=eD (ah IU (ah mI (ah zn (ah Ow (ah V3 ay))))) func187
noncomputable def bA:aN:=aJ prog [(182,false,eX),(181,false,lJ),(183,false,aT),(184,false,AV),(96,false,kg),(74,false,jG),(185,false,xG),(186,false,sW),(169,false,zo),(155,false,AU),(170,false,FU),(187,false,qx)] ⟨[],[],[(1,[],[])],[]⟩ 103
theorem acp:aD prog 103 bA:=eD (ah ahH (ah Ox (ah IU (ah Xz (ah mI (ah lG (ah ahI (ah ZH (ah aeC (ah Xt (ah Xw (ah ahJ ay)))))))))))) func103
noncomputable def l9:aN:=aJ prog [(88,false,rQ),(89,false,fu),(96,false,kg),(74,false,jG),(101,false,mP),(102,false,bG),(103,false,bA)] ⟨[],[],[],[]⟩ 37
theorem ahK:aD prog 37 l9:=eD (ah Ov (ah Sm (ah mI (ah lG (ah afv (ah aco (ah acp ay))))))) func37
noncomputable def j3:aN:=aJ prog [(35,false,jv),(36,false,cu),(37,false,l9)] ⟨[],[],[],[]⟩ 7
theorem ahL:aD prog 7 j3:=eD (ah ZC (ah Xy (ah ahK ay))) func7
noncomputable def zP:aN:=aJ prog [] ⟨[],[],[],[]⟩ 138
theorem PW:aD prog 138 zP:=eD ay func138
noncomputable def AX:aN:=aJ prog [] ⟨[(2,[9,8,7,1],[])],[],[],[]⟩ 272
theorem XA:aD prog 272 AX:=eD ay func272
noncomputable def wK:aN:=aJ prog [(272,false,AX)] ⟨[],[],[],[]⟩ 214
theorem ZI:aD prog 214 wK:=eD (ah XA ay) func214
noncomputable def FW:aN:=aJ prog [(138,false,zP),(214,false,wK)] ⟨[],[],[],[]⟩ 135
theorem acr:aD prog 135 FW:=eD (ah PW (ah ZI ay)) func135
noncomputable def rY:aN:=aJ prog [(134,false,nM),(135,false,FW),(136,false,wB),(137,false,wC),(87,false,oG),(138,false,zP)] ⟨[(9,[138,137,136],[])],[],[],[]⟩ 69
theorem AY:aD prog 69 rY:=eD (ah uq (ah acr (ah JL (ah JM (ah AO (ah PW ay)))))) func69
noncomputable def CY:aN:=aJ prog [] ⟨[],[],[],[]⟩ 108
theorem MS:aD prog 108 CY:=eD ay func108
noncomputable def Cc:aN:=aJ prog [] ⟨[(3,[6,5,1,0],[])],[],[],[]⟩ 244
theorem acs:aD prog 244 Cc:=eD ay func244
noncomputable def Ew:aN:=aJ prog [(134,false,nM)] ⟨[],[],[],[]⟩ 279
theorem Sn:aD prog 279 Ew:=eD (ah uq ay) func279
noncomputable def qR:aN:=aJ prog [(134,false,nM),(113,false,mX),(279,false,Ew)] ⟨[],[],[(3,[],[(21,[])])],[]⟩ 250
theorem Lj:aD prog 250 qR:=eD (ah uq (ah vH (ah Sn ay))) func250
noncomputable def gK:aN:=aJ prog [(115,false,lF),(139,false,yI),(140,false,qG)] ⟨[],[],[],[]⟩ 71
theorem jf:aD prog 71 gK:=eD (ah oZ (ah Lf (ah CV ay))) func71
noncomputable def qU:aN:=aJ prog [] ⟨[],[],[],[]⟩ 117
theorem yU:aD prog 117 qU:=eD ay func117
noncomputable def xH:aN:=aJ prog [(69,false,rY),(134,false,nM),(71,false,gK),(117,false,qU),(147,false,yK),(80,false,BS),(115,false,lF),(82,false,sP)] ⟨[],[],[],[]⟩ 253
theorem ahM:aD prog 253 xH:=eD (ah AY (ah uq (ah jf (ah yU (ah Lg (ah aci (ah oZ (ah FK ay)))))))) func253
noncomputable def iF:aN:=aJ prog [(71,false,gK),(117,false,qU)] ⟨[],[],[],[]⟩ 110
theorem jy:aD prog 110 iF:=eD (ah jf (ah yU ay)) func110
noncomputable def jQ:aN:=aJ prog [(253,false,xH),(110,false,iF)] ⟨[],[],[],[]⟩ 193
theorem qy:aD prog 193 jQ:=eD (ah ahM (ah jy ay)) func193
noncomputable def wL:aN:=aJ prog [(250,false,qR),(193,false,jQ)] ⟨[],[],[],[]⟩ 243
theorem V5:aD prog 243 wL:=eD (ah Lj (ah qy ay)) func243
noncomputable def fJ:aN:=aJ prog [] ⟨[],[],[],[]⟩ 118
theorem gU:aD prog 118 fJ:=eD ay func118
noncomputable def Ce:aN:=aJ prog [(134,false,nM)] ⟨[],[],[],[]⟩ 252
theorem Sq:aD prog 252 Ce:=eD (ah uq ay) func252
noncomputable def qV:aN:=aJ prog [(252,false,Ce),(113,false,mX)] ⟨[],[],[(8,[],[(17,[])])],[]⟩ 192
theorem Cg:aD prog 192 qV:=eD (ah Sq (ah vH ay)) func192
noncomputable def yV:aN:=aJ prog [(118,false,fJ),(192,false,qV),(193,false,jQ)] ⟨[],[],[(2,[],[(14,[11,12])])],[]⟩ 245
theorem afx:aD prog 245 yV:=eD (ah gU (ah Cg (ah qy ay))) func245
noncomputable def yX:aN:=aJ prog [(113,false,mX),(118,false,fJ),(134,false,nM),(279,false,Ew)] ⟨[],[],[(1,[],[(14,[])])],[]⟩ 247
theorem Oy:aD prog 247 yX:=eD (ah vH (ah gU (ah uq (ah Sn ay)))) func247
noncomputable def uT:aN:=aJ prog [(247,false,yX),(193,false,jQ)] ⟨[],[],[],[]⟩ 189
theorem Ey:aD prog 189 uT:=eD (ah Oy (ah qy ay)) func189
noncomputable def zQ:aN:=aJ prog [(70,false,nN)] ⟨[],[],[],[]⟩ 111
theorem PX:aD prog 111 zQ:=eD (ah yL ay) func111
noncomputable def vQ:aN:=aJ prog [(70,false,nN)] ⟨[],[],[],[]⟩ 257
theorem Sr:aD prog 257 vQ:=eD (ah yL ay) func257
noncomputable def xI:aN:=aJ prog [(148,false,Ep)] ⟨[],[],[],[]⟩ 261
theorem MU:aD prog 261 xI:=eD (ah VP ay) func261
noncomputable def CZ:aN:=aJ prog [(261,false,xI)] ⟨[(10,[8,7,6,1,0],[]),(4,[6,1,0],[])],[],[(14,[],[])],[]⟩ 291
theorem ZJ:aD prog 291 CZ:=eD (ah MU ay) func291
noncomputable def yY:aN:=aJ prog [(291,false,CZ)] ⟨[(6,[6,5,4],[])],[],[],[]⟩ 280
theorem Sv:aD prog 280 yY:=eD (ah ZJ ay) func280
noncomputable def Bt:aN:=aJ prog [(280,false,yY),(279,false,Ew)] ⟨[],[],[],[]⟩ 258
theorem V6:aD prog 258 Bt:=eD (ah Sv (ah Sn ay)) func258
noncomputable def dU:aN:=aJ prog [(69,false,rY),(111,false,zQ),(71,false,gK),(117,false,qU),(115,false,lF),(82,false,sP),(257,false,vQ),(258,false,Bt)] ⟨[],[],[],[]⟩ 255
theorem afy:aD prog 255 dU:=eD (ah AY (ah PX (ah jf (ah yU (ah oZ (ah FK (ah Sr (ah V6 ay)))))))) func255
noncomputable def kJ:aN:=aJ prog [(255,false,dU),(110,false,iF)] ⟨[],[],[],[]⟩ 196
theorem FX:aD prog 196 kJ:=eD (ah afy (ah jy ay)) func196
noncomputable def o9:aN:=aJ prog [(118,false,fJ),(192,false,qV),(193,false,jQ),(146,false,yJ)] ⟨[],[],[(2,[],[(14,[11,12])])],[]⟩ 106
theorem FY:aD prog 106 o9:=eD (ah gU (ah Cg (ah qy (ah Sc ay)))) func106
noncomputable def kK:aN:=aJ prog [(87,false,oG)] ⟨[],[],[],[]⟩ 254
theorem FZ:aD prog 254 kK:=eD (ah AO ay) func254
noncomputable def sZ:aN:=aJ prog [(254,false,kK)] ⟨[],[],[],[]⟩ 278
theorem IV:aD prog 278 sZ:=eD (ah FZ ay) func278
noncomputable def pq:aN:=aJ prog [(118,false,fJ),(278,false,sZ)] ⟨[(7,[7,2,1,0],[]),(2,[2,1,0],[])],[],[],[]⟩ 246
theorem KH:aD prog 246 pq:=eD (ah gU (ah IV ay)) func246
noncomputable def bn:aN:=aJ prog [(108,false,CY),(244,false,Cc),(243,false,wL),(71,false,gK),(245,false,yV),(189,false,uT),(196,false,kJ),(106,false,o9),(246,false,pq)] ⟨[],[],[(6,[],[(8,[])]),(8,[],[(6,[])]),(40,[],[(10,[])])],[]⟩ 188
theorem ZK:aD prog 188 bn:=eD (ah MS (ah acs (ah V5 (ah jf (ah afx (ah Ey (ah FX (ah FY (ah KH ay))))))))) func188
noncomputable def qH:aN:=aJ prog [(69,false,rY),(70,false,nN),(34,false,zJ),(188,false,bn)] ⟨[],[],[],[]⟩ 104
theorem PY:aD prog 104 qH:=eD (ah AY (ah yL (ah MO (ah ZK ay)))) func104
noncomputable def JR:aN:=aJ prog [(118,false,fJ),(254,false,kK)] ⟨[(4,[1,0],[]),(2,[1,0],[])],[],[],[]⟩ 194
theorem afz:aD prog 194 JR:=eD (ah gU (ah FZ ay)) func194
noncomputable def C8:aN:=aJ prog [(118,false,fJ),(254,false,kK)] ⟨[(4,[1,0],[]),(2,[1,0],[])],[],[],[]⟩ 195
theorem ZL:aD prog 195 C8:=eD (ah gU (ah FZ ay)) func195
noncomputable def pz:aN:=aJ prog [(194,false,JR),(195,false,C8)] ⟨[(3,[8,7,3,2,1],[3])],[],[],[]⟩ 107
theorem Ll:aD prog 107 pz:=eD (ah afz (ah ZL ay)) func107
noncomputable def pE:aN:=aJ prog [(136,false,wB)] ⟨[],[],[],[]⟩ 248
theorem Lm:aD prog 248 pE:=eD (ah JL ay) func248
open Classical in
noncomputable def zR:aN:=fun args boxes trees=>match args,boxes,trees with
 | [.agg [.aM (some 0) rows]],[],[]=>if wB [.agg [.aM (some 0) rows]] [] []=some ⟨.v (.bool true),[],[]⟩∧yI [.agg [.aM (some 0) rows]] [] []=some ⟨.agg [.own 0],[],[(0,rows)]⟩∧(∀r∈rows,∃q,r= [D.l q])∧rows.length≤1000 then some ⟨.agg [.own 0],[],[(0,rows.drop 1++rows.take 1)]⟩else none
 | _,_,_=>none
set_option maxHeartbeats 8000000 in
set_option maxRecDepth 100000 in
theorem ZM:aD prog 249 zR:=
 R3 (gh:=⟨[],[(6,[3])],[(6,[],[(10,[]),(12,[])])],[]⟩) (ah (f:=136) (m:=false) JL (ah (f:=139) (m:=false) Lf ay)) ach func249 rfl rfl (by decide) (aV (by kernel_rfl)) 4 (fun args boxes trees r h=>by
  unfold zR at h
  split at h
  ·rename_i rows
   split at h
   ·rename_i hc
    obtain⟨e1,e2,hw,hlen⟩:=hc
    injection h with h;subst h
    refine⟨by simp,rfl,rfl,rfl,10000,?_⟩
    have hw1:=aeA hw
    unfold Xj Ai
    simp [partsOf,func249,f249,rM,e1,e2,bV,l6,nX]
    refine⟨rows,rfl,fun us Y0 huc=>?_⟩
    rw [MK hw1]at Y0
    have ha:=Iw hw1 Y0
    have hone:=Ld hw Y0 huc
    have fin:Iu rows us ⟨.agg [.own 0],[],[(0,rows.tail++rows.take 1)]⟩ ⟨.agg [.own 0],[],[(0,(us.tail++us.take 1).map fun u=> [D.a u])]⟩:=by
     rw [←List.drop_one,←List.drop_one]
     exact fun c hK' y w u m r=>VN hw1 Y0 m r
    have hul:us.length≤1000:=by omega
    simp only [upd,if_true,ha]
    cases us with
    | nil=>
     simp [f249,rM]
     exact fin
    | cons u us=>
     have hu1:u.oneCell'=true:=hone u (by simp)
     have hu2:=R4 fun v hv=>hone v (List.mem_cons_of_mem _ hv)
     have q1:(1:Int)≤(us.length:Int)+1:=by omega
     have q2:(0:Int)<(us.length:Int)+1:=by omega
     have q4:((us.length:Int)+1==0)=false:=beq_eq_false_iff_ne.2 (by omega)
     have q3:us.length≤1000:=by simp at hul;omega
     have g1:us.length*24≤140737488355328:=by omega
     have g2:us.length≤4611686018427387904:=by omega
     have g3:(us.length+1)*24≤140737488355328:=by omega
     have g4:us.length+1≤4611686018427387904:=by omega
     have g5:us.length≤4611686018427387903:=by omega
     simp [f249,rM,hu1,hu2,q1,q2,q4,g1,g2,g3,g4,g5,aeB,VO]
     simp at fin
     exact fin
   ·cases h
  ·cases h)
noncomputable def eU:aN:=aJ prog [(248,false,pE),(147,false,yK),(110,false,iF),(192,false,qV),(249,false,zR),(250,false,qR),(71,false,gK),(193,false,jQ)] ⟨[],[],[(7,[],[(8,[6])])],[]⟩ 190
theorem Qo:aD prog 190 eU:=eD (ah Lm (ah Lg (ah jy (ah Cg (ah ZM (ah Lj (ah jf (ah qy ay)))))))) func190
noncomputable def zS:aN:=aJ prog [(252,false,Ce),(113,false,mX)] ⟨[(6,[12,11,10,8,3,2],[8])],[],[],[]⟩ 251
theorem ZN:aD prog 251 zS:=eD (ah Sq (ah vH ay)) func251
noncomputable def Ch:aN:=aJ prog [(107,false,pz),(251,false,zS),(193,false,jQ)] ⟨[],[],[(1,[],[(13,[11])])],[]⟩ 191
theorem acu:aD prog 191 Ch:=eD (ah Ll (ah ZN (ah qy ay))) func191
noncomputable def jg:aN:=aJ prog [(71,false,gK),(118,false,fJ),(108,false,CY),(107,false,pz),(189,false,uT),(106,false,o9),(190,false,eU),(191,false,Ch),(110,false,iF)] ⟨[],[],[(8,[],[(7,[])]),(10,[],[(7,[])]),(12,[],[(10,[])])],[]⟩ 105
theorem acv:aD prog 105 jg:=eD (ah jf (ah gU (ah MS (ah Ll (ah Ey (ah FY (ah Qo (ah acu (ah jy ay))))))))) func105
noncomputable def vR:aN:=aJ prog [(248,false,pE),(110,false,iF),(243,false,wL)] ⟨[],[],[],[]⟩ 197
theorem acw:aD prog 197 vR:=eD (ah Lm (ah jy (ah V5 ay))) func197
noncomputable def tq:aN:=aJ prog [(134,false,nM),(113,false,mX)] ⟨[],[],[(6,[],[(27,[])])],[]⟩ 198
theorem ZO:aD prog 198 tq:=eD (ah uq (ah vH ay)) func198
noncomputable def F5:aN:=aJ prog [(137,false,wC),(140,false,qG)] ⟨[],[],[(5,[],[(12,[6,7,8,9,10,11]),(13,[])])],[]⟩ 256
theorem XB:aD prog 256 F5:=eD (ah JM (ah CV ay)) func256
open Classical in
noncomputable def AZ:aN:=fun args boxes trees=>match args,boxes,trees with
 | [.agg [.aM (some 0) rows]],[],[]=>match rows.getLast? with
  | some [.l q, .a x]=>if wC [.agg [.aM (some 0) rows]] [] []=some ⟨.v (.bool true),[],[]⟩∧qG [.agg [.aM (some 0) rows]] [] []=some ⟨.agg [.own 0],[],[(0,rows)]⟩∧(∀r∈rows.dropLast,r.length=2)∧x.oneCell'=true∧rows.length≤1000 then
    some (if rows.dropLast= []then⟨.fT [.agg [.aM none []], .agg [.own 0, .v x], .v (.bool true)],[],[(0,q)]⟩else⟨.fT [.agg [.own 0], .agg [.own 1, .v x], .v (.bool true)],[],[(0,rows.dropLast),(1,q)]⟩)else none
  | _=>none
 | _,_,_=>none
set_option maxHeartbeats 8000000 in
set_option maxRecDepth 100000 in
theorem XC:aD prog 256 AZ:=
 Xo (gh:=⟨[],[],[],[]⟩) (ah (f:=137) (m:=false) JM (ah (f:=140) (m:=false) CV ay)) ach func256 rfl rfl (by decide) 5 rfl (aV (by kernel_rfl)) (aV (by kernel_rfl)) 12 4 25 2 6 [5,6] (aV (by kernel_rfl)) (fun args boxes trees r h=>by
  unfold AZ at h
  split at h
  ·rename_i rows
   split at h
   ·rename_i q x hl
    split at h
    ·rename_i hc
     obtain⟨pre,rfl⟩:=List.getLast?_eq_some_iff.1 hl
     obtain⟨e1,e2,hw,hx1,hlen⟩:=hc
     rw [List.dropLast_concat]at h hw
     injection h with h
     refine⟨by simp,rfl,rfl,by subst h;split<;>rfl,21000,pre.length,?_⟩
     unfold QK Ai
     have aoa:pre.length≤999:=by simp at hlen;omega
     have q1:(0:Int)<(pre.length:Int)+1:=by omega
     have q4:((pre.length:Int)+1==0)=false:=beq_eq_false_iff_ne.2 (by omega)
     simp [-List.length_flatten,partsOf,func256,f256,rM,e1,e2,bV,l6,nX,q1,q4]
     intro us Y0 huc
     obtain⟨MN,ut,ua,rfl,h1⟩:=alK Y0
     obtain⟨ho,hua⟩:=pair_cells h1 huc
     have anc:pre= []→Iu (pre++ [[D.l q,D.a x]]) (MN++ [ut,ua]) r ⟨.fT [.agg [.aM none []], .agg [.v ut, .v ua], .v (.bool true)],[],[]⟩:=fun e=>by
      subst e
      obtain rfl:MN= []:=List.eq_nil_of_length_eq_zero (by simpa using h1)
      rw [if_pos rfl]at h
      rw [←h]
      exact ahE hua
     have ane:¬pre= []→Iu (pre++ [[D.l q,D.a x]]) (MN++ [ut,ua]) r ⟨.fT [.agg [.own 0], .agg [.v ut, .v ua], .v (.bool true)],[],[(0,gJ pre MN)]⟩:=fun e=>by
      rw [if_neg e]at h
      rw [←h]
      exact ajb h1 hw hua
     rw [acg h1]
     have a1:=sN pre MN
     have a2:=CQ h1 hw
     have a3:=acf pre MN
     generalize gJ pre MN=A at*
     have hw64:=IntWalk.i64_in (pre.length:Int) (by omega)
     have hw0:IntKind.i64.wrap 0=0:=IntWalk.i64_in 0 (by omega)
     have q5:(pre.length:Int)<(pre.length:Int)+1:=by omega
     have q6:pre.length*32≤140737488355328:=by omega
     have hxa:ua.oneCell'=true:=by rw [hua];exact hx1
     have hg:(A++ [[D.a ut,D.a ua]])[pre.length]?=some [D.a ut,D.a ua]:=by rw [←a1];simp
     refine⟨⟨_,_,25,_,_,_,rfl,rfl,rfl,rfl,by simp,by simp,rfl,by simp;omega,by simp,fun t1 x1 g1 g2=>?_⟩,fun u hu=>?_⟩
     ·simp [S.only,Sb,vV,oV]at g1
      subst g1
      simp [yH,Ot,ab7,R5,R6,Xk,R7,hw64]at g2
      subst g2
      simp [hw64]
     ·by_cases hp:pre= []
      ·have fin:=anc hp
       subst hp
       obtain rfl:A= []:=List.eq_nil_of_length_eq_zero a1
       simp [-List.length_flatten,CS,S.only,Sb,vV,oV,yH,Ot,ab7,R5,R6,Xk,R7,Le,tailV,storeT,hw64,hw0,q5,q6,hg,a1,hu,ho,hxa,S.R9,KX]
       first|exact fin|(simp at fin;exact fin)
      ·have fin:=ane hp
       have hp0:¬pre.length=0:=fun e=>hp (List.eq_nil_of_length_eq_zero e)
       simp [-List.length_flatten,CS,S.only,Sb,vV,oV,yH,Ot,ab7,R5,R6,Xk,R7,Le,tailV,storeT,hw64,hw0,q5,q6,hg,a1,hu,ho,hxa,S.R9,KX,hp]
       exact fin
    ·cases h
   ·cases h
  ·cases h)
noncomputable def C9:aN:=orM AZ F5
theorem ZP:aD prog 256 C9:=afs XC XB
noncomputable def iM:aN:=aJ prog [(256,false,C9),(110,false,iF),(71,false,gK),(117,false,qU),(82,false,sP)] ⟨[],[],[],[]⟩ 199
theorem Sw:aD prog 199 iM:=eD (ah ZP (ah jy (ah jf (ah yU (ah FK ay))))) func199
noncomputable def nu:aN:=aJ prog [(71,false,gK),(117,false,qU),(115,false,lF)] ⟨[],[],[],[]⟩ 200
theorem F6:aD prog 200 nu:=eD (ah jf (ah yU (ah oZ ay))) func200
noncomputable def bY:aN:=aJ prog [(108,false,CY),(189,false,uT),(196,false,kJ),(106,false,o9),(197,false,vR),(198,false,tq),(193,false,jQ),(199,false,iM),(200,false,nu),(110,false,iF)] ⟨[],[],[],[]⟩ 109
theorem acy:aD prog 109 bY:=eD (ah MS (ah Ey (ah FX (ah FY (ah acw (ah ZO (ah qy (ah Sw (ah F6 (ah jy ay)))))))))) func109
noncomputable def iH:aN:=aJ prog [(69,false,rY),(70,false,nN),(34,false,zJ),(104,false,qH),(105,false,jg),(108,false,CY),(107,false,pz),(106,false,o9),(109,false,bY),(110,false,iF)] ⟨[],[],[(10,[],[(11,[])])],[]⟩ 38
theorem ZQ:aD prog 38 iH:=eD (ah AY (ah yL (ah MO (ah PY (ah acv (ah MS (ah Ll (ah FY (ah acy (ah jy ay)))))))))) func38
noncomputable def Ez:aN:=aJ prog [(261,false,xI)] ⟨[(3,[9,8,7,3],[])],[],[],[]⟩ 203
theorem V7:aD prog 203 Ez:=eD (ah MU ay) func203
noncomputable def IW:aN:=aJ prog [] ⟨[(2,[7,2,1,0],[])],[],[],[]⟩ 260
theorem ahN:aD prog 260 IW:=eD ay func260
noncomputable def zT:aN:=aJ prog [(70,false,nN),(260,false,IW)] ⟨[(5,[29,28,27,11,5,4,3,2,1],[5])],[],[],[]⟩ 202
theorem ZR:aD prog 202 zT:=eD (ah yL (ah ahN ay)) func202
noncomputable def zU:aN:=aJ prog [(280,false,yY)] ⟨[(2,[5,1,0],[])],[],[],[]⟩ 259
theorem ZT:aD prog 259 zU:=eD (ah Sv ay) func259
noncomputable def Ci:aN:=aJ prog [(69,false,rY),(257,false,vQ),(258,false,Bt),(203,false,Ez),(259,false,zU),(71,false,gK),(115,false,lF)] ⟨[],[],[],[]⟩ 201
theorem acz:aD prog 201 Ci:=eD (ah AY (ah Sr (ah V6 (ah V7 (ah ZT (ah jf (ah oZ ay))))))) func201
noncomputable def tu:aN:=aJ prog [(203,false,Ez),(202,false,zT),(201,false,Ci),(71,false,gK)] ⟨[],[],[(1,[],[(13,[11])])],[]⟩ 112
theorem acA:aD prog 112 tu:=eD (ah V7 (ah ZR (ah acz (ah jf ay)))) func112
noncomputable def uU:aN:=aJ prog [(69,false,rY),(71,false,gK),(82,false,sP)] ⟨[],[],[],[]⟩ 114
theorem ahO:aD prog 114 uU:=eD (ah AY (ah jf (ah FK ay))) func114
noncomputable def jH:aN:=aJ prog [(69,false,rY),(70,false,nN),(34,false,zJ),(111,false,zQ),(113,false,mX),(112,false,tu),(71,false,gK),(114,false,uU),(115,false,lF)] ⟨[],[],[(9,[],[(12,[])])],[]⟩ 39
theorem XD:aD prog 39 jH:=eD (ah AY (ah yL (ah MO (ah PX (ah vH (ah acA (ah jf (ah ahO (ah oZ ay))))))))) func39
noncomputable def xJ:aN:=aJ prog [(108,false,CY),(118,false,fJ)] ⟨[],[],[],[]⟩ 208
theorem F7:aD prog 208 xJ:=eD (ah MS (ah gU ay)) func208
noncomputable def IX:aN:=aJ prog [] ⟨[],[],[],[]⟩ 262
theorem ZU:aD prog 262 IX:=eD ay func262
noncomputable def zV:aN:=aJ prog [] ⟨[],[],[],[]⟩ 281
theorem PZ:aD prog 281 zV:=eD ay func281
noncomputable def wM:aN:=aJ prog [(118,false,fJ)] ⟨[(11,[11,10,9,2,0],[])],[],[],[]⟩ 282
theorem ZV:aD prog 282 wM:=eD (ah gU ay) func282
noncomputable def Bu:aN:=aJ prog [(118,false,fJ),(281,false,zV),(282,false,wM)] ⟨[(3,[12,4,3,2,1,0],[])],[],[],[]⟩ 263
theorem V8:aD prog 263 Bu:=eD (ah gU (ah PZ (ah ZV ay))) func263
noncomputable def MV:aN:=aJ prog [(118,false,fJ)] ⟨[],[],[],[]⟩ 286
theorem ajg:aD prog 286 MV:=eD (ah gU ay) func286
noncomputable def EA:aN:=aJ prog [(192,false,qV)] ⟨[],[],[],[]⟩ 269
theorem afA:aD prog 269 EA:=eD (ah Cg ay) func269
noncomputable def lX:aN:=aJ prog [(189,false,uT),(118,false,fJ)] ⟨[],[],[],[]⟩ 270
theorem MW:aD prog 270 lX:=eD (ah Ey (ah gU ay)) func270
noncomputable def iY:aN:=aJ prog [(69,false,rY),(269,false,EA),(270,false,lX),(110,false,iF),(192,false,qV),(71,false,gK),(146,false,yJ),(189,false,uT),(247,false,yX),(193,false,jQ)] ⟨[],[],[],[]⟩ 207
theorem JU:aD prog 207 iY:=eD (ah AY (ah afA (ah MW (ah jy (ah Cg (ah jf (ah Sc (ah Ey (ah Oy (ah qy ay)))))))))) func207
noncomputable def tC:aN:=aJ prog [(189,false,uT),(286,false,MV),(207,false,iY)] ⟨[],[],[],[]⟩ 268
theorem Sy:aD prog 268 tC:=eD (ah Ey (ah ajg (ah JU ay))) func268
noncomputable def pF:aN:=aJ prog [(208,false,xJ),(263,false,Bu),(110,false,iF),(268,false,tC)] ⟨[],[],[(1,[],[])],[]⟩ 264
theorem Sz:aD prog 264 pF:=eD (ah F7 (ah V8 (ah jy (ah Sy ay)))) func264
noncomputable def kL:aN:=aJ prog [(110,false,iF),(208,false,xJ),(115,false,lF),(193,false,jQ),(262,false,IX),(263,false,Bu),(71,false,gK),(264,false,pF)] ⟨[(10,[9,8,7,6,4,3,2],[8,4,3,2])],[],[(16,[],[])],[]⟩ 204
theorem acB:aD prog 204 kL:=eD (ah jy (ah F7 (ah oZ (ah qy (ah ZU (ah V8 (ah jf (ah Sz ay)))))))) func204
noncomputable def F8:aN:=aJ prog [] ⟨[],[],[],[]⟩ 265
theorem acC:aD prog 265 F8:=eD ay func265
noncomputable def wN:aN:=aJ prog [(118,false,fJ),(278,false,sZ)] ⟨[(7,[2,1,0],[]),(5,[7,2,1,0],[])],[],[],[]⟩ 292
theorem ZX:aD prog 292 wN:=eD (ah gU (ah IV ay)) func292
noncomputable def xK:aN:=aJ prog [(118,false,fJ),(278,false,sZ)] ⟨[(7,[7,2,1,0],[]),(2,[2,1,0],[])],[],[],[]⟩ 293
theorem XE:aD prog 293 xK:=eD (ah gU (ah IV ay)) func293
noncomputable def Cj:aN:=aJ prog [(292,false,wN),(246,false,pq),(293,false,xK)] ⟨[],[],[],[]⟩ 283
theorem acD:aD prog 283 Cj:=eD (ah ZX (ah KH (ah XE ay))) func283
noncomputable def je:aN:=aJ prog [(118,false,fJ),(281,false,zV),(254,false,kK),(283,false,Cj)] ⟨[(15,[11,0],[]),(27,[12,3,2,1,0],[])],[],[],[]⟩ 266
theorem IY:aD prog 266 je:=eD (ah gU (ah PZ (ah FZ (ah acD ay)))) func266
noncomputable def jI:aN:=aJ prog [(208,false,xJ),(266,false,je),(268,false,tC)] ⟨[],[],[(1,[],[])],[]⟩ 206
theorem MX:aD prog 206 jI:=eD (ah F7 (ah IY (ah Sy ay))) func206
noncomputable def qz:aN:=aJ prog [(248,false,pE),(208,false,xJ),(110,false,iF),(247,false,yX),(250,false,qR),(193,false,jQ)] ⟨[(7,[9,8,7,6,4,2,1],[4,2])],[],[],[]⟩ 284
theorem afB:aD prog 284 qz:=eD (ah Lm (ah F7 (ah jy (ah Oy (ah Lj (ah qy ay)))))) func284
noncomputable def qI:aN:=aJ prog [(110,false,iF),(115,false,lF),(208,false,xJ),(118,false,fJ),(193,false,jQ)] ⟨[(6,[6,5,4,2,1],[4,2,1])],[],[(4,[],[])],[]⟩ 285
theorem ZY:aD prog 285 qI:=eD (ah jy (ah oZ (ah F7 (ah gU (ah qy ay))))) func285
noncomputable def nI:aN:=aJ prog [(208,false,xJ),(118,false,fJ),(207,false,iY),(71,false,gK),(270,false,lX),(266,false,je),(284,false,qz),(285,false,qI),(199,false,iM),(196,false,kJ),(200,false,nu),(110,false,iF)] ⟨[],[],[(6,[],[(10,[])]),(8,[],[(10,[])]),(14,[],[(10,[])]),(27,[],[(8,[])]),(31,[],[(8,[])])],[]⟩ 267
theorem Z0:aD prog 267 nI:=eD (ah F7 (ah gU (ah JU (ah jf (ah MW (ah IY (ah afB (ah ZY (ah Sw (ah FX (ah F6 (ah jy ay)))))))))))) func267
noncomputable def gY:aN:=aJ prog [(71,false,gK),(118,false,fJ),(262,false,IX),(264,false,pF),(265,false,F8),(207,false,iY),(266,false,je),(206,false,jI),(110,false,iF),(267,false,nI)] ⟨[],[],[(11,[],[(9,[])])],[]⟩ 205
theorem acE:aD prog 205 gY:=eD (ah jf (ah gU (ah ZU (ah Sz (ah acC (ah JU (ah IY (ah MX (ah jy (ah Z0 ay)))))))))) func205
noncomputable def jS:aN:=aJ prog [(204,false,kL),(205,false,gY),(71,false,gK),(110,false,iF),(196,false,kJ),(206,false,jI),(208,false,xJ),(118,false,fJ),(207,false,iY),(200,false,nu)] ⟨[],[],[(28,[],[(18,[])])],[]⟩ 116
theorem Um:aD prog 116 jS:=eD (ah acB (ah acE (ah jf (ah jy (ah FX (ah MX (ah F7 (ah gU (ah JU (ah F6 ay)))))))))) func116
noncomputable def ng:aN:=aJ prog [(69,false,rY),(70,false,nN),(34,false,zJ),(116,false,jS),(104,false,qH),(71,false,gK),(117,false,qU),(118,false,fJ),(110,false,iF)] ⟨[],[],[],[]⟩ 40
theorem ahP:aD prog 40 ng:=eD (ah AY (ah yL (ah MO (ah Um (ah PY (ah jf (ah yU (ah gU (ah jy ay))))))))) func40
noncomputable def iU:aN:=aJ prog [(38,false,iH),(39,false,jH),(40,false,ng)] ⟨[],[],[],[]⟩ 8
theorem ahQ:aD prog 8 iU:=eD (ah ZQ (ah XD (ah ahP ay))) func8
noncomputable def Bv:aN:=aJ prog [] ⟨[],[],[],[]⟩ 51
theorem Oz:aD prog 51 Bv:=eD ay func51
noncomputable def Bw:aN:=aJ prog [(51,false,Bv)] ⟨[],[],[],[]⟩ 48
theorem V9:aD prog 48 Bw:=eD (ah Oz ay) func48
noncomputable def Ck:aN:=aJ prog [(51,false,Bv)] ⟨[],[],[],[]⟩ 210
theorem acF:aD prog 210 Ck:=eD (ah Oz ay) func210
noncomputable def Da:aN:=aJ prog [(210,false,Ck)] ⟨[(5,[5,1,0],[])],[],[],[]⟩ 123
theorem Z4:aD prog 123 Da:=eD (ah acF ay) func123
noncomputable def JV:aN:=aJ prog [(123,false,Da)] ⟨[],[],[],[]⟩ 49
theorem afC:aD prog 49 JV:=eD (ah Z4 ay) func49
noncomputable def F9:aN:=aJ prog [(48,false,Bw)] ⟨[(5,[5,1,0],[])],[],[],[]⟩ 124
theorem acG:aD prog 124 F9:=eD (ah V9 ay) func124
noncomputable def JW:aN:=aJ prog [(124,false,F9)] ⟨[],[],[],[]⟩ 50
theorem afD:aD prog 50 JW:=eD (ah acG ay) func50
noncomputable def QM:aN:=aJ prog [(48,false,Bw),(49,false,JV),(50,false,JW),(51,false,Bv)] ⟨[],[],[],[]⟩ 10
theorem ajh:aD prog 10 QM:=eD (ah V9 (ah afC (ah afD (ah Oz ay)))) func10
noncomputable def A8:aN:=aJ prog [] ⟨[(5,[5,1,0],[])],[],[],[]⟩ 52
theorem XF:aD prog 52 A8:=eD ay func52
noncomputable def EB:aN:=aJ prog [(52,false,A8)] ⟨[],[],[],[]⟩ 11
theorem afE:aD prog 11 EB:=eD (ah XF ay) func11
noncomputable def Bz:aN:=aJ prog [] ⟨[(3,[4,3,0],[])],[],[],[]⟩ 56
theorem OA:aD prog 56 Bz:=eD ay func56
noncomputable def EC:aN:=aJ prog [(56,false,Bz)] ⟨[],[],[],[]⟩ 53
theorem Wd:aD prog 53 EC:=eD (ah OA ay) func53
noncomputable def Ga:aN:=aJ prog [(56,false,Bz)] ⟨[],[],[],[]⟩ 211
theorem acH:aD prog 211 Ga:=eD (ah OA ay) func211
noncomputable def Db:aN:=aJ prog [(211,false,Ga)] ⟨[(3,[4,3,0],[])],[],[],[]⟩ 125
theorem Z5:aD prog 125 Db:=eD (ah acH ay) func125
noncomputable def JX:aN:=aJ prog [(125,false,Db)] ⟨[],[],[],[]⟩ 54
theorem afF:aD prog 54 JX:=eD (ah Z5 ay) func54
noncomputable def Gb:aN:=aJ prog [(53,false,EC)] ⟨[(3,[4,3,0],[])],[],[],[]⟩ 126
theorem acI:aD prog 126 Gb:=eD (ah Wd ay) func126
noncomputable def JY:aN:=aJ prog [(126,false,Gb)] ⟨[],[],[],[]⟩ 55
theorem afG:aD prog 55 JY:=eD (ah acI ay) func55
noncomputable def QN:aN:=aJ prog [(53,false,EC),(54,false,JX),(55,false,JY),(56,false,Bz)] ⟨[],[],[],[]⟩ 12
theorem aji:aD prog 12 QN:=eD (ah Wd (ah afF (ah afG (ah OA ay)))) func12
noncomputable def A9:aN:=aJ prog [] ⟨[(3,[4,3,0],[])],[],[],[]⟩ 57
theorem XG:aD prog 57 A9:=eD ay func57
noncomputable def JZ:aN:=aJ prog [(57,false,A9)] ⟨[],[],[],[]⟩ 13
theorem afH:aD prog 13 JZ:=eD (ah XG ay) func13
noncomputable def MZ:aN:=aJ prog [] ⟨[],[],[],[]⟩ 14
theorem ahR:aD prog 14 MZ:=eD ay func14
noncomputable def BA:aN:=aJ prog [] ⟨[(4,[5,1,0],[])],[],[(6,[],[])],[]⟩ 24
theorem OB:aD prog 24 BA:=eD ay func24
noncomputable def ED:aN:=aJ prog [(24,false,BA)] ⟨[],[],[],[]⟩ 58
theorem Wh:aD prog 58 ED:=eD (ah OB ay) func58
noncomputable def Gc:aN:=aJ prog [(24,false,BA)] ⟨[],[],[],[]⟩ 212
theorem acJ:aD prog 212 Gc:=eD (ah OB ay) func212
noncomputable def Dc:aN:=aJ prog [(212,false,Gc)] ⟨[(4,[5,1,0],[])],[],[(6,[],[])],[]⟩ 127
theorem Z6:aD prog 127 Dc:=eD (ah acJ ay) func127
noncomputable def J2:aN:=aJ prog [(127,false,Dc)] ⟨[],[],[],[]⟩ 59
theorem afI:aD prog 59 J2:=eD (ah Z6 ay) func59
noncomputable def Gd:aN:=aJ prog [(58,false,ED)] ⟨[(4,[5,1,0],[])],[],[(6,[],[])],[]⟩ 128
theorem acK:aD prog 128 Gd:=eD (ah Wh ay) func128
noncomputable def J3:aN:=aJ prog [(128,false,Gd)] ⟨[],[],[],[]⟩ 60
theorem afJ:aD prog 60 J3:=eD (ah acK ay) func60
noncomputable def QO:aN:=aJ prog [(58,false,ED),(59,false,J2),(60,false,J3),(24,false,BA)] ⟨[],[],[],[]⟩ 15
theorem ajj:aD prog 15 QO:=eD (ah Wh (ah afI (ah afJ (ah OB ay)))) func15
noncomputable def Ba:aN:=aJ prog [] ⟨[(4,[5,1,0],[])],[],[(6,[],[])],[]⟩ 61
theorem XH:aD prog 61 Ba:=eD ay func61
noncomputable def J4:aN:=aJ prog [(61,false,Ba)] ⟨[],[],[],[]⟩ 16
theorem afK:aD prog 16 J4:=eD (ah XH ay) func16
noncomputable def nJ:aN:=aJ prog [] ⟨[(2,[5,1,0],[])],[],[],[]⟩ 27
theorem Df:aD prog 27 nJ:=eD ay func27
noncomputable def wO:aN:=aJ prog [(27,true,nJ)] ⟨[],[],[],[]⟩ 62
theorem Z7:aD prog 62 wO:=eD (ah Df ay) func62
noncomputable def pG:aN:=aJ prog [(27,true,nJ)] ⟨[(2,[5,1,0],[])],[],[],[]⟩ 129
theorem Un:aD prog 129 pG:=eD (ah Df ay) func129
noncomputable def wP:aN:=aJ prog [(129,true,pG)] ⟨[],[],[],[]⟩ 63
theorem Z8:aD prog 63 wP:=eD (ah Un ay) func63
noncomputable def qW:aN:=aJ prog [(27,true,nJ)] ⟨[(2,[5,1,0],[])],[],[],[]⟩ 130
theorem XI:aD prog 130 qW:=eD (ah Df ay) func130
noncomputable def wQ:aN:=aJ prog [(130,true,qW)] ⟨[],[],[],[]⟩ 64
theorem Z9:aD prog 64 wQ:=eD (ah XI ay) func64
noncomputable def wR:aN:=aJ prog [(62,true,wO),(63,true,wP),(64,true,wQ),(27,true,nJ)] ⟨[],[],[],[]⟩ 17
theorem afL:aD prog 17 wR:=eD (ah Z7 (ah Z8 (ah Z9 (ah Df ay)))) func17
noncomputable def zW:aN:=aJ prog [] ⟨[(4,[3,0],[])],[],[],[]⟩ 131
theorem aac:aD prog 131 zW:=eD ay func131
noncomputable def tF:aN:=aJ prog [(131,false,zW)] ⟨[(2,[5,1,0],[])],[],[],[]⟩ 65
theorem SA:aD prog 65 tF:=eD (ah aac ay) func65
noncomputable def Dh:aN:=aJ prog [(65,true,tF)] ⟨[],[],[],[]⟩ 18
theorem aad:aD prog 18 Dh:=eD (ah SA ay) func18
noncomputable def tH:aN:=aJ prog [] ⟨[(2,[5,1,0],[])],[],[],[]⟩ 28
theorem Di:aD prog 28 tH:=eD ay func28
noncomputable def Dj:aN:=aJ prog [(28,false,tH)] ⟨[],[],[],[]⟩ 66
theorem aae:aD prog 66 Dj:=eD (ah Di ay) func66
noncomputable def uV:aN:=aJ prog [(28,false,tH)] ⟨[(2,[5,1,0],[])],[],[],[]⟩ 132
theorem Uo:aD prog 132 uV:=eD (ah Di ay) func132
noncomputable def Dk:aN:=aJ prog [(132,false,uV)] ⟨[],[],[],[]⟩ 67
theorem aaf:aD prog 67 Dk:=eD (ah Uo ay) func67
noncomputable def xL:aN:=aJ prog [(28,false,tH)] ⟨[(2,[5,1,0],[])],[],[],[]⟩ 133
theorem XJ:aD prog 133 xL:=eD (ah Di ay) func133
noncomputable def Dl:aN:=aJ prog [(133,false,xL)] ⟨[],[],[],[]⟩ 68
theorem aag:aD prog 68 Dl:=eD (ah XJ ay) func68
noncomputable def BD:aN:=aJ prog [(66,false,Dj),(67,false,Dk),(68,false,Dl),(28,false,tH)] ⟨[],[],[],[]⟩ 19
theorem afM:aD prog 19 BD:=eD (ah aae (ah aaf (ah aag (ah Di ay)))) func19
set_option maxHeartbeats 4000000
set_option maxRecDepth 10000
theorem dG (x a b:Int):xu [vI x,vI a,vI b] [] []=some ⟨V.v (.bool (iq x a b)),[],[]⟩:=by
 unfold xu
 by_cases h:a≤x<;>simp [func42,f42,h,iq]
end Go.Proofs.YtlpdjhiggpblcaaGreat
namespace Go.Proofs.YtlpdjhiggpblcaaGreat
open Go.RowKit
mutual
def bnD (B:Nat):D→Bool
 | .a _=>true
 | .l rows=>decide (rows.length≤B)&&bnT B rows
 | .gone=>false
def bnR (B:Nat):List D→Bool
 | []=>true
 | d::r=>bnD B d&&bnR B r
def bnT (B:Nat):List (List D)→Bool
 | []=>true
 | r::rows=>bnR B r&&bnT B rows
end
def bnL (B:Nat)(rows:List (List D)):Bool:=decide (rows.length≤B)&&bnT B rows
abbrev sD (rows:List (List D)):Bool:=bnL 1000000000 rows
abbrev smR (r:List D):Bool:=bnR 1000000000 r
abbrev lgL (rows:List (List D)):Bool:=bnL 9223372036854775807 rows
variable {B:Nat}
@[simp] theorem IZ (v:Value):bnD B (.a v)=true:=id rfl
@[simp] theorem EF (rows:List (List D)):bnD B (.l rows)=bnL B rows:=id rfl
@[simp] theorem uz:bnR B []=true:=id rfl
@[simp] theorem oK (d:D)(r:List D):bnR B (d::r)=(bnD B d&&bnR B r):=id rfl
@[simp] theorem amb:bnL B []=true:=by simp [bnL,bnT]
theorem uD {rows:List (List D)}(h:bnL B rows=true):rows.length≤B:=by
 unfold bnL at h;rw [Bool.and_eq_true,decide_eq_true_eq]at h;exact h.1
theorem ahS:∀{rows:List (List D)} {j:Nat} {r:List D},bnT B rows=true→rows[j]?=some r→bnR B r=true
 | [],j,r,_,e=>by simp at e
 | x::rows,j,r,h,e=>by
  have h:(bnR B x&&bnT B rows)=true:=h
  rw [Bool.and_eq_true]at h
  cases j with
  | zero=>simp at e;subst e;exact h.1
  | succ j=>exact ahS h.2 (by simpa using e)
theorem ahT:∀{rows:List (List D)},(∀(j:Nat) (r:List D),rows[j]?=some r→bnR B r=true)→bnT B rows=true
 | [],_=>rfl
 | x::rows,h=>by
  show(bnR B x&&bnT B rows)=true
  rw [h 0 x rfl,ahT fun j r e=>h (j+1) r (by simpa using e)];rfl
theorem acL {rows:List (List D)}{j:Nat}{r:List D}(h:bnL B rows=true)(e:rows[j]?=some r):bnR B r=true:=by
 unfold bnL at h;rw [Bool.and_eq_true]at h;exact ahS h.2 e
theorem SB {rows:List (List D)}(hl:rows.length≤B)(h:∀(j:Nat) (r:List D),rows[j]?=some r→bnR B r=true):bnL B rows=true:=by
 unfold bnL;rw [ahT h,decide_eq_true hl];rfl
theorem ny {rows:List (List D)}(h:sD rows=true):rows.length≤1000000000:=uD h
theorem uP {rows:List (List D)}{j:Nat}{r:List D}(h:sD rows=true)(e:rows[j]?=some r):smR r=true:=acL h e
theorem aah:∀{rows:List (List D)},dV rows=true→bnT B rows=true
 | [],_=>rfl
 | r::rows,h=>by
  have h:(r.all sH&&dV rows)=true:=h
  rw [Bool.and_eq_true]at h
  have:∀l:List D,l.all sH=true→bnR B l=true:=by
   intro l;induction l with
   | nil=>intro _;rfl
   | cons d l ih=>
    intro h
    rw [List.all_cons,Bool.and_eq_true]at h
    rw [oK,ih h.2]
    cases d with
    | a v=>rfl
    | l rows=>cases h.1
    | gone=>cases h.1
  show(bnR B r&&bnT B rows)=true
  rw [this r h.1,aah h.2];rfl
theorem aai {rows:List (List D)}(h:dV rows=true)(hl:rows.length≤B):bnL B rows=true:=by
 unfold bnL;rw [aah h,decide_eq_true hl];rfl
theorem ni {l:List Int}(h:l.length≤B):bnL B (ints l)=true:=aai (aeV l) (by simpa using h)
theorem ahU {l:List ByteArray}(h:l.length≤B):bnL B (strs l)=true:=aai (aeW l) (by simpa using h)
end Go.Proofs.YtlpdjhiggpblcaaGreat
namespace Go.Proofs.YtlpdjhiggpblcaaGreat
set_option linter.unusedSectionVars false
set_option linter.unusedSimpArgs false
set_option linter.unusedVariables false
open Go.RowKit
set_option maxHeartbeats 4000000
set_option maxRecDepth 10000
def mg (r:Int):Bool:=iq r 0 1114111&& !iq r 55296 57343
def dn (r:Int):Bool:=mg r&&decide (32≤r)&& !iq r 127 159
def iB (r:Int):Bool:=dn r||r==9||r==10
theorem lg {α:Type}(p:α→Bool)(l:List α):l.all p=true∨(l.all p=false∧∃N,∃h:N<l.length,p l[N]=false∧∀j (hj:j<l.length),j<N→p l[j]=true):=by
 induction l with
 | nil=>exact .inl rfl
 | cons x l ih=>
  cases hx:p x
  ·exact .inr ⟨by simp [hx],0,by simp,hx,fun j hj h=>by omega⟩
  ·rcases ih with h|⟨h,N,hN,h1,h2⟩
   ·exact .inl (by simp [hx,h])
   ·refine .inr ⟨by simp [hx,h],N+1,by simpa using hN,by simpa using h1,fun j hj hlt=>?_⟩
    cases j with
    | zero=>simpa using hx
    | succ j=>simpa using h2 j (by simpa using hj) (by omega)
theorem BF (r:Int):Er [vI r] [] []=some ⟨V.v (.bool (mg r)),[],[]⟩:=by
 unfold Er
 cases h1:iq r 0 1114111<;>cases h2:iq r 55296 57343<;>simp [func122,f122,dG,mg,h1,h2]
theorem BG (r:Int):Ep [vI r] [] []=some ⟨V.v (.bool (mg r)),[],[]⟩:=by
 unfold Ep
 by_cases h1:0≤r<;>by_cases h2:r≤1114111<;>by_cases h3:r<55296<;>by_cases h4:57343<r<;>simp [func148,f148,mg,iq,h1,h2,h3,h4]<;>omega
theorem aR (r:Int):oH [vI r] [] []=some ⟨V.v (.bool (dn r)),[],[]⟩:=by
 unfold oH
 cases h1:mg r<;>by_cases h3:32≤r<;>cases h2:iq r 127 159<;>simp [func44,f44,dG,BF,dn,h1,h2,h3]
theorem aW (r:Int):oG [vI r] [] []=some ⟨V.v (.bool (dn r)),[],[]⟩:=by
 unfold oG
 cases h1:mg r<;>by_cases h3:32≤r<;>by_cases h4:r<127<;>by_cases h5:159<r<;>simp [func87,f87,BG,dn,iq,h1,h3,h4,h5]<;>omega
theorem rR (r:Int):zm [vI r] [] []=some ⟨V.v (.bool (iB r)),[],[]⟩:=by
 unfold zm
 by_cases h3:r=9
 ·subst h3;cases h1:dn 9<;>simp [func209,f209,aR,iB,h1]
 by_cases h4:r=10
 ·subst h4;cases h1:dn 10<;>simp [func209,f209,aR,iB,h1]
 cases h1:dn r<;>simp [func209,f209,aR,iB,h1,h3,h4]
theorem I4 (r:Int):CU [vI r] [] []=some ⟨V.v (.bool (iB r)),[],[]⟩:=by
 unfold CU
 by_cases h3:r=9
 ·subst h3;cases h1:dn 9<;>simp [func271,f271,aW,iB,h1]
 by_cases h4:r=10
 ·subst h4;cases h1:dn 10<;>simp [func271,f271,aW,iB,h1]
 cases h1:dn r<;>simp [func271,f271,aW,iB,h1,h3,h4]
theorem I5 (l:List Int)(hl:l.length≤1000000000):sO [.aM (some 0) (ints l)] [] []=some ⟨V.v (.bool (l.all iB)),[],[]⟩:=by
 simp [sO,func213,f213]
 rcases lg iB l with h|⟨h,N,hN,h1,h2⟩
 ·rw [aF (fun j=> .on ⟨[(7,V.v (.int .i64 ((j:Int)))),(6,V.v (.int .i64 ((l.length:Int)))),(5, .aM (some 0) (ints l))],[],[],[]⟩) l.length ?_ ?_]
  ·simp [h]
  ·simp
  ·intro j hj
   have hw:=bM (j+1) (by omega)
   have:=List.all_eq_true.1 h l[j] (List.getElem_mem hj)
   simp [hj,hw,aQ hj,I4,this]
 ·rw [aF (fun j=> .on ⟨[(7,V.v (.int .i64 ((j:Int)))),(6,V.v (.int .i64 ((l.length:Int)))),(5, .aM (some 0) (ints l))],[],[],[]⟩) N ?_ ?_]
  ·simp [h,hN,h1,aQ hN,I4]
  ·simp
  ·intro j hj
   have hj':j<l.length:=by omega
   have hw:=bM (j+1) (by omega)
   simp [hj',hw,aQ hj',I4,h2 j hj' hj]
set_option maxHeartbeats 8000000
theorem aaj {f:Q→Option (Ex×Q)}{s:Q}{R:Option (Ex×Q)}(hL:yg f s=R){σ:Type}(st:Nat→σ→Q)(n:Nat)(I:Nat→σ→Prop)(a0:σ)(h0:s=st 0 a0)(i0:I 0 a0)
  (hs:∀j a,j<n→I j a→∃b,I (j+1) b∧f (st j a)=some (.normal,st (j+1) b)):∃a,I n a∧Ma f (f (st n a))=R:=by
 have key:∀k,k≤n→∃a,I k a∧yg f (st k a)=R:=by
  intro k
  induction k with
  | zero=>intro _;exact⟨a0,i0,by rw [←h0];exact hL⟩
  | succ k ih=>
   intro hk
   obtain⟨a,ha,e⟩:=ih (by omega)
   obtain⟨b,hb,e2⟩:=hs k a (by omega) ha
   rw [bK,e2,Az]at e
   exact⟨b,hb,e⟩
 obtain⟨a,ha,e⟩:=key n (Nat.le_refl _)
 exact⟨a,ha,by rw [←bK];exact e⟩
theorem yZ (l:List Int)(i:Nat)(x:Int):(ints l).set i [D.a (.int .i64 x)]=ints (l.set i x):=by
 show(l.map qm.enc).set i (qm.enc x)=(l.set i x).map qm.enc
 rw [List.map_set]
theorem om {r:Int}(h:dn r=true):iB r=true:=by simp [iB,h]
def eO (l:List Int):Bool:=decide (l.length≤400)&&l.all iB
def bU (t:List Int)(a:Int):Bool:=eO t&&iq a 0 t.length
def qA (t:List Int)(a:Int):Bool:=decide (t.length=0)&&(a==0)
theorem qB (l:List Int)(hl:l.length≤1000000000):nO [.aM (some 0) (ints l)] [] []=some ⟨V.v (.bool (eO l)),[],[]⟩:=by
 simp [nO,func119,f119]
 by_cases hn:l.length≤400
 ·rcases lg iB l with h|⟨h,N,hN,h1,h2⟩
  ·rw [aF (fun j=> .on ⟨[(7,V.v (.int .i64 ((j:Int)))),(6,V.v (.int .i64 ((l.length:Int)))),(5, .aM (some 0) (ints l))],[],[],[]⟩) l.length ?_ ?_]
   ·simp [eO,h,hn]
   ·simp
   ·intro j hj
    have hw:=bM (j+1) (by omega)
    have:=List.all_eq_true.1 h l[j] (List.getElem_mem hj)
    have h4:¬(400≤(j:Int)):=by omega
    simp [hj,hw,aQ hj,rR,this,h4]
  ·rw [aF (fun j=> .on ⟨[(7,V.v (.int .i64 ((j:Int)))),(6,V.v (.int .i64 ((l.length:Int)))),(5, .aM (some 0) (ints l))],[],[],[]⟩) N ?_ ?_]
   ·have h4:¬(400≤(N:Int)):=by omega
    simp [eO,h,hN,h1,aQ hN,rR,h4]
   ·simp
   ·intro j hj
    have hj':j<l.length:=by omega
    have hw:=bM (j+1) (by omega)
    have h4:¬(400≤(j:Int)):=by omega
    simp [hj',hw,aQ hj',rR,h2 j hj' hj,h4]
 ·rcases lg iB (l.take 400)with h|⟨h,N,hN,h1,h2⟩
  ·obtain⟨N,hN⟩:∃N:Nat,N=400:=⟨_,rfl⟩
   rw [aF (fun j=> .on ⟨[(7,V.v (.int .i64 ((j:Int)))),(6,V.v (.int .i64 ((l.length:Int)))),(5, .aM (some 0) (ints l))],[],[],[]⟩) N ?_ ?_]
   ·have h5:N<l.length:=by omega
    have h6:400≤(N:Int):=by omega
    simp [eO,hn,h5,aQ h5,h6]
   ·simp
   ·intro j hj
    have hj':j<l.length:=by omega
    have hw:=bM (j+1) (by omega)
    have h3:iB l[j]=true:=by
     have:=List.all_eq_true.1 h ((l.take 400)[j]'(by simp;omega)) (List.getElem_mem _)
     simpa using this
    have h4:¬(400≤(j:Int)):=by omega
    simp [hj',hw,aQ hj',rR,h3,h4]
  ·have hN':N<400∧N<l.length:=by simp at hN;omega
   rw [aF (fun j=> .on ⟨[(7,V.v (.int .i64 ((j:Int)))),(6,V.v (.int .i64 ((l.length:Int)))),(5, .aM (some 0) (ints l))],[],[],[]⟩) N ?_ ?_]
   ·have h4:¬(400≤(N:Int)):=by omega
    have h5:iB l[N]=false:=by simpa using h1
    simp [eO,hn,hN'.2,h5,aQ hN'.2,rR,h4]
   ·simp
   ·intro j hj
    have hj':j<l.length:=by omega
    have hw:=bM (j+1) (by omega)
    have h4:¬(400≤(j:Int)):=by omega
    have h3:iB l[j]=true:=by
     have:=h2 j (by simp;omega) hj
     simpa using this
    simp [hj',hw,aQ hj',rR,h3,h4]
theorem Dm (l:List Int)(hl:l.length≤1000000000):zI [.aM (some 0) (ints l)] [] []=some ⟨V.v (.bool (eO l)),[],[]⟩:=by
 unfold zI
 by_cases hn:l.length≤400
 ·have:(l.length:Int)≤400:=by omega
  cases h:l.all iB<;>simp [func215,f215,eO,hn,this,I5 l hl,h]
 ·have:¬(l.length:Int)≤400:=by omega
  simp [func215,f215,eO,hn,this]
theorem bP (l:List Int)(a:Int)(hl:l.length≤1000000000):rP [.agg [.aM (some 0) (ints l),vI a]] [] []=some ⟨V.v (.bool (bU l a)),[],[]⟩:=by
 unfold rP
 cases h:eO l<;>simp [func41,f41,bU,qB l hl,dG,h]
theorem dB (l:List Int)(a:Int)(hl:l.length≤1000000000):nM [.agg [.aM (some 0) (ints l),vI a]] [] []=some ⟨V.v (.bool (bU l a)),[],[]⟩:=by
 unfold nM
 by_cases hn:l.length≤400
 ·have:(l.length:Int)≤400:=by omega
  cases h:l.all iB<;>by_cases h1:0≤a<;>by_cases h2:a≤(l.length:Int)<;>simp [func134,f134,bU,eO,iq,hn,this,I5 l hl,h,h1,h2]
 ·have:¬(l.length:Int)≤400:=by omega
  simp [func134,f134,bU,eO,hn,this]
theorem aI (l:List Int)(a:Int):zP [.agg [.aM (some 0) (ints l),vI a]] [] []=some ⟨V.v (.bool (qA l a)),[],[]⟩:=by
 unfold zP
 by_cases h1:l.length=0<;>by_cases h2:a=0<;>simp [func138,f138,qA,h1,h2]
theorem bI (l:List Int)(a:Int):AP [.agg [.aM (some 0) (ints l),vI a]] [] []=some ⟨V.v (.bool (qA l a)),[],[]⟩:=by
 unfold AP
 by_cases h1:l.length=0<;>by_cases h2:a=0<;>simp [func47,f47,qA,h1,h2]
def atEnd (l:List Int)(a:Int):Bool:=decide (0<l.length)&&(a==(l.length:Int))
theorem vS (l:List Int)(a:Int):BX [.agg [.aM (some 0) (ints l),vI a]] [] []=some ⟨V.v (.bool (atEnd l a)),[],[]⟩:=by
 unfold BX
 by_cases h1:0<l.length<;>by_cases h2:a=(l.length:Int)<;>simp [func120,f120,atEnd,h1,h2]<;>omega
theorem XK (l:List Int)(n:Int)(hl:l.length≤1000000000):AX [.aM (some 0) (ints l),vI n] [] []=some ⟨V.v (.bool (!(l.all fun x=>x != n))),[],[]⟩:=by
 simp [AX,func272,f272]
 rcases lg (fun x=>x != n) l with h|⟨h,N,hN,h1,h2⟩
 ·rw [aF (fun j=> .on ⟨[(9,V.v (.int .i64 ((j:Int)))),(8,V.v (.int .i64 ((l.length:Int)))),(7, .aM (some 0) (ints l)),(1,V.v (.int .i64 n))],[],[],[]⟩) l.length ?_ ?_]
  ·simp only [h];simp
  ·simp
  ·intro j hj
   have hw:=bM (j+1) (by omega)
   have:=List.all_eq_true.1 h l[j] (List.getElem_mem hj)
   simp at this
   simp [hj,hw,aQ hj,this]
 ·rw [aF (fun j=> .on ⟨[(9,V.v (.int .i64 ((j:Int)))),(8,V.v (.int .i64 ((l.length:Int)))),(7, .aM (some 0) (ints l)),(1,V.v (.int .i64 n))],[],[],[]⟩) N ?_ ?_]
  ·simp only [h]
   simp at h1
   simp [hN,h1,aQ hN]
  ·simp
  ·intro j hj
   have hj':j<l.length:=by omega
   have hw:=bM (j+1) (by omega)
   have:=h2 j hj' hj
   simp at this
   simp [hj',hw,aQ hj',this]
set_option maxRecDepth 100000
def uQ (p:dL):Bool:=decide (0<p.av.length)&&eO p.av
def iG (l:List dL):Bool:=l.all uQ&&decide (l.length≤6)
def EG (x:fH):Bool:=bU x.av x.At
def jT (l:List fH):Bool:=l.all EG&&decide (l.length≤20)
theorem cO (l:List dL)(s:sD (aC l)=true):yO [.agg [.aM (some 0) (aC l)]] [] []=some ⟨V.v (.bool (iG l)),[],[]⟩:=by
 have hb:l.length≤1000000000:=by simpa using ny s
 have sm:∀j (h:j<l.length),l[j].av.length≤1000000000:=fun j h=>by
  have hs:=uP s (dX h)
  simp only [oK,uz,IZ,EF,Bool.and_true,Bool.true_and]at hs
  simpa using uD hs
 simp [yO,func45,f45]
 rcases lg uQ l with h|⟨h,N,hN,h1,h2⟩
 ·rw [aF (fun j=> .on ⟨[(8,V.v (.int .i64 ((j:Int)))),(7,V.v (.int .i64 ((l.length:Int)))),(6, .aM (some 0) (aC l)),(1, .ref 1 0)],[(1,[.aM (some 0) (aC l)])],[],[]⟩) l.length ?_ ?_]
  ·simp [iG,h];omega
  ·simp
  ·intro j hj
   have hw:=bM (j+1) (by omega)
   have:=List.all_eq_true.1 h l[j] (List.getElem_mem hj)
   simp only [uQ,Bool.and_eq_true,decide_eq_true_eq]at this
   have h3:l[j].av≠ []:=fun e=>by simp [e]at this
   simp [hj,hw,dX hj,qB _ (sm j hj),this.2,h3]
 ·rw [aF (fun j=> .on ⟨[(8,V.v (.int .i64 ((j:Int)))),(7,V.v (.int .i64 ((l.length:Int)))),(6, .aM (some 0) (aC l)),(1, .ref 1 0)],[(1,[.aM (some 0) (aC l)])],[],[]⟩) N ?_ ?_]
  ·by_cases h3:l[N].av= []
   ·simp [hN,dX hN,h3,iG,h]
   ·have h4:eO l[N].av=false:=by
     simp only [uQ]at h1
     have h5:0<l[N].av.length:=List.length_pos_iff.2 h3
     simpa [h5] using h1
    simp [hN,dX hN,qB _ (sm N hN),h4,h3,iG,h]
  ·simp
  ·intro j hj
   have hj':j<l.length:=by omega
   have hw:=bM (j+1) (by omega)
   have:=h2 j hj' hj
   simp only [uQ,Bool.and_eq_true,decide_eq_true_eq]at this
   have h3:l[j].av≠ []:=fun e=>by simp [e]at this
   simp [hj',hw,dX hj',qB _ (sm j hj'),this.2,h3]
theorem dH (l:List dL)(s:sD (aC l)=true):wB [.agg [.aM (some 0) (aC l)]] [] []=some ⟨V.v (.bool (iG l)),[],[]⟩:=by
 have hb:l.length≤1000000000:=by simpa using ny s
 have sm:∀j (h:j<l.length),l[j].av.length≤1000000000:=fun j h=>by
  have hs:=uP s (dX h)
  simp only [oK,uz,IZ,EF,Bool.and_true,Bool.true_and]at hs
  simpa using uD hs
 simp [wB,func136,f136]
 rcases lg uQ l with h|⟨h,N,hN,h1,h2⟩
 ·rw [aF (fun j=> .on ⟨[(8,V.v (.int .i64 ((j:Int)))),(7,V.v (.int .i64 ((l.length:Int)))),(6, .aM (some 0) (aC l)),(1, .ref 1 0)],[(1,[.aM (some 0) (aC l)])],[],[]⟩) l.length ?_ ?_]
  ·simp [iG,h];omega
  ·simp
  ·intro j hj
   have hw:=bM (j+1) (by omega)
   have:=List.all_eq_true.1 h l[j] (List.getElem_mem hj)
   simp only [uQ,Bool.and_eq_true,decide_eq_true_eq]at this
   have h3:l[j].av≠ []:=fun e=>by simp [e]at this
   simp [hj,hw,dX hj,Dm _ (sm j hj),this.2,h3]
 ·rw [aF (fun j=> .on ⟨[(8,V.v (.int .i64 ((j:Int)))),(7,V.v (.int .i64 ((l.length:Int)))),(6, .aM (some 0) (aC l)),(1, .ref 1 0)],[(1,[.aM (some 0) (aC l)])],[],[]⟩) N ?_ ?_]
  ·by_cases h3:l[N].av= []
   ·simp [hN,dX hN,h3,iG,h]
   ·have h4:eO l[N].av=false:=by
     simp only [uQ]at h1
     have h5:0<l[N].av.length:=List.length_pos_iff.2 h3
     simpa [h5] using h1
    simp [hN,dX hN,Dm _ (sm N hN),h4,h3,iG,h]
  ·simp
  ·intro j hj
   have hj':j<l.length:=by omega
   have hw:=bM (j+1) (by omega)
   have:=h2 j hj' hj
   simp only [uQ,Bool.and_eq_true,decide_eq_true_eq]at this
   have h3:l[j].av≠ []:=fun e=>by simp [e]at this
   simp [hj',hw,dX hj',Dm _ (sm j hj'),this.2,h3]
theorem cZ (l:List fH)(s:sD (aG l)=true):Bo [.agg [.aM (some 0) (aG l)]] [] []=some ⟨V.v (.bool (jT l)),[],[]⟩:=by
 have hb:l.length≤1000000000:=by simpa using ny s
 have sm:∀j (h:j<l.length),l[j].av.length≤1000000000:=fun j h=>by
  have hs:=uP s (dW h)
  simp only [oK,uz,IZ,EF,Bool.and_true,Bool.true_and]at hs
  simpa using uD hs
 simp [Bo,func46,f46]
 rcases lg EG l with h|⟨h,N,hN,h1,h2⟩
 ·rw [aF (fun j=> .on ⟨[(8,V.v (.int .i64 ((j:Int)))),(7,V.v (.int .i64 ((l.length:Int)))),(6, .aM (some 0) (aG l)),(1, .ref 1 0)],[(1,[.aM (some 0) (aG l)])],[],[]⟩) l.length ?_ ?_]
  ·simp [jT,h];omega
  ·simp
  ·intro j hj
   have hw:=bM (j+1) (by omega)
   have:=List.all_eq_true.1 h l[j] (List.getElem_mem hj)
   simp only [EG]at this
   simp [hj,hw,dW hj,bP _ _ (sm j hj),this]
 ·rw [aF (fun j=> .on ⟨[(8,V.v (.int .i64 ((j:Int)))),(7,V.v (.int .i64 ((l.length:Int)))),(6, .aM (some 0) (aG l)),(1, .ref 1 0)],[(1,[.aM (some 0) (aG l)])],[],[]⟩) N ?_ ?_]
  ·simp only [EG]at h1
   simp [hN,dW hN,bP _ _ (sm N hN),h1,jT,h]
  ·simp
  ·intro j hj
   have hj':j<l.length:=by omega
   have hw:=bM (j+1) (by omega)
   have:=h2 j hj' hj
   simp only [EG]at this
   simp [hj',hw,dW hj',bP _ _ (sm j hj'),this]
theorem dM (l:List fH)(s:sD (aG l)=true):wC [.agg [.aM (some 0) (aG l)]] [] []=some ⟨V.v (.bool (jT l)),[],[]⟩:=by
 have hb:l.length≤1000000000:=by simpa using ny s
 have sm:∀j (h:j<l.length),l[j].av.length≤1000000000:=fun j h=>by
  have hs:=uP s (dW h)
  simp only [oK,uz,IZ,EF,Bool.and_true,Bool.true_and]at hs
  simpa using uD hs
 simp [wC,func137,f137]
 rcases lg EG l with h|⟨h,N,hN,h1,h2⟩
 ·rw [aF (fun j=> .on ⟨[(8,V.v (.int .i64 ((j:Int)))),(7,V.v (.int .i64 ((l.length:Int)))),(6, .aM (some 0) (aG l)),(1, .ref 1 0)],[(1,[.aM (some 0) (aG l)])],[],[]⟩) l.length ?_ ?_]
  ·simp [jT,h];omega
  ·simp
  ·intro j hj
   have hw:=bM (j+1) (by omega)
   have:=List.all_eq_true.1 h l[j] (List.getElem_mem hj)
   simp only [EG]at this
   simp [hj,hw,dW hj,dB _ _ (sm j hj),this]
 ·rw [aF (fun j=> .on ⟨[(8,V.v (.int .i64 ((j:Int)))),(7,V.v (.int .i64 ((l.length:Int)))),(6, .aM (some 0) (aG l)),(1, .ref 1 0)],[(1,[.aM (some 0) (aG l)])],[],[]⟩) N ?_ ?_]
  ·simp only [EG]at h1
   simp [hN,dW hN,dB _ _ (sm N hN),h1,jT,h]
  ·simp
  ·intro j hj
   have hj':j<l.length:=by omega
   have hw:=bM (j+1) (by omega)
   have:=h2 j hj' hj
   simp only [EG]at this
   simp [hj',hw,dW hj',dB _ _ (sm j hj'),this]
def opC (n:Int):Bool:=n==100||n==99||n==121
def xM (n:Int):Bool:=n==102||n==70||n==116||n==84||n==114
def fP (vi:Bool)(mode:Int)(lt:List Int)(la op za wt:Int):Bool:=
 ((mode==0&& !vi)||((mode==1||mode==2)&&vi)||mode==3)&&(!(mode==2&&atEnd lt la)&&((mode==2||(op==0&&wt==0&&za==0))&&((op != 0||za==0)&&((op==0||opC op)&&(wt==0||xM wt)))))
def gq (mode:Int)(q:List Int)(hit:Int)(bt:List Int)(ba:Int):Bool:=mode==3||(decide (q.length=0)&&(hit==0)&&qA bt ba)
theorem DW (r:Int):vJ [vI r,V.v (.string (⟨#[100,99,121]⟩))] [] []=some ⟨V.v (.bool (opC r)),[],[]⟩:=by
 unfold opC
 unfold vJ
 obtain⟨S,hS⟩:∃S:ByteArray,S=⟨#[100,99,121]⟩:=⟨_,rfl⟩
 have h0:S.size=3:=by rw [hS];rfl
 have ht:S.toList= [100,99,121]:=by rw [hS,ByteArray.toList_eq]
 have w1:=bM 100 (by omega)
 have w2:=bM 99 (by omega)
 have w3:=bM 121 (by omega)
 rw [←hS]
 simp [func121,f121]
 by_cases h1:100=r
 ·subst h1;rw [bK];simp [w1,w2,w3,h0,ht]
 by_cases h2:99=r
 ·subst h2;rw [bK];simp [w1,w2,w3,h0,ht];rw [bK];simp [w1,w2,w3,h0,ht]
 by_cases h3:121=r
 ·subst h3;rw [bK];simp [w1,w2,w3,h0,ht];rw [bK];simp [w1,w2,w3,h0,ht];rw [bK];simp [w1,w2,w3,h0,ht]
 have k1:¬r=100:=fun e=>h1 e.symm
 have k2:¬r=99:=fun e=>h2 e.symm
 have k3:¬r=121:=fun e=>h3 e.symm
 rw [bK];simp [w1,w2,w3,h0,ht,h1];rw [bK];simp [w1,w2,w3,h0,ht,h2];rw [bK];simp [w1,w2,w3,h0,ht,h3];rw [bK];simp [w1,w2,w3,h0,ht,k1,k2,k3]
theorem GL (r:Int):vJ [vI r,V.v (.string (⟨#[102,70,116,84,114]⟩))] [] []=some ⟨V.v (.bool (xM r)),[],[]⟩:=by
 unfold xM
 unfold vJ
 obtain⟨S,hS⟩:∃S:ByteArray,S=⟨#[102,70,116,84,114]⟩:=⟨_,rfl⟩
 have h0:S.size=5:=by rw [hS];rfl
 have ht:S.toList= [102,70,116,84,114]:=by rw [hS,ByteArray.toList_eq]
 have w1:=bM 102 (by omega)
 have w2:=bM 70 (by omega)
 have w3:=bM 116 (by omega)
 have w4:=bM 84 (by omega)
 have w5:=bM 114 (by omega)
 rw [←hS]
 simp [func121,f121]
 by_cases h1:102=r
 ·subst h1;rw [bK];simp [w1,w2,w3,w4,w5,h0,ht]
 by_cases h2:70=r
 ·subst h2;rw [bK];simp [w1,w2,w3,w4,w5,h0,ht];rw [bK];simp [w1,w2,w3,w4,w5,h0,ht]
 by_cases h3:116=r
 ·subst h3;rw [bK];simp [w1,w2,w3,w4,w5,h0,ht];rw [bK];simp [w1,w2,w3,w4,w5,h0,ht];rw [bK];simp [w1,w2,w3,w4,w5,h0,ht]
 by_cases h4:84=r
 ·subst h4;rw [bK];simp [w1,w2,w3,w4,w5,h0,ht];rw [bK];simp [w1,w2,w3,w4,w5,h0,ht];rw [bK];simp [w1,w2,w3,w4,w5,h0,ht];rw [bK];simp [w1,w2,w3,w4,w5,h0,ht]
 by_cases h5:114=r
 ·subst h5;rw [bK];simp [w1,w2,w3,w4,w5,h0,ht];rw [bK];simp [w1,w2,w3,w4,w5,h0,ht];rw [bK];simp [w1,w2,w3,w4,w5,h0,ht];rw [bK];simp [w1,w2,w3,w4,w5,h0,ht];rw [bK];simp [w1,w2,w3,w4,w5,h0,ht]
 have k1:¬r=102:=fun e=>h1 e.symm
 have k2:¬r=70:=fun e=>h2 e.symm
 have k3:¬r=116:=fun e=>h3 e.symm
 have k4:¬r=84:=fun e=>h4 e.symm
 have k5:¬r=114:=fun e=>h5 e.symm
 rw [bK];simp [w1,w2,w3,w4,w5,h0,ht,h1];rw [bK];simp [w1,w2,w3,w4,w5,h0,ht,h2];rw [bK];simp [w1,w2,w3,w4,w5,h0,ht,h3];rw [bK];simp [w1,w2,w3,w4,w5,h0,ht,h4];rw [bK];simp [w1,w2,w3,w4,w5,h0,ht,h5];rw [bK];simp [w1,w2,w3,w4,w5,h0,ht,k1,k2,k3,k4,k5]
theorem P5 (l:List Int)(n:Int)(hl:l.length≤1000000000):wK [vI n, .aM (some 0) (ints l)] [] []=some ⟨V.v (.bool (!(l.all fun x=>x != n))),[],[]⟩:=by
 simp [wK,func214,f214,XK l n hl]
theorem aU (n:Int):wK [vI n, .aM (some 0) [[D.a (.int .i64 0)],[D.a (.int .i64 100)],[D.a (.int .i64 99)],[D.a (.int .i64 121)]]] [] []=some ⟨V.v (.bool (n==0||opC n)),[],[]⟩:=by
 have:=P5 [0,100,99,121] n (by simp)
 rw [show ints [0,100,99,121]= [[D.a (.int .i64 0)],[D.a (.int .i64 100)],[D.a (.int .i64 99)],[D.a (.int .i64 121)]]from rfl]at this
 rw [this]
 congr 4
 simp only [opC]
 rw [Bool.eq_iff_iff]
 simp
 omega
theorem aO (n:Int):wK [vI n, .aM (some 0) [[D.a (.int .i64 0)],[D.a (.int .i64 102)],[D.a (.int .i64 70)],[D.a (.int .i64 116)],[D.a (.int .i64 84)],[D.a (.int .i64 114)]]] [] []=some ⟨V.v (.bool (n==0||xM n)),[],[]⟩:=by
 have:=P5 [0,102,70,116,84,114] n (by simp)
 rw [show ints [0,102,70,116,84,114]= [[D.a (.int .i64 0)],[D.a (.int .i64 102)],[D.a (.int .i64 70)],[D.a (.int .i64 116)],[D.a (.int .i64 84)],[D.a (.int .i64 114)]]from rfl]at this
 rw [this]
 congr 4
 simp only [xM]
 rw [Bool.eq_iff_iff]
 simp
 omega
theorem dz (vi:Bool)(mode:Int)(lt:List Int)(la cnt op za wt fr fh last:Int)(rp:List dL)(ul:List fH)(Av:Int)(ot:List Int)(oa:Int)(q:List Int)(hit:Int)(bt:List Int)(ba:Int):JN [.agg [V.v (.bool vi),vI mode, .aM (some 0) (ints lt),vI la,vI cnt,vI op,vI za,vI wt,vI fr,vI fh,vI last, .aM (some 1) (aC rp), .aM (some 2) (aG ul),vI Av, .aM (some 3) (ints ot),vI oa, .aM (some 4) (ints q),vI hit, .aM (some 5) (ints bt),vI ba]] [] []=some ⟨V.v (.bool (fP vi mode lt la op za wt)),[],[]⟩:=by
 unfold JN
 by_cases m2:mode=2
 ·subst m2
  cases vi
  ·simp [func43,f43,fP]
  cases hA:atEnd lt la
  rotate_left
  ·simp [func43,f43,fP,vS,hA]
  by_cases o0:op=0
  ·subst o0
   by_cases c0:za=0
   ·subst c0
    by_cases w0:wt=0
    ·subst w0;simp [func43,f43,fP,vS,hA]
    ·cases hW:xM wt<;>simp [func43,f43,fP,vS,hA,w0,GL,hW]
   ·simp [func43,f43,fP,vS,hA,c0]
  ·by_cases w0:wt=0
   ·subst w0;cases hO:opC op<;>simp [func43,f43,fP,vS,hA,o0,DW,hO]
   ·cases hO:opC op<;>cases hW:xM wt<;>simp [func43,f43,fP,vS,hA,o0,w0,DW,GL,hO,hW]
 by_cases ok:(mode=0∧vi=false)∨(mode=1∧vi=true)∨mode=3
 ·rcases Classical.em (op=0∧wt=0∧za=0)with⟨rfl,rfl,rfl⟩|hn
  ·rcases ok with⟨rfl,rfl⟩|⟨rfl,rfl⟩|rfl<;>simp [func43,f43,fP]
  ·by_cases o0:op=0
   ·subst o0
    by_cases w0:wt=0
    ·subst w0
     have c0:¬za=0:=fun e=>hn ⟨rfl,rfl,e⟩
     rcases ok with⟨rfl,rfl⟩|⟨rfl,rfl⟩|rfl<;>simp [func43,f43,fP,c0]
    ·rcases ok with⟨rfl,rfl⟩|⟨rfl,rfl⟩|rfl<;>simp [func43,f43,fP,w0]
   ·rcases ok with⟨rfl,rfl⟩|⟨rfl,rfl⟩|rfl<;>simp [func43,f43,fP,o0]
 ·by_cases m0:mode=0
  ·subst m0
   cases vi
   ·exact absurd (.inl ⟨rfl,rfl⟩) ok
   ·simp [func43,f43,fP]
  ·by_cases m1:mode=1
   ·subst m1
    cases vi
    ·simp [func43,f43,fP]
    ·exact absurd (.inr (.inl ⟨rfl,rfl⟩)) ok
   ·have m3:¬mode=3:=fun e=>ok (.inr (.inr e))
    simp [func43,f43,fP,m0,m1,m2,m3]
theorem M4 (a b:List Int)(i j k:Option Nat)(h:a.length+b.length≤2000):mX [.aM i (ints a), .aM j (ints b), .aM k []] [] []=some ⟨.own 0,[],[(0,ints (a++b))]⟩:=by
 have g1:a.length*8≤140737488355328:=by omega
 have g2:a.length≤4611686018427387904:=by omega
 have g3:(a.length+b.length)*8≤140737488355328:=by omega
 have g4:a.length+b.length≤4611686018427387904:=by omega
 have g5:wid 1 (ints a++ints b)=true:=by rw [←au];exact agK _
 simp [mX,func113,f113,g1,g2,g3,g4,g5]
theorem lK (l:List Int)(i:Option Nat)(a:Int)(h:l.length≤2000):lF [.agg [.aM i (ints l),vI a]] [] []=some ⟨.agg [.own 0,vI a],[],[(0,ints l)]⟩:=by
 have g1:l.length*8≤140737488355328:=by omega
 have g2:l.length≤4611686018427387904:=by omega
 simp [lF,func115,f115,g1,g2]
theorem Lp (l:List dL)(i:Option Nat)(h:l.length≤1000)(hp:∀p∈l,p.av.length≤2000):yI [.agg [.aM i (aC l)]] [] []=some ⟨.agg [.own 0],[],[(0,aC l)]⟩:=by
 simp [yI,func139,f139]
 rw [aF (fun k=> .on ⟨[(10,V.v (.int .i64 ((k:Int)))),(9,V.v (.int .i64 ((l.length:Int)))),(8, .aM i (aC l)),(3, .ref 3 0),(2, .ref 2 0)],[(3,[.own 2000000000]),(2,[.own 2000000001])],[(2000000001,[]),(2000000000,aC (l.take k))],[]⟩) l.length ?_ ?_]
 ·simp
 ·simp [show aC []= []from rfl]
 ·intro k hk
  have hw:=bM ((k:Int)+1) (by omega)
  have hq:=hp l[k] (List.getElem_mem hk)
  have g1:l[k].av.length*8≤140737488355328:=by omega
  have g2:l[k].av.length≤4611686018427387904:=by omega
  have g3:min k l.length=k:=by omega
  have g4:(k+1)*24≤140737488355328:=by omega
  have g5:k≤4611686018427387903:=by omega
  have g6:aC (l.take (k+1))=aC (l.take k)++ [[.l (ints l[k].av)]]:=by rw [E5,←List.take_succ_eq_append_getElem hk]
  simp [hk,hw,g1,g2,g3,g4,g5,g6]
theorem SC (l:List dL)(h:iG l=true):wB [.agg [.aM (some 0) (aC l)]] [] []=some ⟨V.v (.bool true),[],[]⟩:=by
 have hs:sD (aC l)=true:=by
  simp only [iG,Bool.and_eq_true,decide_eq_true_eq]at h
  refine SB (by simp;omega) fun j r e=>?_
  have hj:j<l.length:=by have:=(List.getElem?_eq_some_iff.1 e).1;simpa using this
  rw [dX hj]at e
  injection e with e;subst e
  have:=List.all_eq_true.1 h.1 l[j] (List.getElem_mem hj)
  simp only [uQ,eO,Bool.and_eq_true,decide_eq_true_eq]at this
  simp only [oK,uz,EF,Bool.and_true]
  exact ni (by omega)
 rw [dH l hs,h]
theorem vT (t:List Int)(a:Int)(h:bU t a=true):nM [.agg [.aM (some 0) (ints t),vI a]] [] []=some ⟨V.v (.bool true),[],[]⟩:=by
 have hl:t.length≤400:=by simp only [bU,eO,Bool.and_eq_true,decide_eq_true_eq]at h;exact h.1.1
 rw [dB t a (by omega),h]
def Qp (x:Int):UInt8:=UInt8.ofNat x.toNat
theorem u8_in (x:Int)(h:0≤x∧x≤255):IntKind.u8.wrap x=x:=by
 simp [IntKind.wrap,IntKind.bits,IntKind.signed];omega
theorem vU (x:Int)(h:0≤x∧x≤255):IntKind.u8.wrap x=((Qp x).toNat:Int):=by
 rw [u8_in x h]
 unfold Qp
 rw [UInt8.toNat_ofNat']
 omega
def aY (r:Int):List UInt8:=
 if mg r=false then []else if r<128 then [Qp r]else if r<2048 then [Qp (192+r / 64),Qp (128+r%64)]
 else if r<65536 then [Qp (224+r / 4096),Qp (128+r / 64%64),Qp (128+r%64)]
 else [Qp (240+r / 262144),Qp (128+r / 4096%64),Qp (128+r / 64%64),Qp (128+r%64)]
theorem Gf {r:Int}(h:mg r=true):0≤r∧r≤1114111:=by
 simp only [mg,Bool.and_eq_true]at h
 exact Rf h.1
theorem uZ (l:List UInt8):wU l=l.map fun c=> [D.a (.int .u8 (c.toNat:Int))]:=rfl
theorem jJ (r:Int):xI [vI r] [] []=some ⟨.own 0,[],[(0,wU (aY r))]⟩:=by
 unfold xI
 cases h1:mg r
 ·simp [func261,f261,BG,h1,aY,uZ]
 obtain⟨a,b⟩:=Gf h1
 have d1:=Int.tdiv_eq_ediv_of_nonneg a (b:=64)
 have d2:=Int.tdiv_eq_ediv_of_nonneg a (b:=4096)
 have d3:=Int.tdiv_eq_ediv_of_nonneg a (b:=262144)
 have m1:=Int.tmod_eq_emod_of_nonneg a (b:=64)
 have m2:=Int.tmod_eq_emod_of_nonneg (show 0≤r / 64 by omega) (b:=64)
 have m3:=Int.tmod_eq_emod_of_nonneg (show 0≤r / 4096 by omega) (b:=64)
 have w1:=bM (r / 64) (by omega)
 have w2:=bM (r / 4096) (by omega)
 have w3:=bM (r / 262144) (by omega)
 have v1:=bM (128+r%64) (by omega)
 have v2:=bM (128+r / 64%64) (by omega)
 have v3:=bM (128+r / 4096%64) (by omega)
 have u1:=vU (128+r%64) (by omega)
 have u2:=vU (128+r / 64%64) (by omega)
 have u3:=vU (128+r / 4096%64) (by omega)
 by_cases h2:r<128
 ·simp [func261,f261,BG,h1,aY,h2,uZ,vU r (by omega)]
 by_cases h3:r<2048
 ·have x1:=bM (192+r / 64) (by omega)
  have x2:=vU (192+r / 64) (by omega)
  simp [func261,f261,BG,h1,aY,h2,h3,uZ,d1,m1,w1,v1,u1,x1,x2]
 by_cases h4:r<65536
 ·have x1:=bM (224+r / 4096) (by omega)
  have x2:=vU (224+r / 4096) (by omega)
  simp [func261,f261,BG,h1,aY,h2,h3,h4,uZ,d1,d2,m1,m2,w1,w2,v1,v2,u1,u2,x1,x2]
 have x1:=bM (240+r / 262144) (by omega)
 have x2:=vU (240+r / 262144) (by omega)
 simp [func261,f261,BG,h1,aY,h2,h3,h4,uZ,d1,d2,d3,m1,m2,m3,w1,w2,w3,v1,v2,v3,u1,u2,u3,x1,x2]
theorem qX (r:Int):xA [vI r] [] []=some ⟨.own 0,[],[(0,wU (aY r))]⟩:=by
 unfold xA
 cases h1:mg r
 ·simp [func230,f230,BF,h1,aY,uZ]
 obtain⟨a,b⟩:=Gf h1
 have d1:=Int.tdiv_eq_ediv_of_nonneg a (b:=64)
 have d2:=Int.tdiv_eq_ediv_of_nonneg a (b:=4096)
 have d3:=Int.tdiv_eq_ediv_of_nonneg a (b:=262144)
 have m1:=Int.tmod_eq_emod_of_nonneg a (b:=64)
 have m2:=Int.tmod_eq_emod_of_nonneg (show 0≤r / 64 by omega) (b:=64)
 have m3:=Int.tmod_eq_emod_of_nonneg (show 0≤r / 4096 by omega) (b:=64)
 have w1:=bM (r / 64) (by omega)
 have w2:=bM (r / 4096) (by omega)
 have w3:=bM (r / 262144) (by omega)
 have v1:=bM (128+r%64) (by omega)
 have v2:=bM (128+r / 64%64) (by omega)
 have v3:=bM (128+r / 4096%64) (by omega)
 have u1:=vU (128+r%64) (by omega)
 have u2:=vU (128+r / 64%64) (by omega)
 have u3:=vU (128+r / 4096%64) (by omega)
 by_cases h2:r<128
 ·simp [func230,f230,BF,h1,aY,h2,uZ,vU r (by omega)]
 by_cases h3:r<2048
 ·have x1:=bM (192+r / 64) (by omega)
  have x2:=vU (192+r / 64) (by omega)
  simp [func230,f230,BF,h1,aY,h2,h3,uZ,d1,m1,w1,v1,u1,x1,x2]
 by_cases h4:r<65536
 ·have x1:=bM (224+r / 4096) (by omega)
  have x2:=vU (224+r / 4096) (by omega)
  simp [func230,f230,BF,h1,aY,h2,h3,h4,uZ,d1,d2,m1,m2,w1,w2,v1,v2,u1,u2,x1,x2]
 have x1:=bM (240+r / 262144) (by omega)
 have x2:=vU (240+r / 262144) (by omega)
 simp [func230,f230,BF,h1,aY,h2,h3,h4,uZ,d1,d2,d3,m1,m2,m3,w1,w2,w3,v1,v2,v3,u1,u2,u3,x1,x2]
end Go.Proofs.YtlpdjhiggpblcaaGreat
