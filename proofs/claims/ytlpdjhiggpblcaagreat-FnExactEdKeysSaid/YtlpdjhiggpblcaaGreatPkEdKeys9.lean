/- Part 9 of a proof in several texts (an abstract evaluator, what the functions compute). -/
import Derived.Test.YtlpdjhiggpblcaaGreatPkEdKeys8
import Derived.Test.YtlpdjhiggpblcaaGreatProg
open Go.Proofs.Tryz
namespace Go.Proofs.YtlpdjhiggpblcaaGreat
set_option linter.unusedSectionVars false
set_option linter.unusedSimpArgs false
set_option linter.unusedVariables false
theorem acS:prog.follows .mixedOrders=true:=by kernel_rfl
theorem eD {G:List (FuncId×Bool×aN)}{gh:oI}{f:FuncId}{fn:Func}(hG:∀f M,look f G=some M→aF Tryz.prog f M.2)(hf:Tryz.prog.funcs[f]?=some fn)(h:alu gh fn=true:=by exact aV (by kernel_rfl)):aF Tryz.prog f (aI Tryz.prog G gh f):=sound gh hG acS hf h
open Go.RowKit
noncomputable def EL:aN:=aI prog [] ⟨[],[],[],[]⟩ 148
theorem WA:aF prog 148 EL:=eD ay func148
noncomputable def oN:aN:=aI prog [(148,false,EL)] ⟨[],[],[],[]⟩ 87
theorem Bl:aF prog 87 oN:=eD (ah WA ay) func87
noncomputable def Dp:aN:=aI prog [(87,false,oN)] ⟨[],[],[],[]⟩ 271
theorem Z4:aF prog 271 Dp:=eD (ah Bl ay) func271
noncomputable def tK:aN:=aI prog [(271,false,Dp)] ⟨[(2,[7,6,5],[])],[],[],[]⟩ 213
theorem Jd:aF prog 213 tK:=eD (ah Z4 ay) func213
noncomputable def zZ:aN:=aI prog [(213,false,tK)] ⟨[],[],[],[]⟩ 215
theorem Qw:aF prog 215 zZ:=eD (ah Jd ay) func215
noncomputable def wK:aN:=aI prog [(215,false,zZ)] ⟨[(2,[8,7,6,1],[1])],[],[],[]⟩ 136
theorem Kn:aF prog 136 wK:=eD (ah Qw ay) func136
noncomputable def yY:aN:=aI prog [] ⟨[(3,[10,9,8,3,2],[3,2])],[],[(5,[],[(7,[0,1]),(8,[]),(10,[])])],[]⟩ 139
theorem Ma:aF prog 139 yY:=eD ay func139
noncomputable def nC:aN:=aI prog [] ⟨[],[],[],[]⟩ 113
theorem vR:aF prog 113 nC:=eD ay func113
noncomputable def yZ:aN:=aI prog [(136,false,wK),(215,false,zZ),(139,false,yY),(113,false,nC)] ⟨[],[],[(12,[0,1,2,3,5,6,4,7,8],[(4,[5,6]),(7,[])])],[]⟩ 146
theorem S9:aF prog 146 yZ:=eD (ah Kn (ah Qw (ah Ma (ah vR ay)))) func146
noncomputable def nU:aN:=aI prog [(213,false,tK)] ⟨[],[],[],[]⟩ 134
theorem uM:aF prog 134 nU:=eD (ah Jd ay) func134
noncomputable def wL:aN:=aI prog [(134,false,nU)] ⟨[(2,[8,7,6,1],[1])],[],[],[]⟩ 137
theorem Ko:aF prog 137 wL:=eD (ah uM ay) func137
noncomputable def lM:aN:=aI prog [] ⟨[],[],[(1,[],[(7,[])])],[]⟩ 115
theorem pG:aF prog 115 lM:=eD ay func115
noncomputable def qQ:aN:=aI prog [(115,false,lM)] ⟨[(3,[10,9,8,3,2],[3,2])],[],[(5,[],[(4,[0,1]),(5,[]),(7,[])])],[]⟩ 140
theorem Dq:aF prog 140 qQ:=eD (ah pG ay) func140
noncomputable def za:aN:=aI prog [] ⟨[(4,[13,12,1,0],[])],[],[(6,[],[])],[]⟩ 147
theorem Mc:aF prog 147 za:=eD ay func147
noncomputable def Cu:aN:=aI prog [(137,false,wL),(134,false,nU),(140,false,qQ),(147,false,za),(115,false,lM)] ⟨[],[],[(5,[],[]),(7,[],[(4,[0,1]),(5,[]),(7,[])])],[]⟩ 80
theorem acT:aF prog 80 Cu:=eD (ah Ko (ah uM (ah Dq (ah Mc (ah pG ay))))) func80
noncomputable def tL:aN:=aI prog [] ⟨[],[],[],[]⟩ 82
theorem Gc:aF prog 82 tL:=eD ay func82
noncomputable def mV:aN:=aI prog [] ⟨[(2,[8,7,6,1],[1])],[],[],[]⟩ 70
theorem wM:aF prog 70 mV:=eD ay func70
noncomputable def xK:aN:=aI prog [(87,false,oN)] ⟨[],[],[],[]⟩ 34
theorem Je:aF prog 34 xK:=eD (ah Bl ay) func34
noncomputable def xL:aN:=aI prog [] ⟨[],[],[],[]⟩ 42
theorem Cv:aF prog 42 xL:=eD ay func42
noncomputable def EM:aN:=aI prog [(42,false,xL)] ⟨[],[],[],[]⟩ 122
theorem WB:aF prog 122 EM:=eD (ah Cv ay) func122
noncomputable def oO:aN:=aI prog [(122,false,EM),(42,false,xL)] ⟨[],[],[],[]⟩ 44
theorem xM:aF prog 44 oO:=eD (ah WB (ah Cv ay)) func44
noncomputable def zK:aN:=aI prog [(44,false,oO)] ⟨[],[],[],[]⟩ 209
theorem UZ:aF prog 209 zK:=eD (ah xM ay) func209
noncomputable def nV:aN:=aI prog [(209,false,zK)] ⟨[(2,[7,6,5],[])],[],[],[]⟩ 119
theorem ze:aF prog 119 nV:=eD (ah UZ ay) func119
noncomputable def sF:aN:=aI prog [(119,false,nV),(42,false,xL)] ⟨[],[],[],[]⟩ 41
theorem zf:aF prog 41 sF:=eD (ah ze (ah Cv ay)) func41
noncomputable def Cw:aN:=aI prog [] ⟨[],[],[],[]⟩ 120
theorem Ta:aF prog 120 Cw:=eD ay func120
noncomputable def vS:aN:=aI prog [] ⟨[(2,[5,1,0],[])],[],[],[]⟩ 121
theorem Tc:aF prog 121 vS:=eD ay func121
noncomputable def Kq:aN:=aI prog [(120,false,Cw),(121,false,vS)] ⟨[],[],[],[]⟩ 43
theorem af0:aF prog 43 Kq:=eD (ah Ta (ah Tc ay)) func43
noncomputable def zh:aN:=aI prog [(119,false,nV)] ⟨[(2,[8,7,6,1],[1])],[],[],[]⟩ 45
theorem Kr:aF prog 45 zh:=eD (ah ze ay) func45
noncomputable def BO:aN:=aI prog [(41,false,sF)] ⟨[(2,[8,7,6,1],[1])],[],[],[]⟩ 46
theorem O7:aF prog 46 BO:=eD (ah zf ay) func46
noncomputable def Bn:aN:=aI prog [] ⟨[],[],[],[]⟩ 47
theorem X0:aF prog 47 Bn:=eD ay func47
noncomputable def Bo:aN:=aI prog [(41,false,sF),(42,false,xL),(43,false,Kq),(44,false,oO),(45,false,zh),(46,false,BO),(47,false,Bn)] ⟨[(10,[109,108,107,1],[1])],[],[],[]⟩ 9
theorem Rq:aF prog 9 Bo:=eD (ah zf (ah Cv (ah af0 (ah xM (ah Kr (ah O7 (ah X0 ay))))))) func9
noncomputable def nW:aN:=aI prog [(42,false,xL)] ⟨[(4,[18,17,16],[])],[],[],[]⟩ 72
theorem EN:aF prog 72 nW:=eD (ah Cv ay) func72
noncomputable def tN:aN:=aI prog [(42,false,xL)] ⟨[],[],[],[]⟩ 141
theorem Cx:aF prog 141 tN:=eD (ah Cv ay) func141
noncomputable def Cy:aN:=aI prog [(44,false,oO),(141,false,tN),(42,false,xL)] ⟨[],[],[],[]⟩ 73
theorem Z5:aF prog 73 Cy:=eD (ah xM (ah Cx (ah Cv ay))) func73
noncomputable def zi:aN:=aI prog [(9,false,Bo),(72,false,nW),(73,false,Cy)] ⟨[],[],[],[]⟩ 88
theorem O8:aF prog 88 zi:=eD (ah Rq (ah EN (ah Z5 ay))) func88
noncomputable def EO:aN:=aI prog [] ⟨[(3,[6,5,1,0],[])],[],[],[]⟩ 150
theorem Z6:aF prog 150 EO:=eD ay func150
noncomputable def jZ:aN:=aI prog [] ⟨[],[],[],[]⟩ 98
theorem nN:aF prog 98 jZ:=eD ay func98
noncomputable def om:aN:=aI prog [(41,false,sF),(98,false,jZ)] ⟨[],[],[(3,[0,1,2,3,4,5,6,8,9,10,11,12,14,15,16,17,18,20,7,13,19,21],[(7,[8,9,10,11,12,14,15,16,17,18,20]),(13,[14,15,16,17,18,20]),(21,[])])],[]⟩ 216
theorem Md:aF prog 216 om:=eD (ah zf (ah nN ay)) func216
noncomputable def kZ:aN:=aI prog [(98,false,jZ)] ⟨[],[],[(1,[],[(6,[])])],[]⟩ 100
theorem oP:aF prog 100 kZ:=eD (ah nN ay) func100
noncomputable def wN:aN:=aI prog [(98,false,jZ)] ⟨[(3,[9,8,7,3,2],[3,2])],[],[(5,[],[(6,[0,1]),(7,[]),(9,[])])],[]⟩ 142
theorem Jf:aF prog 142 wN:=eD (ah nN ay) func142
noncomputable def wO:aN:=aI prog [(100,false,kZ)] ⟨[(3,[9,8,7,3,2],[3,2])],[],[(5,[],[(4,[0,1]),(5,[]),(7,[])])],[]⟩ 143
theorem Jg:aF prog 143 wO:=eD (ah oP ay) func143
noncomputable def jo:aN:=aI prog [(100,false,kZ),(142,false,wN),(143,false,wO),(98,false,jZ)] ⟨[],[],[(1,[],[(10,[]),(12,[]),(14,[])]),(2,[],[(7,[]),(9,[])])],[]⟩ 74
theorem kU:aF prog 74 jo:=eD (ah oP (ah Jf (ah Jg (ah nN ay)))) func74
noncomputable def rC:aN:=aI prog [(74,false,jo)] ⟨[],[],[],[]⟩ 171
theorem zk:aF prog 171 rC:=eD (ah kU ay) func171
noncomputable def kr:aN:=aI prog [(171,false,rC)] ⟨[],[],[],[]⟩ 96
theorem mW:aF prog 96 kr:=eD (ah zk ay) func96
noncomputable def wP:aN:=aI prog [] ⟨[(4,[13,12,1,0],[])],[],[(6,[],[])],[]⟩ 220
theorem Jh:aF prog 220 wP:=eD ay func220
noncomputable def Cz:aN:=aI prog [(46,false,BO),(41,false,sF),(143,false,wO),(220,false,wP),(100,false,kZ)] ⟨[],[],[(5,[],[]),(7,[],[(4,[0,1]),(5,[]),(7,[])])],[]⟩ 226
theorem acU:aF prog 226 Cz:=eD (ah O7 (ah zf (ah Jg (ah Jh (ah oP ay))))) func226
noncomputable def kJ:aN:=aI prog [(120,false,Cw)] ⟨[],[],[],[]⟩ 176
theorem Bp:aF prog 176 kJ:=eD (ah Ta ay) func176
noncomputable def AO:aN:=aI prog [(171,false,rC),(220,false,wP),(226,false,Cz),(100,false,kZ),(176,false,kJ)] ⟨[],[],[(4,[],[(6,[])])],[]⟩ 165
theorem O9:aF prog 165 AO:=eD (ah zk (ah Jh (ah acU (ah oP (ah Bp ay))))) func165
noncomputable def wQ:aN:=aI prog [(216,false,om),(96,false,kr),(165,false,AO)] ⟨[],[],[],[]⟩ 149
theorem WC:aF prog 149 wQ:=eD (ah Md (ah mW (ah O9 ay))) func149
noncomputable def zm:aN:=aI prog [(41,false,sF)] ⟨[],[],[],[]⟩ 222
theorem WE:aF prog 222 zm:=eD (ah zf ay) func222
noncomputable def tO:aN:=aI prog [(222,false,zm),(98,false,jZ)] ⟨[],[],[(3,[0,1,2,3,4,5,6,7,8,10,11,13,9,12,14],[(9,[10,11,13]),(14,[])]),(8,[],[(7,[])])],[]⟩ 164
theorem Gd:aF prog 164 tO:=eD (ah WE (ah nN ay)) func164
noncomputable def vT:aN:=aI prog [(165,false,AO)] ⟨[],[],[],[]⟩ 153
theorem Gf:aF prog 153 vT:=eD (ah O9 ay) func153
noncomputable def Gg:aN:=aI prog [(164,false,tO),(96,false,kr),(153,false,vT)] ⟨[],[],[],[]⟩ 152
theorem air:aF prog 152 Gg:=eD (ah Gd (ah mW (ah Gf ay))) func152
noncomputable def zn:aN:=aI prog [(45,false,zh),(42,false,xL),(119,false,nV),(142,false,wN),(98,false,jZ)] ⟨[],[],[(7,[0,1,2,4,5,3,6,7,8],[(3,[4,5]),(6,[]),(8,[])]),(10,[],[(8,[0,1]),(11,[])]),(4,[],[(9,[0,1]),(12,[])])],[]⟩ 166
theorem Td:aF prog 166 zn:=eD (ah Kr (ah Cv (ah ze (ah Jf (ah nN ay))))) func166
noncomputable def qz:aN:=aI prog [(164,false,tO),(96,false,kr),(165,false,AO),(166,false,zn)] ⟨[],[],[],[]⟩ 94
theorem Rs:aF prog 94 qz:=eD (ah Gd (ah mW (ah O9 (ah Td ay)))) func94
noncomputable def oF:aN:=aI prog [] ⟨[],[],[],[]⟩ 162
theorem uN:aF prog 162 oF:=eD ay func162
noncomputable def vU:aN:=aI prog [(42,false,xL)] ⟨[],[],[],[]⟩ 223
theorem Gh:aF prog 223 vU:=eD (ah Cv ay) func223
noncomputable def CB:aN:=aI prog [(42,false,xL)] ⟨[],[],[],[]⟩ 159
theorem Te:aF prog 159 CB:=eD (ah Cv ay) func159
noncomputable def pI:aN:=aI prog [(141,false,tN),(223,false,vU),(159,false,CB),(44,false,oO)] ⟨[],[],[],[]⟩ 163
theorem Gi:aF prog 163 pI:=eD (ah Cx (ah Gh (ah Te (ah xM ay)))) func163
noncomputable def vW:aN:=aI prog [(163,false,pI)] ⟨[],[],[],[]⟩ 273
theorem Gj:aF prog 273 vW:=eD (ah Gi ay) func273
noncomputable def nO:aN:=aI prog [(162,false,oF),(273,false,vW)] ⟨[(7,[7,2,1,0],[]),(2,[2,1,0],[])],[],[],[]⟩ 217
theorem Lg:aF prog 217 nO:=eD (ah uN (ah Gj ay)) func217
noncomputable def iM:aN:=aI prog [(74,false,jo),(152,false,Gg),(94,false,qz),(217,false,nO)] ⟨[],[],[(1,[],[]),(16,[],[(11,[10])])],[]⟩ 151
theorem X3:aF prog 151 iM:=eD (ah kU (ah air (ah Rs (ah Lg ay)))) func151
noncomputable def rD:aN:=aI prog [(98,false,jZ)] ⟨[],[],[(1,[],[(10,[])])],[]⟩ 154
theorem zL:aF prog 154 rD:=eD (ah nN ay) func154
noncomputable def Aa:aN:=aI prog [(72,false,nW)] ⟨[],[],[],[]⟩ 172
theorem Qx:aF prog 172 Aa:=eD (ah EN ay) func172
noncomputable def tQ:aN:=aI prog [(72,false,nW),(42,false,xL)] ⟨[],[],[],[]⟩ 231
theorem Tf:aF prog 231 tQ:=eD (ah EN (ah Cv ay)) func231
noncomputable def xO:aN:=aI prog [(122,false,EM)] ⟨[],[],[],[]⟩ 230
theorem Nt:aF prog 230 xO:=eD (ah WB ay) func230
noncomputable def Dr:aN:=aI prog [(42,false,xL),(230,false,xO)] ⟨[(17,[57,56,55,8,7,1,0],[])],[],[(21,[],[])],[]⟩ 276
theorem Z7:aF prog 276 Dr:=eD (ah Cv (ah Nt ay)) func276
noncomputable def zo:aN:=aI prog [(276,false,Dr)] ⟨[(6,[6,5,4],[])],[],[],[]⟩ 234
theorem Tg:aF prog 234 zo:=eD (ah Z7 ay) func234
noncomputable def wR:aN:=aI prog [(234,false,zo),(41,false,sF)] ⟨[],[],[],[]⟩ 232
theorem WG:aF prog 232 wR:=eD (ah Tg (ah zf ay)) func232
noncomputable def dQ:aN:=aI prog [(9,false,Bo),(171,false,rC),(172,false,Aa),(100,false,kZ),(176,false,kJ),(231,false,tQ),(232,false,wR)] ⟨[],[],[(10,[],[(7,[])])],[]⟩ 218
theorem af2:aF prog 218 dQ:=eD (ah Rq (ah zk (ah Qx (ah oP (ah Bp (ah Tf (ah WG ay))))))) func218
noncomputable def Bq:aN:=aI prog [(218,false,dQ),(96,false,kr)] ⟨[],[],[],[]⟩ 155
theorem X4:aF prog 155 Bq:=eD (ah af2 (ah mW ay)) func155
noncomputable def fC:aN:=aI prog [(150,false,EO),(149,false,wQ),(74,false,jo),(151,false,iM),(152,false,Gg),(154,false,rD),(153,false,vT),(155,false,Bq)] ⟨[],[],[(1,[],[]),(7,[],[(10,[9])]),(9,[],[(8,[7])]),(19,[],[(11,[10])]),(21,[],[(11,[10])]),(23,[],[(8,[7])]),(25,[],[(9,[8])])],[]⟩ 89
theorem Ti:aF prog 89 fC:=eD (ah Z6 (ah WC (ah kU (ah X3 (ah air (ah zL (ah Gf (ah X4 ay)))))))) func89
noncomputable def Ab:aN:=aI prog [(162,false,oF),(163,false,pI)] ⟨[(4,[1,0],[]),(2,[1,0],[])],[],[],[]⟩ 93
theorem Qy:aF prog 93 Ab:=eD (ah uN (ah Gi ay)) func93
noncomputable def lN:aN:=aI prog [(93,false,Ab)] ⟨[],[],[],[]⟩ 156
theorem vX:aF prog 156 lN:=eD (ah Qy ay) func156
noncomputable def BP:aN:=aI prog [(162,false,oF),(163,false,pI)] ⟨[(4,[1,0],[]),(2,[1,0],[])],[],[],[]⟩ 158
theorem WH:aF prog 158 BP:=eD (ah uN (ah Gi ay)) func158
noncomputable def lQ:aN:=aI prog [(158,false,BP)] ⟨[],[],[],[]⟩ 157
theorem vY:aF prog 157 lQ:=eD (ah WH ay) func157
noncomputable def mX:aN:=aI prog [(93,false,Ab)] ⟨[],[],[],[]⟩ 92
theorem xP:aF prog 92 mX:=eD (ah Qy ay) func92
noncomputable def EP:aN:=aI prog [(273,false,vW)] ⟨[(2,[7,2,1,0],[])],[],[],[]⟩ 277
theorem WI:aF prog 277 EP:=eD (ah Gj ay) func277
noncomputable def wS:aN:=aI prog [(162,false,oF),(273,false,vW),(277,false,EP)] ⟨[(4,[2,1,0],[])],[],[],[]⟩ 238
theorem Z8:aF prog 238 wS:=eD (ah uN (ah Gj (ah WI ay))) func238
noncomputable def mY:aN:=aI prog [(238,false,wS)] ⟨[],[],[],[]⟩ 237
theorem xQ:aF prog 237 mY:=eD (ah Z8 ay) func237
noncomputable def mZ:aN:=aI prog [(217,false,nO)] ⟨[],[],[],[]⟩ 239
theorem xR:aF prog 239 mZ:=eD (ah Lg ay) func239
noncomputable def xS:aN:=aI prog [(162,false,oF),(273,false,vW),(277,false,EP)] ⟨[(5,[7,2,1,0],[])],[],[],[]⟩ 241
theorem X5:aF prog 241 xS:=eD (ah uN (ah Gj (ah WI ay))) func241
noncomputable def ng:aN:=aI prog [(241,false,xS)] ⟨[],[],[],[]⟩ 240
theorem xU:aF prog 240 ng:=eD (ah X5 ay) func240
noncomputable def gq:aN:=Ww (aI prog [(92,false,mX),(156,false,lN),(157,false,lQ),(237,false,mY),(239,false,mZ),(240,false,ng)] ⟨[(2,[8,7,2,0],[1000000000])],[],[],[]⟩ 91) (aI prog [(92,false,mX),(156,false,lN),(157,false,lQ),(237,false,mY),(239,false,mZ),(240,false,ng)] ⟨[(2,[8,7,2,0],[1000000001,1000000000])],[],[],[]⟩ 91)
theorem Ji:aF prog 91 gq:=ZR (sound _ (ah xP (ah vX (ah vY (ah xQ (ah xR (ah xU ay)))))) acS func91 (aV (by kernel_rfl))) (sound _ (ah xP (ah vX (ah vY (ah xQ (ah xR (ah xU ay)))))) acS func91 (aV (by kernel_rfl)))
noncomputable def pJ:aN:=aI prog [(45,false,zh),(98,false,jZ)] ⟨[],[],[],[]⟩ 219
theorem Me:aF prog 219 pJ:=eD (ah Kr (ah nN ay)) func219
open Classical in
noncomputable def Ac:aN:=fun args boxes trees=>match args,boxes,trees with
 | [.agg [.aL (some 0) rows]],[],[]=>if zh [.agg [.aL (some 0) rows]] [] []=some ⟨.v (.bool true),[],[]⟩∧wN [.agg [.aL (some 0) rows]] [] []=some ⟨.agg [.own 0],[],[(0,rows)]⟩∧(∀r∈rows,∃q,r= [D.l q])∧rows.length≤1000 then some ⟨.agg [.own 0],[],[(0,rows.drop 1++rows.take 1)]⟩else none
 | _,_,_=>none
set_option maxHeartbeats 8000000 in
set_option maxRecDepth 100000 in
theorem Z9:aF prog 221 Ac:=
 SK (gh:=⟨[],[(5,[3])],[(5,[],[(9,[]),(11,[])])],[]⟩) (ah (f:=45) (m:=false) Kr (ah (f:=142) (m:=false) Jf ay)) acS func221 rfl rfl (by decide) (aV (by kernel_rfl)) 4 (fun args boxes trees r h=>by
  unfold Ac at h
  split at h
  ·rename_i rows
   split at h
   ·rename_i hc
    obtain⟨e1,e2,hw,hlen⟩:=hc
    injection h with h;subst h
    refine⟨by simp,rfl,rfl,rfl,10000,?_⟩
    have hw1:=ae6 hw
    unfold XT AL
    simp [partsOf,func221,f221,su,e1,e2,bW,mD,oC]
    refine⟨rows,rfl,fun us Zx huc=>?_⟩
    rw [Nq hw1]at Zx
    have ha:=I9 hw1 Zx
    have hone:=L8 hw Zx huc
    have fin:I8 rows us ⟨.agg [.own 0],[],[(0,rows.tail++rows.take 1)]⟩ ⟨.agg [.own 0],[],[(0,(us.tail++us.take 1).map fun u=> [D.a u])]⟩:=by
     rw [←List.drop_one,←List.drop_one]
     exact fun c hK' y w u m r=>Wy hw1 Zx m r
    have hul:us.length≤1000:=by omega
    simp only [upd,if_true,ha]
    cases us with
    | nil=>
     simp [f221,su]
     exact fin
    | cons u us=>
     have hu1:u.oneCell'=true:=hone u (by simp)
     have hu2:=SL fun v hv=>hone v (List.mem_cons_of_mem _ hv)
     have q1:(1:Int)≤(us.length:Int)+1:=by omega
     have q2:(0:Int)<(us.length:Int)+1:=by omega
     have q3:us.length≤1000:=by simp at hul;omega
     have g1:us.length*24≤140737488355328:=by omega
     have g2:us.length≤4611686018427387904:=by omega
     have g3:(us.length+1)*24≤140737488355328:=by omega
     have g4:us.length+1≤4611686018427387904:=by omega
     have g5:us.length≤4611686018427387903:=by omega
     simp [f221,su,hu1,hu2,q1,q2,g1,g2,g3,g4,g5,ae7,Wz]
     simp at fin
     exact fin
   ·cases h
  ·cases h)
noncomputable def jA:aN:=aI prog [(219,false,pJ),(220,false,wP),(96,false,kr),(164,false,tO),(221,false,Ac),(216,false,om),(74,false,jo),(165,false,AO)] ⟨[],[],[(7,[],[(8,[6])])],[]⟩ 160
theorem aac:aF prog 160 jA:=eD (ah Me (ah Jh (ah mW (ah Gd (ah Z9 (ah Md (ah kU (ah O9 ay)))))))) func160
noncomputable def Jj:aN:=aI prog [(141,false,tN)] ⟨[],[],[],[]⟩ 224
theorem aad:aF prog 224 Jj:=eD (ah Cx ay) func224
noncomputable def Jk:aN:=aI prog [(223,false,vU)] ⟨[],[],[],[]⟩ 225
theorem aae:aF prog 225 Jk:=eD (ah Gh ay) func225
noncomputable def Ad:aN:=aI prog [(222,false,zm),(42,false,xL),(154,false,rD),(141,false,tN),(223,false,vU),(224,false,Jj),(225,false,Jk)] ⟨[(6,[12,11,10,8,3,2],[10,8])],[],[(11,[],[(6,[])]),(12,[],[(6,[])])],[]⟩ 161
theorem aaf:aF prog 161 Ad:=eD (ah WE (ah Cv (ah zL (ah Cx (ah Gh (ah aad (ah aae ay))))))) func161
noncomputable def fG:aN:=aI prog [(156,false,lN),(157,false,lQ),(159,false,CB),(74,false,jo),(91,false,gq),(154,false,rD),(153,false,vT),(94,false,qz),(160,false,jA),(158,false,BP),(161,false,Ad),(96,false,kr)] ⟨[],[],[(1,[],[(10,[3,4,5,6,7,8])]),(9,[],[(6,[0,1,2]),(11,[])]),(11,[],[(6,[0,1,2]),(11,[])]),(13,[],[(5,[0,1]),(9,[])]),(19,[],[(12,[10])]),(16,[0],[])],[]⟩ 90
theorem X6:aF prog 90 fG:=eD (ah vX (ah vY (ah Te (ah kU (ah Ji (ah zL (ah Gf (ah Rs (ah aac (ah WH (ah aaf (ah mW ay)))))))))))) func90
noncomputable def Gl:aN:=aI prog [(219,false,pJ),(96,false,kr),(149,false,wQ)] ⟨[],[],[],[]⟩ 167
theorem aj2:aF prog 167 Gl:=eD (ah Me (ah mW (ah WC ay))) func167
noncomputable def oQ:aN:=aI prog [(41,false,sF),(154,false,rD)] ⟨[],[],[(6,[],[(19,[4,5,6]),(21,[])])],[]⟩ 168
theorem aag:aF prog 168 oQ:=eD (ah zf (ah zL ay)) func168
noncomputable def tT:aN:=aI prog [(46,false,BO),(143,false,wO),(100,false,kZ)] ⟨[],[],[(5,[],[(8,[]),(9,[])])],[]⟩ 227
theorem aah:aF prog 227 tT:=eD (ah O7 (ah Jg (ah oP ay))) func227
noncomputable def zM:aN:=aI prog [(227,false,tT),(96,false,kr),(171,false,rC),(176,false,kJ)] ⟨[],[],[(5,[],[(6,[4]),(8,[])])],[]⟩ 169
theorem ae8:aF prog 169 zM:=eD (ah aah (ah mW (ah zk (ah Bp ay)))) func169
noncomputable def Gm:aN:=aI prog [(171,false,rC),(100,false,kZ)] ⟨[],[],[],[]⟩ 170
theorem X7:aF prog 170 Gm:=eD (ah zk (ah oP ay)) func170
noncomputable def bS:aN:=aI prog [(89,false,fC),(94,false,qz),(167,false,Gl),(168,false,oQ),(96,false,kr),(153,false,vT),(169,false,zM),(170,false,Gm)] ⟨[],[],[(1,[0],[])],[]⟩ 95
theorem X8:aF prog 95 bS:=eD (ah Ti (ah Rs (ah aj2 (ah aag (ah mW (ah Gf (ah ae8 (ah X7 ay)))))))) func95
noncomputable def j3:aN:=aI prog [(88,false,zi),(89,false,fC),(90,false,fG),(92,false,mX),(91,false,gq),(94,false,qz),(95,false,bS),(96,false,kr)] ⟨[],[],[],[]⟩ 35
theorem aai:aF prog 35 j3:=eD (ah O8 (ah Ti (ah X6 (ah xP (ah Ji (ah Rs (ah X8 (ah mW ay)))))))) func35
noncomputable def ER:aN:=aI prog [(230,false,xO)] ⟨[(3,[8,7,6,3],[])],[],[],[]⟩ 174
theorem WJ:aF prog 174 ER:=eD (ah Nt ay) func174
noncomputable def Ae:aN:=aI prog [(72,false,nW),(42,false,xL),(229,false,lK)] ⟨[(8,[12,11,5,4,3,1],[5])],[],[],[]⟩ 173
theorem aaj:aF prog 173 Ae:=eD (ah EN (ah Cv (ah L6 ay))) func173
noncomputable def vZ:aN:=aI prog [(9,false,Bo),(44,false,oO),(231,false,tQ),(232,false,wR),(174,false,ER),(233,false,sj),(234,false,zo),(74,false,jo),(100,false,kZ),(98,false,jZ)] ⟨[(4,[36,35,34,8,5,4,3,2],[8,5,4])],[],[(19,[],[(7,[3,4,5]),(9,[3,4,5]),(11,[4,5]),(13,[5]),(15,[])])],[]⟩ 175
theorem acV:aF prog 175 vZ:=eD (ah Rq (ah xM (ah Tf (ah WG (ah WJ (ah QZ (ah Tg (ah kU (ah oP (ah nN ay)))))))))) func175
noncomputable def Nu:aN:=aI prog [(172,false,Aa),(174,false,ER),(173,false,Ae),(175,false,vZ),(74,false,jo)] ⟨[],[],[(3,[],[])],[]⟩ 97
theorem aj3:aF prog 97 Nu:=eD (ah Qx (ah WJ (ah aaj (ah acV (ah kU ay))))) func97
noncomputable def Gn:aN:=aI prog [(74,false,jo),(176,false,kJ)] ⟨[],[],[],[]⟩ 99
theorem aj4:aF prog 99 Gn:=eD (ah kU (ah Bp ay)) func99
noncomputable def dx:aN:=aI prog [(88,false,zi),(98,false,jZ),(97,false,Nu),(74,false,jo),(99,false,Gn),(100,false,kZ)] ⟨[],[],[(5,[0,1,2,3,4,5,6,7,9,10,8,11,12,13,14,15],[(8,[0,1,9,10]),(14,[])])],[]⟩ 36
theorem X9:aF prog 36 dx:=eD (ah O8 (ah nN (ah aj3 (ah kU (ah aj4 (ah oP ay)))))) func36
noncomputable def Jl:aN:=aI prog [] ⟨[],[],[],[]⟩ 177
theorem aak:aF prog 177 Jl:=eD ay func177
noncomputable def mG:aN:=aI prog [(162,false,oF)] ⟨[(6,[10,9,2,0],[]),(12,[11,2,0],[]),(18,[12,9,2,0],[]),(24,[13,2,0],[])],[],[],[]⟩ 235
theorem aal:aF prog 235 mG:=eD (ah uN ay) func235
noncomputable def BQ:aN:=aI prog [(162,false,oF),(235,false,mG)] ⟨[(3,[19,18,3,2,1,0],[])],[],[],[]⟩ 178
theorem WK:aF prog 178 BQ:=eD (ah uN (ah aal ay)) func178
noncomputable def Nv:aN:=aI prog [(162,false,oF)] ⟨[],[],[],[]⟩ 242
theorem aj5:aF prog 242 Nv:=eD (ah uN ay) func242
noncomputable def BR:aN:=aI prog [] ⟨[],[],[],[]⟩ 236
theorem WL:aF prog 236 BR:=eD ay func236
noncomputable def lS:aN:=aI prog [(96,false,kr),(154,false,rD),(165,false,AO),(236,false,BR),(164,false,tO),(74,false,jo),(166,false,zn),(153,false,vT)] ⟨[],[],[(4,[],[(8,[])]),(9,[],[(8,[])]),(10,[],[(5,[])])],[]⟩ 181
theorem Pb:aF prog 181 lS:=eD (ah mW (ah zL (ah O9 (ah WL (ah Gd (ah kU (ah Td (ah Gf ay)))))))) func181
noncomputable def Br:aN:=aI prog [(154,false,rD),(153,false,vT),(242,false,Nv),(181,false,lS)] ⟨[],[],[(2,[],[(8,[])])],[]⟩ 184
theorem Ya:aF prog 184 Br:=eD (ah zL (ah Gf (ah aj5 (ah Pb ay)))) func184
noncomputable def wT:aN:=aI prog [(178,false,BQ),(96,false,kr),(184,false,Br)] ⟨[],[],[],[]⟩ 179
theorem WM:aF prog 179 wT:=eD (ah WK (ah mW (ah Ya ay))) func179
noncomputable def ni:aN:=aI prog [(96,false,kr),(154,false,rD),(153,false,vT),(177,false,Jl),(178,false,BQ),(74,false,jo),(179,false,wT)] ⟨[(9,[10,9,8,6,4,3,2],[9,6,4,3])],[],[],[]⟩ 101
theorem af3:aF prog 101 ni:=eD (ah mW (ah zL (ah Gf (ah aak (ah WK (ah kU (ah WM ay))))))) func101
noncomputable def aT:aN:=aI prog [(162,false,oF),(223,false,vU),(237,false,mY),(91,false,gq),(239,false,mZ),(240,false,ng),(163,false,pI)] ⟨[(23,[13,11,4],[4])],[],[],[]⟩ 183
theorem Jm:aF prog 183 aT:=eD (ah uN (ah Gh (ah xQ (ah Ji (ah xR (ah xU (ah Gi ay))))))) func183
noncomputable def zq:aN:=aI prog [(183,false,aT),(184,false,Br)] ⟨[],[],[],[]⟩ 180
theorem af4:aF prog 180 zq:=eD (ah Jm (ah Ya ay)) func180
noncomputable def bJ:aN:=aI prog [(74,false,jo),(96,false,kr),(171,false,rC),(155,false,Bq),(180,false,zq),(181,false,lS),(170,false,Gm)] ⟨[],[],[(1,[],[])],[]⟩ 102
theorem acW:aF prog 102 bJ:=eD (ah kU (ah mW (ah zk (ah X4 (ah af4 (ah Pb (ah X7 ay))))))) func102
noncomputable def eZ:aN:=aI prog [(74,false,jo),(42,false,xL),(177,false,Jl),(96,false,kr),(179,false,wT),(121,false,vS)] ⟨[],[],[(18,[],[(4,[1,2]),(6,[]),(8,[])])],[]⟩ 182
theorem ais:aF prog 182 eZ:=eD (ah kU (ah Cv (ah aak (ah mW (ah WM (ah Tc ay)))))) func182
noncomputable def xV:aN:=aI prog [(219,false,pJ),(150,false,EO),(154,false,rD),(216,false,om),(96,false,kr),(153,false,vT)] ⟨[],[],[(5,[],[(9,[])])],[]⟩ 185
theorem ait:aF prog 185 xV:=eD (ah Me (ah Z6 (ah zL (ah Md (ah mW (ah Gf ay)))))) func185
noncomputable def tV:aN:=aI prog [(96,false,kr),(154,false,rD),(141,false,tN),(224,false,Jj),(225,false,Jk),(153,false,vT)] ⟨[(6,[8,7,4,2],[7,4,2])],[],[(10,[],[(6,[])]),(11,[],[(6,[])])],[]⟩ 186
theorem aam:aF prog 186 tV:=eD (ah mW (ah zL (ah Cx (ah aad (ah aae (ah Gf ay)))))) func186
noncomputable def qF:aN:=aI prog [(183,false,aT),(96,false,kr),(154,false,rD),(165,false,AO),(236,false,BR)] ⟨[],[],[(1,[],[]),(11,[],[(8,[])])],[]⟩ 187
theorem aiu:aF prog 187 qF:=eD (ah Jm (ah mW (ah zL (ah O9 (ah WL ay))))) func187
noncomputable def bB:aN:=aI prog [(182,false,eZ),(181,false,lS),(183,false,aT),(184,false,Br),(96,false,kr),(74,false,jo),(185,false,xV),(186,false,tV),(169,false,zM),(155,false,Bq),(170,false,Gm),(187,false,qF)] ⟨[],[],[(1,[],[])],[]⟩ 103
theorem acX:aF prog 103 bB:=eD (ah ais (ah Pb (ah Jm (ah Ya (ah mW (ah kU (ah ait (ah aam (ah ae8 (ah X4 (ah X7 (ah aiu ay)))))))))))) func103
noncomputable def oq:aN:=aI prog [(88,false,zi),(89,false,fC),(96,false,kr),(74,false,jo),(101,false,ni),(102,false,bJ),(103,false,bB)] ⟨[],[],[],[]⟩ 37
theorem aiv:aF prog 37 oq:=eD (ah O8 (ah Ti (ah mW (ah kU (ah af3 (ah acW (ah acX ay))))))) func37
noncomputable def xW:aN:=aI prog [(35,false,j3),(36,false,dx),(37,false,oq)] ⟨[],[],[],[]⟩ 7
theorem aiw:aF prog 7 xW:=eD (ah aai (ah X9 (ah aiv ay))) func7
noncomputable def Af:aN:=aI prog [] ⟨[],[],[],[]⟩ 138
theorem Qz:aF prog 138 Af:=eD ay func138
noncomputable def Bt:aN:=aI prog [] ⟨[(2,[9,8,7,1],[])],[],[],[]⟩ 272
theorem Yb:aF prog 272 Bt:=eD ay func272
noncomputable def wU:aN:=aI prog [(272,false,Bt)] ⟨[],[],[],[]⟩ 214
theorem aan:aF prog 214 wU:=eD (ah Yb ay) func214
noncomputable def Gp:aN:=aI prog [(138,false,Af),(214,false,wU)] ⟨[],[],[],[]⟩ 135
theorem acY:aF prog 135 Gp:=eD (ah Qz (ah aan ay)) func135
noncomputable def rE:aN:=aI prog [(134,false,nU),(135,false,Gp),(136,false,wK),(137,false,wL),(87,false,oN),(138,false,Af)] ⟨[(9,[138,137,136],[])],[],[],[]⟩ 69
theorem zN:aF prog 69 rE:=eD (ah uM (ah acY (ah Kn (ah Ko (ah Bl (ah Qz ay)))))) func69
noncomputable def Dt:aN:=aI prog [] ⟨[],[],[],[]⟩ 108
theorem Nw:aF prog 108 Dt:=eD ay func108
noncomputable def CF:aN:=aI prog [] ⟨[(3,[6,5,1,0],[])],[],[],[]⟩ 244
theorem acZ:aF prog 244 CF:=eD ay func244
noncomputable def ES:aN:=aI prog [(134,false,nU)] ⟨[],[],[],[]⟩ 279
theorem Tj:aF prog 279 ES:=eD (ah uM ay) func279
noncomputable def rF:aN:=aI prog [(134,false,nU),(113,false,nC),(279,false,ES)] ⟨[],[],[(3,[],[(21,[])])],[]⟩ 250
theorem Mf:aF prog 250 rF:=eD (ah uM (ah vR (ah Tj ay))) func250
noncomputable def gH:aN:=aI prog [(115,false,lM),(139,false,yY),(140,false,qQ)] ⟨[],[],[],[]⟩ 71
theorem jc:aF prog 71 gH:=eD (ah pG (ah Ma (ah Dq ay))) func71
noncomputable def rG:aN:=aI prog [] ⟨[],[],[],[]⟩ 117
theorem zu:aF prog 117 rG:=eD ay func117
noncomputable def xX:aN:=aI prog [(69,false,rE),(134,false,nU),(71,false,gH),(117,false,rG),(147,false,za),(80,false,Cu),(115,false,lM),(82,false,tL)] ⟨[],[],[],[]⟩ 253
theorem aix:aF prog 253 xX:=eD (ah zN (ah uM (ah jc (ah zu (ah Mc (ah acT (ah pG (ah Gc ay)))))))) func253
noncomputable def iI:aN:=aI prog [(71,false,gH),(117,false,rG)] ⟨[],[],[],[]⟩ 110
theorem jB:aF prog 110 iI:=eD (ah jc (ah zu ay)) func110
noncomputable def jP:aN:=aI prog [(253,false,xX),(110,false,iI)] ⟨[],[],[],[]⟩ 193
theorem qG:aF prog 193 jP:=eD (ah aix (ah jB ay)) func193
noncomputable def wV:aN:=aI prog [(250,false,rF),(193,false,jP)] ⟨[],[],[],[]⟩ 243
theorem WO:aF prog 243 wV:=eD (ah Mf (ah qG ay)) func243
noncomputable def fJ:aN:=aI prog [] ⟨[],[],[],[]⟩ 118
theorem gW:aF prog 118 fJ:=eD ay func118
noncomputable def CG:aN:=aI prog [(134,false,nU)] ⟨[],[],[],[]⟩ 252
theorem Tk:aF prog 252 CG:=eD (ah uM ay) func252
noncomputable def rH:aN:=aI prog [(252,false,CG),(113,false,nC)] ⟨[],[],[(8,[],[(17,[])])],[]⟩ 192
theorem CJ:aF prog 192 rH:=eD (ah Tk (ah vR ay)) func192
noncomputable def zx:aN:=aI prog [(118,false,fJ),(192,false,rH),(193,false,jP)] ⟨[],[],[(2,[],[(14,[11,12])])],[]⟩ 245
theorem af5:aF prog 245 zx:=eD (ah gW (ah CJ (ah qG ay))) func245
noncomputable def zy:aN:=aI prog [(113,false,nC),(118,false,fJ),(134,false,nU),(279,false,ES)] ⟨[],[],[(1,[],[(14,[])])],[]⟩ 247
theorem Pf:aF prog 247 zy:=eD (ah vR (ah gW (ah uM (ah Tj ay)))) func247
noncomputable def vB:aN:=aI prog [(247,false,zy),(193,false,jP)] ⟨[],[],[],[]⟩ 189
theorem ET:aF prog 189 vB:=eD (ah Pf (ah qG ay)) func189
noncomputable def Ag:aN:=aI prog [(70,false,mV)] ⟨[],[],[],[]⟩ 111
theorem QA:aF prog 111 Ag:=eD (ah wM ay) func111
noncomputable def wh:aN:=aI prog [(70,false,mV)] ⟨[],[],[],[]⟩ 257
theorem Tm:aF prog 257 wh:=eD (ah wM ay) func257
noncomputable def xY:aN:=aI prog [(148,false,EL)] ⟨[],[],[],[]⟩ 261
theorem Ny:aF prog 261 xY:=eD (ah WA ay) func261
noncomputable def Du:aN:=aI prog [(261,false,xY)] ⟨[(10,[8,7,6,1,0],[]),(4,[6,1,0],[])],[],[(14,[],[])],[]⟩ 291
theorem aao:aF prog 291 Du:=eD (ah Ny ay) func291
noncomputable def zA:aN:=aI prog [(291,false,Du)] ⟨[(6,[6,5,4],[])],[],[],[]⟩ 280
theorem Tn:aF prog 280 zA:=eD (ah aao ay) func280
noncomputable def BS:aN:=aI prog [(280,false,zA),(279,false,ES)] ⟨[],[],[],[]⟩ 258
theorem WQ:aF prog 258 BS:=eD (ah Tn (ah Tj ay)) func258
noncomputable def dW:aN:=aI prog [(69,false,rE),(111,false,Ag),(71,false,gH),(117,false,rG),(115,false,lM),(82,false,tL),(257,false,wh),(258,false,BS)] ⟨[],[],[],[]⟩ 255
theorem af6:aF prog 255 dW:=eD (ah zN (ah QA (ah jc (ah zu (ah pG (ah Gc (ah Tm (ah WQ ay)))))))) func255
noncomputable def kK:aN:=aI prog [(255,false,dW),(110,false,iI)] ⟨[],[],[],[]⟩ 196
theorem Gq:aF prog 196 kK:=eD (ah af6 (ah jB ay)) func196
noncomputable def pK:aN:=aI prog [(118,false,fJ),(192,false,rH),(193,false,jP),(146,false,yZ)] ⟨[],[],[(2,[],[(14,[11,12])])],[]⟩ 106
theorem Gr:aF prog 106 pK:=eD (ah gW (ah CJ (ah qG (ah S9 ay)))) func106
noncomputable def kM:aN:=aI prog [(87,false,oN)] ⟨[],[],[],[]⟩ 254
theorem Gs:aF prog 254 kM:=eD (ah Bl ay) func254
noncomputable def tX:aN:=aI prog [(254,false,kM)] ⟨[],[],[],[]⟩ 278
theorem Jo:aF prog 278 tX:=eD (ah Gs ay) func278
noncomputable def pO:aN:=aI prog [(118,false,fJ),(278,false,tX)] ⟨[(7,[7,2,1,0],[]),(2,[2,1,0],[])],[],[],[]⟩ 246
theorem Lh:aF prog 246 pO:=eD (ah gW (ah Jo ay)) func246
noncomputable def bn:aN:=aI prog [(108,false,Dt),(244,false,CF),(243,false,wV),(71,false,gH),(245,false,zx),(189,false,vB),(196,false,kK),(106,false,pK),(246,false,pO)] ⟨[],[],[(6,[],[(8,[])]),(8,[],[(6,[])]),(40,[],[(10,[])])],[]⟩ 188
theorem aap:aF prog 188 bn:=eD (ah Nw (ah acZ (ah WO (ah jc (ah af5 (ah ET (ah Gq (ah Gr (ah Lh ay))))))))) func188
noncomputable def qR:aN:=aI prog [(69,false,rE),(70,false,mV),(34,false,xK),(188,false,bn)] ⟨[],[],[],[]⟩ 104
theorem QB:aF prog 104 qR:=eD (ah zN (ah wM (ah Je (ah aap ay)))) func104
noncomputable def Kt:aN:=aI prog [(118,false,fJ),(254,false,kM)] ⟨[(4,[1,0],[]),(2,[1,0],[])],[],[],[]⟩ 194
theorem af7:aF prog 194 Kt:=eD (ah gW (ah Gs ay)) func194
noncomputable def Dv:aN:=aI prog [(118,false,fJ),(254,false,kM)] ⟨[(4,[1,0],[]),(2,[1,0],[])],[],[],[]⟩ 195
theorem aaq:aF prog 195 Dv:=eD (ah gW (ah Gs ay)) func195
noncomputable def pQ:aN:=aI prog [(194,false,Kt),(195,false,Dv)] ⟨[(3,[8,7,3,2,1],[3])],[],[],[]⟩ 107
theorem Mg:aF prog 107 pQ:=eD (ah af7 (ah aaq ay)) func107
noncomputable def pR:aN:=aI prog [(136,false,wK)] ⟨[],[],[],[]⟩ 248
theorem Mh:aF prog 248 pR:=eD (ah Kn ay) func248
open Classical in
noncomputable def Ah:aN:=fun args boxes trees=>match args,boxes,trees with
 | [.agg [.aL (some 0) rows]],[],[]=>if wK [.agg [.aL (some 0) rows]] [] []=some ⟨.v (.bool true),[],[]⟩∧yY [.agg [.aL (some 0) rows]] [] []=some ⟨.agg [.own 0],[],[(0,rows)]⟩∧(∀r∈rows,∃q,r= [D.l q])∧rows.length≤1000 then some ⟨.agg [.own 0],[],[(0,rows.drop 1++rows.take 1)]⟩else none
 | _,_,_=>none
set_option maxHeartbeats 8000000 in
set_option maxRecDepth 100000 in
theorem aar:aF prog 249 Ah:=
 SK (gh:=⟨[],[(6,[3])],[(6,[],[(10,[]),(12,[])])],[]⟩) (ah (f:=136) (m:=false) Kn (ah (f:=139) (m:=false) Ma ay)) acS func249 rfl rfl (by decide) (aV (by kernel_rfl)) 4 (fun args boxes trees r h=>by
  unfold Ah at h
  split at h
  ·rename_i rows
   split at h
   ·rename_i hc
    obtain⟨e1,e2,hw,hlen⟩:=hc
    injection h with h;subst h
    refine⟨by simp,rfl,rfl,rfl,10000,?_⟩
    have hw1:=ae6 hw
    unfold XT AL
    simp [partsOf,func249,f249,su,e1,e2,bW,mD,oC]
    refine⟨rows,rfl,fun us Zx huc=>?_⟩
    rw [Nq hw1]at Zx
    have ha:=I9 hw1 Zx
    have hone:=L8 hw Zx huc
    have fin:I8 rows us ⟨.agg [.own 0],[],[(0,rows.tail++rows.take 1)]⟩ ⟨.agg [.own 0],[],[(0,(us.tail++us.take 1).map fun u=> [D.a u])]⟩:=by
     rw [←List.drop_one,←List.drop_one]
     exact fun c hK' y w u m r=>Wy hw1 Zx m r
    have hul:us.length≤1000:=by omega
    simp only [upd,if_true,ha]
    cases us with
    | nil=>
     simp [f249,su]
     exact fin
    | cons u us=>
     have hu1:u.oneCell'=true:=hone u (by simp)
     have hu2:=SL fun v hv=>hone v (List.mem_cons_of_mem _ hv)
     have q1:(1:Int)≤(us.length:Int)+1:=by omega
     have q2:(0:Int)<(us.length:Int)+1:=by omega
     have q4:((us.length:Int)+1==0)=false:=beq_eq_false_iff_ne.2 (by omega)
     have q3:us.length≤1000:=by simp at hul;omega
     have g1:us.length*24≤140737488355328:=by omega
     have g2:us.length≤4611686018427387904:=by omega
     have g3:(us.length+1)*24≤140737488355328:=by omega
     have g4:us.length+1≤4611686018427387904:=by omega
     have g5:us.length≤4611686018427387903:=by omega
     simp [f249,su,hu1,hu2,q1,q2,q4,g1,g2,g3,g4,g5,ae7,Wz]
     simp at fin
     exact fin
   ·cases h
  ·cases h)
noncomputable def eX:aN:=aI prog [(248,false,pR),(147,false,za),(110,false,iI),(192,false,rH),(249,false,Ah),(250,false,rF),(71,false,gH),(193,false,jP)] ⟨[],[],[(7,[],[(8,[6])])],[]⟩ 190
theorem Q0:aF prog 190 eX:=eD (ah Mh (ah Mc (ah jB (ah CJ (ah aar (ah Mf (ah jc (ah qG ay)))))))) func190
noncomputable def Ai:aN:=aI prog [(252,false,CG),(113,false,nC)] ⟨[(6,[12,11,10,8,3,2],[8])],[],[],[]⟩ 251
theorem aas:aF prog 251 Ai:=eD (ah Tk (ah vR ay)) func251
noncomputable def CK:aN:=aI prog [(107,false,pQ),(251,false,Ai),(193,false,jP)] ⟨[],[],[(1,[],[(13,[11])])],[]⟩ 191
theorem ac0:aF prog 191 CK:=eD (ah Mg (ah aas (ah qG ay))) func191
noncomputable def jk:aN:=aI prog [(71,false,gH),(118,false,fJ),(108,false,Dt),(107,false,pQ),(189,false,vB),(106,false,pK),(190,false,eX),(191,false,CK),(110,false,iI)] ⟨[],[],[(8,[],[(7,[])]),(10,[],[(7,[])]),(12,[],[(10,[])])],[]⟩ 105
theorem ac1:aF prog 105 jk:=eD (ah jc (ah gW (ah Nw (ah Mg (ah ET (ah Gr (ah Q0 (ah ac0 (ah jB ay))))))))) func105
noncomputable def wm:aN:=aI prog [(248,false,pR),(110,false,iI),(243,false,wV)] ⟨[],[],[],[]⟩ 197
theorem ac2:aF prog 197 wm:=eD (ah Mh (ah jB (ah WO ay))) func197
noncomputable def tY:aN:=aI prog [(134,false,nU),(113,false,nC)] ⟨[],[],[(6,[],[(27,[])])],[]⟩ 198
theorem aat:aF prog 198 tY:=eD (ah uM (ah vR ay)) func198
noncomputable def Gt:aN:=aI prog [(137,false,wL),(140,false,qQ)] ⟨[],[],[(5,[],[(12,[6,7,8,9,10,11]),(13,[])])],[]⟩ 256
theorem Yc:aF prog 256 Gt:=eD (ah Ko (ah Dq ay)) func256
open Classical in
noncomputable def Bu:aN:=fun args boxes trees=>match args,boxes,trees with
 | [.agg [.aL (some 0) rows]],[],[]=>match rows.getLast? with
  | some [.l q, .a x]=>if wL [.agg [.aL (some 0) rows]] [] []=some ⟨.v (.bool true),[],[]⟩∧qQ [.agg [.aL (some 0) rows]] [] []=some ⟨.agg [.own 0],[],[(0,rows)]⟩∧(∀r∈rows.dropLast,r.length=2)∧x.oneCell'=true∧rows.length≤1000 then
    some (if rows.dropLast= []then⟨.fU [.agg [.aL none []], .agg [.own 0, .v x], .v (.bool true)],[],[(0,q)]⟩else⟨.fU [.agg [.own 0], .agg [.own 1, .v x], .v (.bool true)],[],[(0,rows.dropLast),(1,q)]⟩)else none
  | _=>none
 | _,_,_=>none
set_option maxHeartbeats 8000000 in
set_option maxRecDepth 100000 in
theorem Yd:aF prog 256 Bu:=
 XZ (gh:=⟨[],[],[],[]⟩) (ah (f:=137) (m:=false) Ko (ah (f:=140) (m:=false) Dq ay)) acS func256 rfl rfl (by decide) 5 rfl (aV (by kernel_rfl)) (aV (by kernel_rfl)) 12 4 25 2 6 [5,6] (aV (by kernel_rfl)) (fun args boxes trees r h=>by
  unfold Bu at h
  split at h
  ·rename_i rows
   split at h
   ·rename_i q x hl
    split at h
    ·rename_i hc
     obtain⟨pre,rfl⟩:=List.getLast?_eq_some_iff.1 hl
     obtain⟨e1,e2,hw,hx1,hlen⟩:=hc
     rw [List.dropLast_concat]at h hw
     injection h with h
     refine⟨by simp,rfl,rfl,by subst h;split<;>rfl,21000,pre.length,?_⟩
     unfold Rp AL
     have apc:pre.length≤999:=by simp at hlen;omega
     have q1:(0:Int)<(pre.length:Int)+1:=by omega
     have q4:((pre.length:Int)+1==0)=false:=beq_eq_false_iff_ne.2 (by omega)
     simp [-List.length_flatten,partsOf,func256,f256,su,e1,e2,bW,mD,oC,q1,q4]
     intro us Zx huc
     obtain⟨Ns,ut,ua,rfl,h1⟩:=amN Zx
     obtain⟨ho,hua⟩:=pair_cells h1 huc
     have aoi:pre= []→I8 (pre++ [[D.l q,D.a x]]) (Ns++ [ut,ua]) r ⟨.fU [.agg [.aL none []], .agg [.v ut, .v ua], .v (.bool true)],[],[]⟩:=fun e=>by
      subst e
      obtain rfl:Ns= []:=List.eq_nil_of_length_eq_zero (by simpa using h1)
      rw [if_pos rfl]at h
      rw [←h]
      exact aiq hua
     have aoj:¬pre= []→I8 (pre++ [[D.l q,D.a x]]) (Ns++ [ut,ua]) r ⟨.fU [.agg [.own 0], .agg [.v ut, .v ua], .v (.bool true)],[],[(0,gN pre Ns)]⟩:=fun e=>by
      rw [if_neg e]at h
      rw [←h]
      exact aj1 h1 hw hua
     rw [acR h1]
     have a1:=tJ pre Ns
     have a2:=Dm h1 hw
     have a3:=acQ pre Ns
     generalize gN pre Ns=A at*
     have hw64:=IntWalk.i64_in (pre.length:Int) (by omega)
     have hw0:IntKind.i64.wrap 0=0:=IntWalk.i64_in 0 (by omega)
     have q5:(pre.length:Int)<(pre.length:Int)+1:=by omega
     have q6:pre.length*32≤140737488355328:=by omega
     have hxa:ua.oneCell'=true:=by rw [hua];exact hx1
     have hg:(A++ [[D.a ut,D.a ua]])[pre.length]?=some [D.a ut,D.a ua]:=by rw [←a1];simp
     refine⟨⟨_,_,25,_,_,_,rfl,rfl,rfl,rfl,by simp,by simp,rfl,by simp;omega,by simp,fun t1 x1 g1 g2=>?_⟩,fun u hu=>?_⟩
     ·simp [S.only,SY,vV,oV]at g1
      subst g1
      simp [yX,O6,acL,SN,SQ,XU,SS,hw64]at g2
      subst g2
      simp [hw64]
     ·by_cases hp:pre= []
      ·have fin:=aoi hp
       subst hp
       obtain rfl:A= []:=List.eq_nil_of_length_eq_zero a1
       simp [-List.length_flatten,Dn,S.only,SY,vV,oV,yX,O6,acL,SN,SQ,XU,SS,L9,tailV,storeT,hw64,hw0,q5,q6,hg,a1,hu,ho,hxa,S.SX,LJ]
       first|exact fin|(simp at fin;exact fin)
      ·have fin:=aoj hp
       have hp0:¬pre.length=0:=fun e=>hp (List.eq_nil_of_length_eq_zero e)
       simp [-List.length_flatten,Dn,S.only,SY,vV,oV,yX,O6,acL,SN,SQ,XU,SS,L9,tailV,storeT,hw64,hw0,q5,q6,hg,a1,hu,ho,hxa,S.SX,LJ,hp]
       exact fin
    ·cases h
   ·cases h
  ·cases h)
noncomputable def Dw:aN:=orM Bu Gt
theorem aau:aF prog 256 Dw:=afZ Yd Yc
noncomputable def iP:aN:=aI prog [(256,false,Dw),(110,false,iI),(71,false,gH),(117,false,rG),(82,false,tL)] ⟨[],[],[],[]⟩ 199
theorem Tp:aF prog 199 iP:=eD (ah aau (ah jB (ah jc (ah zu (ah Gc ay))))) func199
noncomputable def nH:aN:=aI prog [(71,false,gH),(117,false,rG),(115,false,lM)] ⟨[],[],[],[]⟩ 200
theorem Gu:aF prog 200 nH:=eD (ah jc (ah zu (ah pG ay))) func200
noncomputable def bY:aN:=aI prog [(108,false,Dt),(189,false,vB),(196,false,kK),(106,false,pK),(197,false,wm),(198,false,tY),(193,false,jP),(199,false,iP),(200,false,nH),(110,false,iI)] ⟨[],[],[],[]⟩ 109
theorem ac3:aF prog 109 bY:=eD (ah Nw (ah ET (ah Gq (ah Gr (ah ac2 (ah aat (ah qG (ah Tp (ah Gu (ah jB ay)))))))))) func109
noncomputable def jg:aN:=aI prog [(69,false,rE),(70,false,mV),(34,false,xK),(104,false,qR),(105,false,jk),(108,false,Dt),(107,false,pQ),(106,false,pK),(109,false,bY),(110,false,iI)] ⟨[],[],[(10,[],[(11,[])])],[]⟩ 38
theorem aav:aF prog 38 jg:=eD (ah zN (ah wM (ah Je (ah QB (ah ac1 (ah Nw (ah Mg (ah Gr (ah ac3 (ah jB ay)))))))))) func38
noncomputable def EU:aN:=aI prog [(261,false,xY)] ⟨[(3,[9,8,7,3],[])],[],[],[]⟩ 203
theorem WR:aF prog 203 EU:=eD (ah Ny ay) func203
noncomputable def Jp:aN:=aI prog [] ⟨[(2,[7,2,1,0],[])],[],[],[]⟩ 260
theorem aiy:aF prog 260 Jp:=eD ay func260
noncomputable def Aj:aN:=aI prog [(70,false,mV),(260,false,Jp)] ⟨[(5,[29,28,27,11,5,4,3,2,1],[5])],[],[],[]⟩ 202
theorem aaw:aF prog 202 Aj:=eD (ah wM (ah aiy ay)) func202
noncomputable def Ak:aN:=aI prog [(280,false,zA)] ⟨[(2,[5,1,0],[])],[],[],[]⟩ 259
theorem aax:aF prog 259 Ak:=eD (ah Tn ay) func259
noncomputable def CO:aN:=aI prog [(69,false,rE),(257,false,wh),(258,false,BS),(203,false,EU),(259,false,Ak),(71,false,gH),(115,false,lM)] ⟨[],[],[],[]⟩ 201
theorem ac4:aF prog 201 CO:=eD (ah zN (ah Tm (ah WQ (ah WR (ah aax (ah jc (ah pG ay))))))) func201
noncomputable def tZ:aN:=aI prog [(203,false,EU),(202,false,Aj),(201,false,CO),(71,false,gH)] ⟨[],[],[(1,[],[(13,[11])])],[]⟩ 112
theorem ac5:aF prog 112 tZ:=eD (ah WR (ah aaw (ah ac4 (ah jc ay)))) func112
noncomputable def vC:aN:=aI prog [(69,false,rE),(71,false,gH),(82,false,tL)] ⟨[],[],[],[]⟩ 114
theorem aiz:aF prog 114 vC:=eD (ah zN (ah jc (ah Gc ay))) func114
noncomputable def kN:aN:=aI prog [(69,false,rE),(70,false,mV),(34,false,xK),(111,false,Ag),(113,false,nC),(112,false,tZ),(71,false,gH),(114,false,vC),(115,false,lM)] ⟨[],[],[(9,[],[(12,[])])],[]⟩ 39
theorem Ye:aF prog 39 kN:=eD (ah zN (ah wM (ah Je (ah QA (ah vR (ah ac5 (ah jc (ah aiz (ah pG ay))))))))) func39
noncomputable def xZ:aN:=aI prog [(108,false,Dt),(118,false,fJ)] ⟨[],[],[],[]⟩ 208
theorem Gv:aF prog 208 xZ:=eD (ah Nw (ah gW ay)) func208
noncomputable def Jq:aN:=aI prog [] ⟨[],[],[],[]⟩ 262
theorem aay:aF prog 262 Jq:=eD ay func262
noncomputable def Al:aN:=aI prog [] ⟨[],[],[],[]⟩ 281
theorem QC:aF prog 281 Al:=eD ay func281
noncomputable def wW:aN:=aI prog [(118,false,fJ)] ⟨[(11,[11,10,9,2,0],[])],[],[],[]⟩ 282
theorem aaz:aF prog 282 wW:=eD (ah gW ay) func282
noncomputable def BU:aN:=aI prog [(118,false,fJ),(281,false,Al),(282,false,wW)] ⟨[(3,[12,4,3,2,1,0],[])],[],[],[]⟩ 263
theorem WS:aF prog 263 BU:=eD (ah gW (ah QC (ah aaz ay))) func263
noncomputable def Nz:aN:=aI prog [(118,false,fJ)] ⟨[],[],[],[]⟩ 286
theorem aj6:aF prog 286 Nz:=eD (ah gW ay) func286
noncomputable def EW:aN:=aI prog [(192,false,rH)] ⟨[],[],[],[]⟩ 269
theorem af8:aF prog 269 EW:=eD (ah CJ ay) func269
noncomputable def l7:aN:=aI prog [(189,false,vB),(118,false,fJ)] ⟨[],[],[],[]⟩ 270
theorem NA:aF prog 270 l7:=eD (ah ET (ah gW ay)) func270
noncomputable def iZ:aN:=aI prog [(69,false,rE),(269,false,EW),(270,false,l7),(110,false,iI),(192,false,rH),(71,false,gH),(146,false,yZ),(189,false,vB),(247,false,zy),(193,false,jP)] ⟨[],[],[],[]⟩ 207
theorem Ku:aF prog 207 iZ:=eD (ah zN (ah af8 (ah NA (ah jB (ah CJ (ah jc (ah S9 (ah ET (ah Pf (ah qG ay)))))))))) func207
noncomputable def uf:aN:=aI prog [(189,false,vB),(286,false,Nz),(207,false,iZ)] ⟨[],[],[],[]⟩ 268
theorem Tq:aF prog 268 uf:=eD (ah ET (ah aj6 (ah Ku ay))) func268
noncomputable def pU:aN:=aI prog [(208,false,xZ),(263,false,BU),(110,false,iI),(268,false,uf)] ⟨[],[],[(1,[],[])],[]⟩ 264
theorem Tt:aF prog 264 pU:=eD (ah Gv (ah WS (ah jB (ah Tq ay)))) func264
noncomputable def kP:aN:=aI prog [(110,false,iI),(208,false,xZ),(115,false,lM),(193,false,jP),(262,false,Jq),(263,false,BU),(71,false,gH),(264,false,pU)] ⟨[(10,[9,8,7,6,4,3,2],[8,4,3,2])],[],[(16,[],[])],[]⟩ 204
theorem ac6:aF prog 204 kP:=eD (ah jB (ah Gv (ah pG (ah qG (ah aay (ah WS (ah jc (ah Tt ay)))))))) func204
noncomputable def Gw:aN:=aI prog [] ⟨[],[],[],[]⟩ 265
theorem ac7:aF prog 265 Gw:=eD ay func265
noncomputable def wX:aN:=aI prog [(118,false,fJ),(278,false,tX)] ⟨[(7,[2,1,0],[]),(5,[7,2,1,0],[])],[],[],[]⟩ 292
theorem aaA:aF prog 292 wX:=eD (ah gW (ah Jo ay)) func292
noncomputable def yc:aN:=aI prog [(118,false,fJ),(278,false,tX)] ⟨[(7,[7,2,1,0],[]),(2,[2,1,0],[])],[],[],[]⟩ 293
theorem Yf:aF prog 293 yc:=eD (ah gW (ah Jo ay)) func293
noncomputable def CP:aN:=aI prog [(292,false,wX),(246,false,pO),(293,false,yc)] ⟨[],[],[],[]⟩ 283
theorem ac8:aF prog 283 CP:=eD (ah aaA (ah Lh (ah Yf ay))) func283
noncomputable def jh:aN:=aI prog [(118,false,fJ),(281,false,Al),(254,false,kM),(283,false,CP)] ⟨[(15,[11,0],[]),(27,[12,3,2,1,0],[])],[],[],[]⟩ 266
theorem Jr:aF prog 266 jh:=eD (ah gW (ah QC (ah Gs (ah ac8 ay)))) func266
noncomputable def jH:aN:=aI prog [(208,false,xZ),(266,false,jh),(268,false,uf)] ⟨[],[],[(1,[],[])],[]⟩ 206
theorem NC:aF prog 206 jH:=eD (ah Gv (ah Jr (ah Tq ay))) func206
noncomputable def qH:aN:=aI prog [(248,false,pR),(208,false,xZ),(110,false,iI),(247,false,zy),(250,false,rF),(193,false,jP)] ⟨[(7,[9,8,7,6,4,2,1],[4,2])],[],[],[]⟩ 284
theorem af9:aF prog 284 qH:=eD (ah Mh (ah Gv (ah jB (ah Pf (ah Mf (ah qG ay)))))) func284
noncomputable def qU:aN:=aI prog [(110,false,iI),(115,false,lM),(208,false,xZ),(118,false,fJ),(193,false,jP)] ⟨[(6,[6,5,4,2,1],[4,2,1])],[],[(4,[],[])],[]⟩ 285
theorem aaB:aF prog 285 qU:=eD (ah jB (ah pG (ah Gv (ah gW (ah qG ay))))) func285
noncomputable def nP:aN:=aI prog [(208,false,xZ),(118,false,fJ),(207,false,iZ),(71,false,gH),(270,false,l7),(266,false,jh),(284,false,qH),(285,false,qU),(199,false,iP),(196,false,kK),(200,false,nH),(110,false,iI)] ⟨[],[],[(6,[],[(10,[])]),(8,[],[(10,[])]),(14,[],[(10,[])]),(27,[],[(8,[])]),(31,[],[(8,[])])],[]⟩ 267
theorem aaC:aF prog 267 nP:=eD (ah Gv (ah gW (ah Ku (ah jc (ah NA (ah Jr (ah af9 (ah aaB (ah Tp (ah Gq (ah Gu (ah jB ay)))))))))))) func267
noncomputable def gZ:aN:=aI prog [(71,false,gH),(118,false,fJ),(262,false,Jq),(264,false,pU),(265,false,Gw),(207,false,iZ),(266,false,jh),(206,false,jH),(110,false,iI),(267,false,nP)] ⟨[],[],[(11,[],[(9,[])])],[]⟩ 205
theorem ac9:aF prog 205 gZ:=eD (ah jc (ah gW (ah aay (ah Tt (ah ac7 (ah Ku (ah Jr (ah NC (ah jB (ah aaC ay)))))))))) func205
noncomputable def jR:aN:=aI prog [(204,false,kP),(205,false,gZ),(71,false,gH),(110,false,iI),(196,false,kK),(206,false,jH),(208,false,xZ),(118,false,fJ),(207,false,iZ),(200,false,nH)] ⟨[],[],[(28,[],[(18,[])])],[]⟩ 116
theorem U0:aF prog 116 jR:=eD (ah ac6 (ah ac9 (ah jc (ah jB (ah Gq (ah NC (ah Gv (ah gW (ah Ku (ah Gu ay)))))))))) func116
noncomputable def oU:aN:=aI prog [(69,false,rE),(70,false,mV),(34,false,xK),(116,false,jR),(104,false,qR),(71,false,gH),(117,false,rG),(118,false,fJ),(110,false,iI)] ⟨[],[],[],[]⟩ 40
theorem aiA:aF prog 40 oU:=eD (ah zN (ah wM (ah Je (ah U0 (ah QB (ah jc (ah zu (ah gW (ah jB ay))))))))) func40
noncomputable def lH:aN:=aI prog [(38,false,jg),(39,false,kN),(40,false,oU)] ⟨[],[],[],[]⟩ 8
theorem aiB:aF prog 8 lH:=eD (ah aav (ah Ye (ah aiA ay))) func8
noncomputable def BX:aN:=aI prog [] ⟨[],[],[],[]⟩ 51
theorem Pg:aF prog 51 BX:=eD ay func51
noncomputable def BZ:aN:=aI prog [(51,false,BX)] ⟨[],[],[],[]⟩ 48
theorem WT:aF prog 48 BZ:=eD (ah Pg ay) func48
noncomputable def CQ:aN:=aI prog [(51,false,BX)] ⟨[],[],[],[]⟩ 210
theorem ada:aF prog 210 CQ:=eD (ah Pg ay) func210
noncomputable def Dx:aN:=aI prog [(210,false,CQ)] ⟨[(5,[5,1,0],[])],[],[],[]⟩ 123
theorem aaD:aF prog 123 Dx:=eD (ah ada ay) func123
noncomputable def Kv:aN:=aI prog [(123,false,Dx)] ⟨[],[],[],[]⟩ 49
theorem aga:aF prog 49 Kv:=eD (ah aaD ay) func49
noncomputable def Gx:aN:=aI prog [(48,false,BZ)] ⟨[(5,[5,1,0],[])],[],[],[]⟩ 124
theorem adb:aF prog 124 Gx:=eD (ah WT ay) func124
noncomputable def Kw:aN:=aI prog [(124,false,Gx)] ⟨[],[],[],[]⟩ 50
theorem agb:aF prog 50 Kw:=eD (ah adb ay) func50
noncomputable def Rt:aN:=aI prog [(48,false,BZ),(49,false,Kv),(50,false,Kw),(51,false,BX)] ⟨[],[],[],[]⟩ 10
theorem aj7:aF prog 10 Rt:=eD (ah WT (ah aga (ah agb (ah Pg ay)))) func10
noncomputable def Bv:aN:=aI prog [] ⟨[(5,[5,1,0],[])],[],[],[]⟩ 52
theorem Yg:aF prog 52 Bv:=eD ay func52
noncomputable def EX:aN:=aI prog [(52,false,Bv)] ⟨[],[],[],[]⟩ 11
theorem agc:aF prog 11 EX:=eD (ah Yg ay) func11
noncomputable def Ca:aN:=aI prog [] ⟨[(3,[4,3,0],[])],[],[],[]⟩ 56
theorem Ph:aF prog 56 Ca:=eD ay func56
noncomputable def EY:aN:=aI prog [(56,false,Ca)] ⟨[],[],[],[]⟩ 53
theorem WU:aF prog 53 EY:=eD (ah Ph ay) func53
noncomputable def Gy:aN:=aI prog [(56,false,Ca)] ⟨[],[],[],[]⟩ 211
theorem ade:aF prog 211 Gy:=eD (ah Ph ay) func211
noncomputable def Dy:aN:=aI prog [(211,false,Gy)] ⟨[(3,[4,3,0],[])],[],[],[]⟩ 125
theorem aaE:aF prog 125 Dy:=eD (ah ade ay) func125
noncomputable def Ky:aN:=aI prog [(125,false,Dy)] ⟨[],[],[],[]⟩ 54
theorem agd:aF prog 54 Ky:=eD (ah aaE ay) func54
noncomputable def Gz:aN:=aI prog [(53,false,EY)] ⟨[(3,[4,3,0],[])],[],[],[]⟩ 126
theorem adf:aF prog 126 Gz:=eD (ah WU ay) func126
noncomputable def Kz:aN:=aI prog [(126,false,Gz)] ⟨[],[],[],[]⟩ 55
theorem agf:aF prog 55 Kz:=eD (ah adf ay) func55
noncomputable def Ru:aN:=aI prog [(53,false,EY),(54,false,Ky),(55,false,Kz),(56,false,Ca)] ⟨[],[],[],[]⟩ 12
theorem aj8:aF prog 12 Ru:=eD (ah WU (ah agd (ah agf (ah Ph ay)))) func12
noncomputable def Bw:aN:=aI prog [] ⟨[(3,[4,3,0],[])],[],[],[]⟩ 57
theorem Yh:aF prog 57 Bw:=eD ay func57
noncomputable def KA:aN:=aI prog [(57,false,Bw)] ⟨[],[],[],[]⟩ 13
theorem agh:aF prog 13 KA:=eD (ah Yh ay) func13
noncomputable def ND:aN:=aI prog [] ⟨[],[],[],[]⟩ 14
theorem aiC:aF prog 14 ND:=eD ay func14
noncomputable def zB:aN:=aI prog [] ⟨[(4,[5,1,0],[])],[],[(6,[],[])],[]⟩ 24
theorem KC:aF prog 24 zB:=eD ay func24
noncomputable def EZ:aN:=aI prog [(24,false,zB)] ⟨[],[],[],[]⟩ 58
theorem WV:aF prog 58 EZ:=eD (ah KC ay) func58
noncomputable def GA:aN:=aI prog [(24,false,zB)] ⟨[],[],[],[]⟩ 212
theorem adg:aF prog 212 GA:=eD (ah KC ay) func212
noncomputable def Dz:aN:=aI prog [(212,false,GA)] ⟨[(4,[5,1,0],[])],[],[(6,[],[])],[]⟩ 127
theorem aaF:aF prog 127 Dz:=eD (ah adg ay) func127
noncomputable def KD:aN:=aI prog [(127,false,Dz)] ⟨[],[],[],[]⟩ 59
theorem agi:aF prog 59 KD:=eD (ah aaF ay) func59
noncomputable def GD:aN:=aI prog [(58,false,EZ)] ⟨[(4,[5,1,0],[])],[],[(6,[],[])],[]⟩ 128
theorem adh:aF prog 128 GD:=eD (ah WV ay) func128
noncomputable def KE:aN:=aI prog [(128,false,GD)] ⟨[],[],[],[]⟩ 60
theorem agj:aF prog 60 KE:=eD (ah adh ay) func60
noncomputable def Rv:aN:=aI prog [(58,false,EZ),(59,false,KD),(60,false,KE),(24,false,zB)] ⟨[],[],[],[]⟩ 15
theorem aj9:aF prog 15 Rv:=eD (ah WV (ah agi (ah agj (ah KC ay)))) func15
noncomputable def Bz:aN:=aI prog [] ⟨[(4,[5,1,0],[])],[],[(6,[],[])],[]⟩ 61
theorem Yi:aF prog 61 Bz:=eD ay func61
noncomputable def KF:aN:=aI prog [(61,false,Bz)] ⟨[],[],[],[]⟩ 16
theorem agk:aF prog 16 KF:=eD (ah Yi ay) func16
noncomputable def mH:aN:=aI prog [] ⟨[(2,[5,1,0],[])],[],[],[]⟩ 27
theorem Am:aF prog 27 mH:=eD ay func27
noncomputable def wY:aN:=aI prog [(27,true,mH)] ⟨[],[],[],[]⟩ 62
theorem aaG:aF prog 62 wY:=eD (ah Am ay) func62
noncomputable def pV:aN:=aI prog [(27,true,mH)] ⟨[(2,[5,1,0],[])],[],[],[]⟩ 129
theorem U3:aF prog 129 pV:=eD (ah Am ay) func129
noncomputable def wZ:aN:=aI prog [(129,true,pV)] ⟨[],[],[],[]⟩ 63
theorem aaH:aF prog 63 wZ:=eD (ah U3 ay) func63
noncomputable def rJ:aN:=aI prog [(27,true,mH)] ⟨[(2,[5,1,0],[])],[],[],[]⟩ 130
theorem Yj:aF prog 130 rJ:=eD (ah Am ay) func130
noncomputable def xg:aN:=aI prog [(130,true,rJ)] ⟨[],[],[],[]⟩ 64
theorem aaI:aF prog 64 xg:=eD (ah Yj ay) func64
noncomputable def xk:aN:=aI prog [(62,true,wY),(63,true,wZ),(64,true,xg),(27,true,mH)] ⟨[],[],[],[]⟩ 17
theorem agl:aF prog 17 xk:=eD (ah aaG (ah aaH (ah aaI (ah Am ay)))) func17
noncomputable def Ao:aN:=aI prog [] ⟨[(4,[3,0],[])],[],[],[]⟩ 131
theorem aaJ:aF prog 131 Ao:=eD ay func131
noncomputable def ug:aN:=aI prog [(131,false,Ao)] ⟨[(2,[5,1,0],[])],[],[],[]⟩ 65
theorem Tv:aF prog 65 ug:=eD (ah aaJ ay) func65
noncomputable def DC:aN:=aI prog [(65,true,ug)] ⟨[],[],[],[]⟩ 18
theorem aaK:aF prog 18 DC:=eD (ah Tv ay) func18
noncomputable def qV:aN:=aI prog [] ⟨[(2,[5,1,0],[])],[],[],[]⟩ 28
theorem Ap:aF prog 28 qV:=eD ay func28
noncomputable def DF:aN:=aI prog [(28,false,qV)] ⟨[],[],[],[]⟩ 66
theorem aaL:aF prog 66 DF:=eD (ah Ap ay) func66
noncomputable def vD:aN:=aI prog [(28,false,qV)] ⟨[(2,[5,1,0],[])],[],[],[]⟩ 132
theorem U4:aF prog 132 vD:=eD (ah Ap ay) func132
noncomputable def DI:aN:=aI prog [(132,false,vD)] ⟨[],[],[],[]⟩ 67
theorem aaM:aF prog 67 DI:=eD (ah U4 ay) func67
noncomputable def yg:aN:=aI prog [(28,false,qV)] ⟨[(2,[5,1,0],[])],[],[],[]⟩ 133
theorem Yk:aF prog 133 yg:=eD (ah Ap ay) func133
noncomputable def DJ:aN:=aI prog [(133,false,yg)] ⟨[],[],[],[]⟩ 68
theorem aaN:aF prog 68 DJ:=eD (ah Yk ay) func68
noncomputable def Cb:aN:=aI prog [(66,false,DF),(67,false,DI),(68,false,DJ),(28,false,qV)] ⟨[],[],[],[]⟩ 19
theorem agm:aF prog 19 Cb:=eD (ah aaL (ah aaM (ah aaN (ah Ap ay)))) func19
noncomputable def KG:aN:=aI prog [] ⟨[],[],[],[]⟩ 20
theorem agn:aF prog 20 KG:=eD ay func20
noncomputable def KH:aN:=aI prog [(14,false,ND)] ⟨[(3,[4,3,0],[])],[],[],[]⟩ 22
theorem agp:aF prog 22 KH:=eD (ah aiC ay) func22
noncomputable def qI:aN:=aI prog [(69,false,rE),(70,false,mV),(34,false,xK),(71,false,gH),(8,false,lH)] ⟨[(12,[41,40,39,11,10,6,4],[10,6,4]),(4,[27,26,25,6,4,3,2],[6,4,3])],[],[],[]⟩ 21
theorem agq:aF prog 21 qI:=eD (ah zN (ah wM (ah Je (ah jc (ah aiB ay))))) func21
noncomputable def qJ:aN:=aI prog [(9,false,Bo),(72,false,nW),(73,false,Cy),(74,false,jo),(7,false,xW)] ⟨[(12,[40,39,38,11,10,6,4],[10,6,4]),(4,[27,26,25,6,4,3,2],[6,4,3])],[],[],[]⟩ 23
theorem agr:aF prog 23 qJ:=eD (ah Rq (ah EN (ah Z5 (ah kU (ah aiw ay))))) func23
noncomputable def NG:aN:=aI prog [] ⟨[],[],[],[]⟩ 75
theorem aiD:aF prog 75 NG:=eD ay func75
noncomputable def KI:aN:=aI prog [(75,false,NG)] ⟨[(4,[5,1,0],[])],[],[(6,[],[])],[]⟩ 25
theorem ags:aF prog 25 KI:=eD (ah aiD ay) func25
noncomputable def DK:aN:=aI prog [] ⟨[(2,[5,1,0],[])],[],[],[]⟩ 26
theorem aaO:aF prog 26 DK:=eD ay func26
set_option maxHeartbeats 4000000
set_option maxRecDepth 10000
theorem dH (x a b:Int):xL [vI x,vI a,vI b] [] []=some ⟨V.v (.bool (iw x a b)),[],[]⟩:=by
 unfold xL
 by_cases h:a≤x<;>simp [func42,f42,h,iw]
end Go.Proofs.YtlpdjhiggpblcaaGreat
namespace Go.Proofs.YtlpdjhiggpblcaaGreat
open Go.RowKit
mutual
def bnD (B:Nat):D→Bool
 | .a _=>true
 | .l rows=>decide (rows.length≤B)&&bnT B rows
 | .gone=>false
def bnR (B:Nat):List D→Bool
 | []=>true
 | d::r=>bnD B d&&bnR B r
def bnT (B:Nat):List (List D)→Bool
 | []=>true
 | r::rows=>bnR B r&&bnT B rows
end
def bnL (B:Nat)(rows:List (List D)):Bool:=decide (rows.length≤B)&&bnT B rows
abbrev sG (rows:List (List D)):Bool:=bnL 1000000000 rows
abbrev smR (r:List D):Bool:=bnR 1000000000 r
abbrev lgL (rows:List (List D)):Bool:=bnL 9223372036854775807 rows
variable {B:Nat}
@[simp] theorem Js (v:Value):bnD B (.a v)=true:=id rfl
@[simp] theorem E5 (rows:List (List D)):bnD B (.l rows)=bnL B rows:=id rfl
@[simp] theorem uO:bnR B []=true:=id rfl
@[simp] theorem oW (d:D)(r:List D):bnR B (d::r)=(bnD B d&&bnR B r):=id rfl
@[simp] theorem ang:bnL B []=true:=by simp [bnL,bnT]
theorem sQ {rows:List (List D)}(h:bnL B rows=true):rows.length≤B:=by
 unfold bnL at h;rw [Bool.and_eq_true,decide_eq_true_eq]at h;exact h.1
theorem aiE:∀{rows:List (List D)} {j:Nat} {r:List D},bnT B rows=true→rows[j]?=some r→bnR B r=true
 | [],j,r,_,e=>by simp at e
 | x::rows,j,r,h,e=>by
  have h:(bnR B x&&bnT B rows)=true:=h
  rw [Bool.and_eq_true]at h
  cases j with
  | zero=>simp at e;subst e;exact h.1
  | succ j=>exact aiE h.2 (by simpa using e)
theorem aiF:∀{rows:List (List D)},(∀(j:Nat) (r:List D),rows[j]?=some r→bnR B r=true)→bnT B rows=true
 | [],_=>rfl
 | x::rows,h=>by
  show(bnR B x&&bnT B rows)=true
  rw [h 0 x rfl,aiF fun j r e=>h (j+1) r (by simpa using e)];rfl
theorem adi {rows:List (List D)}{j:Nat}{r:List D}(h:bnL B rows=true)(e:rows[j]?=some r):bnR B r=true:=by
 unfold bnL at h;rw [Bool.and_eq_true]at h;exact aiE h.2 e
theorem Pj {rows:List (List D)}(hl:rows.length≤B)(h:∀(j:Nat) (r:List D),rows[j]?=some r→bnR B r=true):bnL B rows=true:=by
 unfold bnL;rw [aiF h,decide_eq_true hl];rfl
theorem l8 {rows:List (List D)}(h:sG rows=true):rows.length≤1000000000:=sQ h
theorem sM {rows:List (List D)}{j:Nat}{r:List D}(h:sG rows=true)(e:rows[j]?=some r):smR r=true:=adi h e
theorem aaP:∀{rows:List (List D)},dU rows=true→bnT B rows=true
 | [],_=>rfl
 | r::rows,h=>by
  have h:(r.all tq&&dU rows)=true:=h
  rw [Bool.and_eq_true]at h
  have:∀l:List D,l.all tq=true→bnR B l=true:=by
   intro l;induction l with
   | nil=>intro _;rfl
   | cons d l ih=>
    intro h
    rw [List.all_cons,Bool.and_eq_true]at h
    rw [oW,ih h.2]
    cases d with
    | a v=>rfl
    | l rows=>cases h.1
    | gone=>cases h.1
  show(bnR B r&&bnT B rows)=true
  rw [this r h.1,aaP h.2];rfl
theorem aaQ {rows:List (List D)}(h:dU rows=true)(hl:rows.length≤B):bnL B rows=true:=by
 unfold bnL;rw [aaP h,decide_eq_true hl];rfl
theorem kQ {l:List Int}(h:l.length≤B):bnL B (ints l)=true:=aaQ (afs l) (by simpa using h)
theorem aiG {l:List ByteArray}(h:l.length≤B):bnL B (strs l)=true:=aaQ (aft l) (by simpa using h)
end Go.Proofs.YtlpdjhiggpblcaaGreat
namespace Go.Proofs.YtlpdjhiggpblcaaGreat
set_option linter.unusedSectionVars false
set_option linter.unusedSimpArgs false
set_option linter.unusedVariables false
open Go.RowKit
set_option maxHeartbeats 4000000
set_option maxRecDepth 10000
def mI (r:Int):Bool:=iw r 0 1114111&& !iw r 55296 57343
def dh (r:Int):Bool:=mI r&&decide (32≤r)&& !iw r 127 159
def iE (r:Int):Bool:=dh r||r==9||r==10
theorem j4 {α:Type}(p:α→Bool)(l:List α):l.all p=true∨(l.all p=false∧∃N,∃h:N<l.length,p l[N]=false∧∀j (hj:j<l.length),j<N→p l[j]=true):=by
 induction l with
 | nil=>exact .inl rfl
 | cons x l ih=>
  cases hx:p x
  ·exact .inr ⟨by simp [hx],0,by simp,hx,fun j hj h=>by omega⟩
  ·rcases ih with h|⟨h,N,hN,h1,h2⟩
   ·exact .inl (by simp [hx,h])
   ·refine .inr ⟨by simp [hx,h],N+1,by simpa using hN,by simpa using h1,fun j hj hlt=>?_⟩
    cases j with
    | zero=>simpa using hx
    | succ j=>simpa using h2 j (by simpa using hj) (by omega)
theorem Cc (r:Int):EM [vI r] [] []=some ⟨V.v (.bool (mI r)),[],[]⟩:=by
 unfold EM
 cases h1:iw r 0 1114111<;>cases h2:iw r 55296 57343<;>simp [func122,f122,dH,mI,h1,h2]
theorem Ce (r:Int):EL [vI r] [] []=some ⟨V.v (.bool (mI r)),[],[]⟩:=by
 unfold EL
 by_cases h1:0≤r<;>by_cases h2:r≤1114111<;>by_cases h3:r<55296<;>by_cases h4:57343<r<;>simp [func148,f148,mI,iw,h1,h2,h3,h4]<;>omega
theorem aR (r:Int):oO [vI r] [] []=some ⟨V.v (.bool (dh r)),[],[]⟩:=by
 unfold oO
 cases h1:mI r<;>by_cases h3:32≤r<;>cases h2:iw r 127 159<;>simp [func44,f44,dH,Cc,dh,h1,h2,h3]
theorem aW (r:Int):oN [vI r] [] []=some ⟨V.v (.bool (dh r)),[],[]⟩:=by
 unfold oN
 cases h1:mI r<;>by_cases h3:32≤r<;>by_cases h4:r<127<;>by_cases h5:159<r<;>simp [func87,f87,Ce,dh,iw,h1,h3,h4,h5]<;>omega
theorem sH (r:Int):zK [vI r] [] []=some ⟨V.v (.bool (iE r)),[],[]⟩:=by
 unfold zK
 by_cases h3:r=9
 ·subst h3;cases h1:dh 9<;>simp [func209,f209,aR,iE,h1]
 by_cases h4:r=10
 ·subst h4;cases h1:dh 10<;>simp [func209,f209,aR,iE,h1]
 cases h1:dh r<;>simp [func209,f209,aR,iE,h1,h3,h4]
theorem Jt (r:Int):Dp [vI r] [] []=some ⟨V.v (.bool (iE r)),[],[]⟩:=by
 unfold Dp
 by_cases h3:r=9
 ·subst h3;cases h1:dh 9<;>simp [func271,f271,aW,iE,h1]
 by_cases h4:r=10
 ·subst h4;cases h1:dh 10<;>simp [func271,f271,aW,iE,h1]
 cases h1:dh r<;>simp [func271,f271,aW,iE,h1,h3,h4]
theorem Ju (l:List Int)(hl:l.length≤1000000000):tK [.aL (some 0) (ints l)] [] []=some ⟨V.v (.bool (l.all iE)),[],[]⟩:=by
 simp [tK,func213,f213]
 rcases j4 iE l with h|⟨h,N,hN,h1,h2⟩
 ·rw [aD (fun j=> .on ⟨[(7,V.v (.int .i64 ((j:Int)))),(6,V.v (.int .i64 ((l.length:Int)))),(5, .aL (some 0) (ints l))],[],[],[]⟩) l.length ?_ ?_]
  ·simp [h]
  ·simp
  ·intro j hj
   have hw:=bN (j+1) (by omega)
   have:=List.all_eq_true.1 h l[j] (List.getElem_mem hj)
   simp [hj,hw,aQ hj,Jt,this]
 ·rw [aD (fun j=> .on ⟨[(7,V.v (.int .i64 ((j:Int)))),(6,V.v (.int .i64 ((l.length:Int)))),(5, .aL (some 0) (ints l))],[],[],[]⟩) N ?_ ?_]
  ·simp [h,hN,h1,aQ hN,Jt]
  ·simp
  ·intro j hj
   have hj':j<l.length:=by omega
   have hw:=bN (j+1) (by omega)
   simp [hj',hw,aQ hj',Jt,h2 j hj' hj]
set_option maxHeartbeats 8000000
theorem aaR {f:Q→Option (Ex×Q)}{s:Q}{R:Option (Ex×Q)}(hL:yJ f s=R){σ:Type}(st:Nat→σ→Q)(n:Nat)(I:Nat→σ→Prop)(a0:σ)(h0:s=st 0 a0)(i0:I 0 a0)
  (hs:∀j a,j<n→I j a→∃b,I (j+1) b∧f (st j a)=some (.normal,st (j+1) b)):∃a,I n a∧MS f (f (st n a))=R:=by
 have key:∀k,k≤n→∃a,I k a∧yJ f (st k a)=R:=by
  intro k
  induction k with
  | zero=>intro _;exact⟨a0,i0,by rw [←h0];exact hL⟩
  | succ k ih=>
   intro hk
   obtain⟨a,ha,e⟩:=ih (by omega)
   obtain⟨b,hb,e2⟩:=hs k a (by omega) ha
   rw [bO,e2,Bc]at e
   exact⟨b,hb,e⟩
 obtain⟨a,ha,e⟩:=key n (Nat.le_refl _)
 exact⟨a,ha,by rw [←bO];exact e⟩
theorem zC (l:List Int)(i:Nat)(x:Int):(ints l).set i [D.a (.int .i64 x)]=ints (l.set i x):=by
 show(l.map qD.enc).set i (qD.enc x)=(l.set i x).map qD.enc
 rw [List.map_set]
theorem oG {r:Int}(h:dh r=true):iE r=true:=by simp [iE,h]
def eT (l:List Int):Bool:=decide (l.length≤400)&&l.all iE
def bV (t:List Int)(a:Int):Bool:=eT t&&iw a 0 t.length
def qK (t:List Int)(a:Int):Bool:=decide (t.length=0)&&(a==0)
theorem qL (l:List Int)(hl:l.length≤1000000000):nV [.aL (some 0) (ints l)] [] []=some ⟨V.v (.bool (eT l)),[],[]⟩:=by
 simp [nV,func119,f119]
 by_cases hn:l.length≤400
 ·rcases j4 iE l with h|⟨h,N,hN,h1,h2⟩
  ·rw [aD (fun j=> .on ⟨[(7,V.v (.int .i64 ((j:Int)))),(6,V.v (.int .i64 ((l.length:Int)))),(5, .aL (some 0) (ints l))],[],[],[]⟩) l.length ?_ ?_]
   ·simp [eT,h,hn]
   ·simp
   ·intro j hj
    have hw:=bN (j+1) (by omega)
    have:=List.all_eq_true.1 h l[j] (List.getElem_mem hj)
    have h4:¬(400≤(j:Int)):=by omega
    simp [hj,hw,aQ hj,sH,this,h4]
  ·rw [aD (fun j=> .on ⟨[(7,V.v (.int .i64 ((j:Int)))),(6,V.v (.int .i64 ((l.length:Int)))),(5, .aL (some 0) (ints l))],[],[],[]⟩) N ?_ ?_]
   ·have h4:¬(400≤(N:Int)):=by omega
    simp [eT,h,hN,h1,aQ hN,sH,h4]
   ·simp
   ·intro j hj
    have hj':j<l.length:=by omega
    have hw:=bN (j+1) (by omega)
    have h4:¬(400≤(j:Int)):=by omega
    simp [hj',hw,aQ hj',sH,h2 j hj' hj,h4]
 ·rcases j4 iE (l.take 400)with h|⟨h,N,hN,h1,h2⟩
  ·obtain⟨N,hN⟩:∃N:Nat,N=400:=⟨_,rfl⟩
   rw [aD (fun j=> .on ⟨[(7,V.v (.int .i64 ((j:Int)))),(6,V.v (.int .i64 ((l.length:Int)))),(5, .aL (some 0) (ints l))],[],[],[]⟩) N ?_ ?_]
   ·have h5:N<l.length:=by omega
    have h6:400≤(N:Int):=by omega
    simp [eT,hn,h5,aQ h5,h6]
   ·simp
   ·intro j hj
    have hj':j<l.length:=by omega
    have hw:=bN (j+1) (by omega)
    have h3:iE l[j]=true:=by
     have:=List.all_eq_true.1 h ((l.take 400)[j]'(by simp;omega)) (List.getElem_mem _)
     simpa using this
    have h4:¬(400≤(j:Int)):=by omega
    simp [hj',hw,aQ hj',sH,h3,h4]
  ·have hN':N<400∧N<l.length:=by simp at hN;omega
   rw [aD (fun j=> .on ⟨[(7,V.v (.int .i64 ((j:Int)))),(6,V.v (.int .i64 ((l.length:Int)))),(5, .aL (some 0) (ints l))],[],[],[]⟩) N ?_ ?_]
   ·have h4:¬(400≤(N:Int)):=by omega
    have h5:iE l[N]=false:=by simpa using h1
    simp [eT,hn,hN'.2,h5,aQ hN'.2,sH,h4]
   ·simp
   ·intro j hj
    have hj':j<l.length:=by omega
    have hw:=bN (j+1) (by omega)
    have h4:¬(400≤(j:Int)):=by omega
    have h3:iE l[j]=true:=by
     have:=h2 j (by simp;omega) hj
     simpa using this
    simp [hj',hw,aQ hj',sH,h3,h4]
theorem DL (l:List Int)(hl:l.length≤1000000000):zZ [.aL (some 0) (ints l)] [] []=some ⟨V.v (.bool (eT l)),[],[]⟩:=by
 unfold zZ
 by_cases hn:l.length≤400
 ·have:(l.length:Int)≤400:=by omega
  cases h:l.all iE<;>simp [func215,f215,eT,hn,this,Ju l hl,h]
 ·have:¬(l.length:Int)≤400:=by omega
  simp [func215,f215,eT,hn,this]
theorem bQ (l:List Int)(a:Int)(hl:l.length≤1000000000):sF [.agg [.aL (some 0) (ints l),vI a]] [] []=some ⟨V.v (.bool (bV l a)),[],[]⟩:=by
 unfold sF
 cases h:eT l<;>simp [func41,f41,bV,qL l hl,dH,h]
theorem dF (l:List Int)(a:Int)(hl:l.length≤1000000000):nU [.agg [.aL (some 0) (ints l),vI a]] [] []=some ⟨V.v (.bool (bV l a)),[],[]⟩:=by
 unfold nU
 by_cases hn:l.length≤400
 ·have:(l.length:Int)≤400:=by omega
  cases h:l.all iE<;>by_cases h1:0≤a<;>by_cases h2:a≤(l.length:Int)<;>simp [func134,f134,bV,eT,iw,hn,this,Ju l hl,h,h1,h2]
 ·have:¬(l.length:Int)≤400:=by omega
  simp [func134,f134,bV,eT,hn,this]
theorem aJ (l:List Int)(a:Int):Af [.agg [.aL (some 0) (ints l),vI a]] [] []=some ⟨V.v (.bool (qK l a)),[],[]⟩:=by
 unfold Af
 by_cases h1:l.length=0<;>by_cases h2:a=0<;>simp [func138,f138,qK,h1,h2]
theorem bL (l:List Int)(a:Int):Bn [.agg [.aL (some 0) (ints l),vI a]] [] []=some ⟨V.v (.bool (qK l a)),[],[]⟩:=by
 unfold Bn
 by_cases h1:l.length=0<;>by_cases h2:a=0<;>simp [func47,f47,qK,h1,h2]
def atEnd (l:List Int)(a:Int):Bool:=decide (0<l.length)&&(a==(l.length:Int))
theorem wo (l:List Int)(a:Int):Cw [.agg [.aL (some 0) (ints l),vI a]] [] []=some ⟨V.v (.bool (atEnd l a)),[],[]⟩:=by
 unfold Cw
 by_cases h1:0<l.length<;>by_cases h2:a=(l.length:Int)<;>simp [func120,f120,atEnd,h1,h2]<;>omega
theorem Yl (l:List Int)(n:Int)(hl:l.length≤1000000000):Bt [.aL (some 0) (ints l),vI n] [] []=some ⟨V.v (.bool (!(l.all fun x=>x != n))),[],[]⟩:=by
 simp [Bt,func272,f272]
 rcases j4 (fun x=>x != n) l with h|⟨h,N,hN,h1,h2⟩
 ·rw [aD (fun j=> .on ⟨[(9,V.v (.int .i64 ((j:Int)))),(8,V.v (.int .i64 ((l.length:Int)))),(7, .aL (some 0) (ints l)),(1,V.v (.int .i64 n))],[],[],[]⟩) l.length ?_ ?_]
  ·simp only [h];simp
  ·simp
  ·intro j hj
   have hw:=bN (j+1) (by omega)
   have:=List.all_eq_true.1 h l[j] (List.getElem_mem hj)
   simp at this
   simp [hj,hw,aQ hj,this]
 ·rw [aD (fun j=> .on ⟨[(9,V.v (.int .i64 ((j:Int)))),(8,V.v (.int .i64 ((l.length:Int)))),(7, .aL (some 0) (ints l)),(1,V.v (.int .i64 n))],[],[],[]⟩) N ?_ ?_]
  ·simp only [h]
   simp at h1
   simp [hN,h1,aQ hN]
  ·simp
  ·intro j hj
   have hj':j<l.length:=by omega
   have hw:=bN (j+1) (by omega)
   have:=h2 j hj' hj
   simp at this
   simp [hj',hw,aQ hj',this]
set_option maxRecDepth 100000
def uZ (p:dL):Bool:=decide (0<p.av.length)&&eT p.av
def iJ (l:List dL):Bool:=l.all uZ&&decide (l.length≤6)
def E8 (x:fH):Bool:=bV x.av x.At
def jS (l:List fH):Bool:=l.all E8&&decide (l.length≤20)
theorem cK (l:List dL)(s:sG (aC l)=true):zh [.agg [.aL (some 0) (aC l)]] [] []=some ⟨V.v (.bool (iJ l)),[],[]⟩:=by
 have hb:l.length≤1000000000:=by simpa using l8 s
 have sm:∀j (h:j<l.length),l[j].av.length≤1000000000:=fun j h=>by
  have hs:=sM s (dZ h)
  simp only [oW,uO,Js,E5,Bool.and_true,Bool.true_and]at hs
  simpa using sQ hs
 simp [zh,func45,f45]
 rcases j4 uZ l with h|⟨h,N,hN,h1,h2⟩
 ·rw [aD (fun j=> .on ⟨[(8,V.v (.int .i64 ((j:Int)))),(7,V.v (.int .i64 ((l.length:Int)))),(6, .aL (some 0) (aC l)),(1, .ref 1 0)],[(1,[.aL (some 0) (aC l)])],[],[]⟩) l.length ?_ ?_]
  ·simp [iJ,h];omega
  ·simp
  ·intro j hj
   have hw:=bN (j+1) (by omega)
   have:=List.all_eq_true.1 h l[j] (List.getElem_mem hj)
   simp only [uZ,Bool.and_eq_true,decide_eq_true_eq]at this
   have h3:l[j].av≠ []:=fun e=>by simp [e]at this
   simp [hj,hw,dZ hj,qL _ (sm j hj),this.2,h3]
 ·rw [aD (fun j=> .on ⟨[(8,V.v (.int .i64 ((j:Int)))),(7,V.v (.int .i64 ((l.length:Int)))),(6, .aL (some 0) (aC l)),(1, .ref 1 0)],[(1,[.aL (some 0) (aC l)])],[],[]⟩) N ?_ ?_]
  ·by_cases h3:l[N].av= []
   ·simp [hN,dZ hN,h3,iJ,h]
   ·have h4:eT l[N].av=false:=by
     simp only [uZ]at h1
     have h5:0<l[N].av.length:=List.length_pos_iff.2 h3
     simpa [h5] using h1
    simp [hN,dZ hN,qL _ (sm N hN),h4,h3,iJ,h]
  ·simp
  ·intro j hj
   have hj':j<l.length:=by omega
   have hw:=bN (j+1) (by omega)
   have:=h2 j hj' hj
   simp only [uZ,Bool.and_eq_true,decide_eq_true_eq]at this
   have h3:l[j].av≠ []:=fun e=>by simp [e]at this
   simp [hj',hw,dZ hj',qL _ (sm j hj'),this.2,h3]
theorem dI (l:List dL)(s:sG (aC l)=true):wK [.agg [.aL (some 0) (aC l)]] [] []=some ⟨V.v (.bool (iJ l)),[],[]⟩:=by
 have hb:l.length≤1000000000:=by simpa using l8 s
 have sm:∀j (h:j<l.length),l[j].av.length≤1000000000:=fun j h=>by
  have hs:=sM s (dZ h)
  simp only [oW,uO,Js,E5,Bool.and_true,Bool.true_and]at hs
  simpa using sQ hs
 simp [wK,func136,f136]
 rcases j4 uZ l with h|⟨h,N,hN,h1,h2⟩
 ·rw [aD (fun j=> .on ⟨[(8,V.v (.int .i64 ((j:Int)))),(7,V.v (.int .i64 ((l.length:Int)))),(6, .aL (some 0) (aC l)),(1, .ref 1 0)],[(1,[.aL (some 0) (aC l)])],[],[]⟩) l.length ?_ ?_]
  ·simp [iJ,h];omega
  ·simp
  ·intro j hj
   have hw:=bN (j+1) (by omega)
   have:=List.all_eq_true.1 h l[j] (List.getElem_mem hj)
   simp only [uZ,Bool.and_eq_true,decide_eq_true_eq]at this
   have h3:l[j].av≠ []:=fun e=>by simp [e]at this
   simp [hj,hw,dZ hj,DL _ (sm j hj),this.2,h3]
 ·rw [aD (fun j=> .on ⟨[(8,V.v (.int .i64 ((j:Int)))),(7,V.v (.int .i64 ((l.length:Int)))),(6, .aL (some 0) (aC l)),(1, .ref 1 0)],[(1,[.aL (some 0) (aC l)])],[],[]⟩) N ?_ ?_]
  ·by_cases h3:l[N].av= []
   ·simp [hN,dZ hN,h3,iJ,h]
   ·have h4:eT l[N].av=false:=by
     simp only [uZ]at h1
     have h5:0<l[N].av.length:=List.length_pos_iff.2 h3
     simpa [h5] using h1
    simp [hN,dZ hN,DL _ (sm N hN),h4,h3,iJ,h]
  ·simp
  ·intro j hj
   have hj':j<l.length:=by omega
   have hw:=bN (j+1) (by omega)
   have:=h2 j hj' hj
   simp only [uZ,Bool.and_eq_true,decide_eq_true_eq]at this
   have h3:l[j].av≠ []:=fun e=>by simp [e]at this
   simp [hj',hw,dZ hj',DL _ (sm j hj'),this.2,h3]
theorem cO (l:List fH)(s:sG (aG l)=true):BO [.agg [.aL (some 0) (aG l)]] [] []=some ⟨V.v (.bool (jS l)),[],[]⟩:=by
 have hb:l.length≤1000000000:=by simpa using l8 s
 have sm:∀j (h:j<l.length),l[j].av.length≤1000000000:=fun j h=>by
  have hs:=sM s (dX h)
  simp only [oW,uO,Js,E5,Bool.and_true,Bool.true_and]at hs
  simpa using sQ hs
 simp [BO,func46,f46]
 rcases j4 E8 l with h|⟨h,N,hN,h1,h2⟩
 ·rw [aD (fun j=> .on ⟨[(8,V.v (.int .i64 ((j:Int)))),(7,V.v (.int .i64 ((l.length:Int)))),(6, .aL (some 0) (aG l)),(1, .ref 1 0)],[(1,[.aL (some 0) (aG l)])],[],[]⟩) l.length ?_ ?_]
  ·simp [jS,h];omega
  ·simp
  ·intro j hj
   have hw:=bN (j+1) (by omega)
   have:=List.all_eq_true.1 h l[j] (List.getElem_mem hj)
   simp only [E8]at this
   simp [hj,hw,dX hj,bQ _ _ (sm j hj),this]
 ·rw [aD (fun j=> .on ⟨[(8,V.v (.int .i64 ((j:Int)))),(7,V.v (.int .i64 ((l.length:Int)))),(6, .aL (some 0) (aG l)),(1, .ref 1 0)],[(1,[.aL (some 0) (aG l)])],[],[]⟩) N ?_ ?_]
  ·simp only [E8]at h1
   simp [hN,dX hN,bQ _ _ (sm N hN),h1,jS,h]
  ·simp
  ·intro j hj
   have hj':j<l.length:=by omega
   have hw:=bN (j+1) (by omega)
   have:=h2 j hj' hj
   simp only [E8]at this
   simp [hj',hw,dX hj',bQ _ _ (sm j hj'),this]
theorem dM (l:List fH)(s:sG (aG l)=true):wL [.agg [.aL (some 0) (aG l)]] [] []=some ⟨V.v (.bool (jS l)),[],[]⟩:=by
 have hb:l.length≤1000000000:=by simpa using l8 s
 have sm:∀j (h:j<l.length),l[j].av.length≤1000000000:=fun j h=>by
  have hs:=sM s (dX h)
  simp only [oW,uO,Js,E5,Bool.and_true,Bool.true_and]at hs
  simpa using sQ hs
 simp [wL,func137,f137]
 rcases j4 E8 l with h|⟨h,N,hN,h1,h2⟩
 ·rw [aD (fun j=> .on ⟨[(8,V.v (.int .i64 ((j:Int)))),(7,V.v (.int .i64 ((l.length:Int)))),(6, .aL (some 0) (aG l)),(1, .ref 1 0)],[(1,[.aL (some 0) (aG l)])],[],[]⟩) l.length ?_ ?_]
  ·simp [jS,h];omega
  ·simp
  ·intro j hj
   have hw:=bN (j+1) (by omega)
   have:=List.all_eq_true.1 h l[j] (List.getElem_mem hj)
   simp only [E8]at this
   simp [hj,hw,dX hj,dF _ _ (sm j hj),this]
 ·rw [aD (fun j=> .on ⟨[(8,V.v (.int .i64 ((j:Int)))),(7,V.v (.int .i64 ((l.length:Int)))),(6, .aL (some 0) (aG l)),(1, .ref 1 0)],[(1,[.aL (some 0) (aG l)])],[],[]⟩) N ?_ ?_]
  ·simp only [E8]at h1
   simp [hN,dX hN,dF _ _ (sm N hN),h1,jS,h]
  ·simp
  ·intro j hj
   have hj':j<l.length:=by omega
   have hw:=bN (j+1) (by omega)
   have:=h2 j hj' hj
   simp only [E8]at this
   simp [hj',hw,dX hj',dF _ _ (sm j hj'),this]
def opC (n:Int):Bool:=n==100||n==99||n==121
def yh (n:Int):Bool:=n==102||n==70||n==116||n==84||n==114
def fQ (vi:Bool)(mode:Int)(lt:List Int)(la op zD wt:Int):Bool:=
 ((mode==0&& !vi)||((mode==1||mode==2)&&vi)||mode==3)&&(!(mode==2&&atEnd lt la)&&((mode==2||(op==0&&wt==0&&zD==0))&&((op != 0||zD==0)&&((op==0||opC op)&&(wt==0||yh wt)))))
def gy (mode:Int)(q:List Int)(hit:Int)(bt:List Int)(ba:Int):Bool:=mode==3||(decide (q.length=0)&&(hit==0)&&qK bt ba)
theorem Ej (r:Int):vS [vI r,V.v (.string (⟨#[100,99,121]⟩))] [] []=some ⟨V.v (.bool (opC r)),[],[]⟩:=by
 unfold opC
 unfold vS
 obtain⟨S,hS⟩:∃S:ByteArray,S=⟨#[100,99,121]⟩:=⟨_,rfl⟩
 have h0:S.size=3:=by rw [hS];rfl
 have ht:S.toList= [100,99,121]:=by rw [hS,ByteArray.toList_eq]
 have w1:=bN 100 (by omega)
 have w2:=bN 99 (by omega)
 have w3:=bN 121 (by omega)
 rw [←hS]
 simp [func121,f121]
 by_cases h1:100=r
 ·subst h1;rw [bO];simp [w1,w2,w3,h0,ht]
 by_cases h2:99=r
 ·subst h2;rw [bO];simp [w1,w2,w3,h0,ht];rw [bO];simp [w1,w2,w3,h0,ht]
 by_cases h3:121=r
 ·subst h3;rw [bO];simp [w1,w2,w3,h0,ht];rw [bO];simp [w1,w2,w3,h0,ht];rw [bO];simp [w1,w2,w3,h0,ht]
 have k1:¬r=100:=fun e=>h1 e.symm
 have k2:¬r=99:=fun e=>h2 e.symm
 have k3:¬r=121:=fun e=>h3 e.symm
 rw [bO];simp [w1,w2,w3,h0,ht,h1];rw [bO];simp [w1,w2,w3,h0,ht,h2];rw [bO];simp [w1,w2,w3,h0,ht,h3];rw [bO];simp [w1,w2,w3,h0,ht,k1,k2,k3]
theorem Hw (r:Int):vS [vI r,V.v (.string (⟨#[102,70,116,84,114]⟩))] [] []=some ⟨V.v (.bool (yh r)),[],[]⟩:=by
 unfold yh
 unfold vS
 obtain⟨S,hS⟩:∃S:ByteArray,S=⟨#[102,70,116,84,114]⟩:=⟨_,rfl⟩
 have h0:S.size=5:=by rw [hS];rfl
 have ht:S.toList= [102,70,116,84,114]:=by rw [hS,ByteArray.toList_eq]
 have w1:=bN 102 (by omega)
 have w2:=bN 70 (by omega)
 have w3:=bN 116 (by omega)
 have w4:=bN 84 (by omega)
 have w5:=bN 114 (by omega)
 rw [←hS]
 simp [func121,f121]
 by_cases h1:102=r
 ·subst h1;rw [bO];simp [w1,w2,w3,w4,w5,h0,ht]
 by_cases h2:70=r
 ·subst h2;rw [bO];simp [w1,w2,w3,w4,w5,h0,ht];rw [bO];simp [w1,w2,w3,w4,w5,h0,ht]
 by_cases h3:116=r
 ·subst h3;rw [bO];simp [w1,w2,w3,w4,w5,h0,ht];rw [bO];simp [w1,w2,w3,w4,w5,h0,ht];rw [bO];simp [w1,w2,w3,w4,w5,h0,ht]
 by_cases h4:84=r
 ·subst h4;rw [bO];simp [w1,w2,w3,w4,w5,h0,ht];rw [bO];simp [w1,w2,w3,w4,w5,h0,ht];rw [bO];simp [w1,w2,w3,w4,w5,h0,ht];rw [bO];simp [w1,w2,w3,w4,w5,h0,ht]
 by_cases h5:114=r
 ·subst h5;rw [bO];simp [w1,w2,w3,w4,w5,h0,ht];rw [bO];simp [w1,w2,w3,w4,w5,h0,ht];rw [bO];simp [w1,w2,w3,w4,w5,h0,ht];rw [bO];simp [w1,w2,w3,w4,w5,h0,ht];rw [bO];simp [w1,w2,w3,w4,w5,h0,ht]
 have k1:¬r=102:=fun e=>h1 e.symm
 have k2:¬r=70:=fun e=>h2 e.symm
 have k3:¬r=116:=fun e=>h3 e.symm
 have k4:¬r=84:=fun e=>h4 e.symm
 have k5:¬r=114:=fun e=>h5 e.symm
 rw [bO];simp [w1,w2,w3,w4,w5,h0,ht,h1];rw [bO];simp [w1,w2,w3,w4,w5,h0,ht,h2];rw [bO];simp [w1,w2,w3,w4,w5,h0,ht,h3];rw [bO];simp [w1,w2,w3,w4,w5,h0,ht,h4];rw [bO];simp [w1,w2,w3,w4,w5,h0,ht,h5];rw [bO];simp [w1,w2,w3,w4,w5,h0,ht,k1,k2,k3,k4,k5]
theorem QD (l:List Int)(n:Int)(hl:l.length≤1000000000):wU [vI n, .aL (some 0) (ints l)] [] []=some ⟨V.v (.bool (!(l.all fun x=>x != n))),[],[]⟩:=by
 simp [wU,func214,f214,Yl l n hl]
theorem aU (n:Int):wU [vI n, .aL (some 0) [[D.a (.int .i64 0)],[D.a (.int .i64 100)],[D.a (.int .i64 99)],[D.a (.int .i64 121)]]] [] []=some ⟨V.v (.bool (n==0||opC n)),[],[]⟩:=by
 have:=QD [0,100,99,121] n (by simp)
 rw [show ints [0,100,99,121]= [[D.a (.int .i64 0)],[D.a (.int .i64 100)],[D.a (.int .i64 99)],[D.a (.int .i64 121)]]from rfl]at this
 rw [this]
 congr 4
 simp only [opC]
 rw [Bool.eq_iff_iff]
 simp
 omega
theorem aO (n:Int):wU [vI n, .aL (some 0) [[D.a (.int .i64 0)],[D.a (.int .i64 102)],[D.a (.int .i64 70)],[D.a (.int .i64 116)],[D.a (.int .i64 84)],[D.a (.int .i64 114)]]] [] []=some ⟨V.v (.bool (n==0||yh n)),[],[]⟩:=by
 have:=QD [0,102,70,116,84,114] n (by simp)
 rw [show ints [0,102,70,116,84,114]= [[D.a (.int .i64 0)],[D.a (.int .i64 102)],[D.a (.int .i64 70)],[D.a (.int .i64 116)],[D.a (.int .i64 84)],[D.a (.int .i64 114)]]from rfl]at this
 rw [this]
 congr 4
 simp only [yh]
 rw [Bool.eq_iff_iff]
 simp
 omega
theorem dA (vi:Bool)(mode:Int)(lt:List Int)(la cnt op zD wt fr fh last:Int)(rp:List dL)(ul:List fH)(A8:Int)(ot:List Int)(oa:Int)(q:List Int)(hit:Int)(bt:List Int)(ba:Int):Kq [.agg [V.v (.bool vi),vI mode, .aL (some 0) (ints lt),vI la,vI cnt,vI op,vI zD,vI wt,vI fr,vI fh,vI last, .aL (some 1) (aC rp), .aL (some 2) (aG ul),vI A8, .aL (some 3) (ints ot),vI oa, .aL (some 4) (ints q),vI hit, .aL (some 5) (ints bt),vI ba]] [] []=some ⟨V.v (.bool (fQ vi mode lt la op zD wt)),[],[]⟩:=by
 unfold Kq
 by_cases m2:mode=2
 ·subst m2
  cases vi
  ·simp [func43,f43,fQ]
  cases hA:atEnd lt la
  rotate_left
  ·simp [func43,f43,fQ,wo,hA]
  by_cases o0:op=0
  ·subst o0
   by_cases c0:zD=0
   ·subst c0
    by_cases w0:wt=0
    ·subst w0;simp [func43,f43,fQ,wo,hA]
    ·cases hW:yh wt<;>simp [func43,f43,fQ,wo,hA,w0,Hw,hW]
   ·simp [func43,f43,fQ,wo,hA,c0]
  ·by_cases w0:wt=0
   ·subst w0;cases hO:opC op<;>simp [func43,f43,fQ,wo,hA,o0,Ej,hO]
   ·cases hO:opC op<;>cases hW:yh wt<;>simp [func43,f43,fQ,wo,hA,o0,w0,Ej,Hw,hO,hW]
 by_cases ok:(mode=0∧vi=false)∨(mode=1∧vi=true)∨mode=3
 ·rcases Classical.em (op=0∧wt=0∧zD=0)with⟨rfl,rfl,rfl⟩|hn
  ·rcases ok with⟨rfl,rfl⟩|⟨rfl,rfl⟩|rfl<;>simp [func43,f43,fQ]
  ·by_cases o0:op=0
   ·subst o0
    by_cases w0:wt=0
    ·subst w0
     have c0:¬zD=0:=fun e=>hn ⟨rfl,rfl,e⟩
     rcases ok with⟨rfl,rfl⟩|⟨rfl,rfl⟩|rfl<;>simp [func43,f43,fQ,c0]
    ·rcases ok with⟨rfl,rfl⟩|⟨rfl,rfl⟩|rfl<;>simp [func43,f43,fQ,w0]
   ·rcases ok with⟨rfl,rfl⟩|⟨rfl,rfl⟩|rfl<;>simp [func43,f43,fQ,o0]
 ·by_cases m0:mode=0
  ·subst m0
   cases vi
   ·exact absurd (.inl ⟨rfl,rfl⟩) ok
   ·simp [func43,f43,fQ]
  ·by_cases m1:mode=1
   ·subst m1
    cases vi
    ·simp [func43,f43,fQ]
    ·exact absurd (.inr (.inl ⟨rfl,rfl⟩)) ok
   ·have m3:¬mode=3:=fun e=>ok (.inr (.inr e))
    simp [func43,f43,fQ,m0,m1,m2,m3]
theorem NH (a b:List Int)(i j k:Option Nat)(h:a.length+b.length≤2000):nC [.aL i (ints a), .aL j (ints b), .aL k []] [] []=some ⟨.own 0,[],[(0,ints (a++b))]⟩:=by
 have g1:a.length*8≤140737488355328:=by omega
 have g2:a.length≤4611686018427387904:=by omega
 have g3:(a.length+b.length)*8≤140737488355328:=by omega
 have g4:a.length+b.length≤4611686018427387904:=by omega
 have g5:wid 1 (ints a++ints b)=true:=by rw [←ak];exact ahs _
 simp [nC,func113,f113,g1,g2,g3,g4,g5]
theorem lT (l:List Int)(i:Option Nat)(a:Int)(h:l.length≤2000):lM [.agg [.aL i (ints l),vI a]] [] []=some ⟨.agg [.own 0,vI a],[],[(0,ints l)]⟩:=by
 have g1:l.length*8≤140737488355328:=by omega
 have g2:l.length≤4611686018427387904:=by omega
 simp [lM,func115,f115,g1,g2]
theorem Mi (l:List dL)(i:Option Nat)(h:l.length≤1000)(hp:∀p∈l,p.av.length≤2000):yY [.agg [.aL i (aC l)]] [] []=some ⟨.agg [.own 0],[],[(0,aC l)]⟩:=by
 simp [yY,func139,f139]
 rw [aD (fun k=> .on ⟨[(10,V.v (.int .i64 ((k:Int)))),(9,V.v (.int .i64 ((l.length:Int)))),(8, .aL i (aC l)),(3, .ref 3 0),(2, .ref 2 0)],[(3,[.own 2000000000]),(2,[.own 2000000001])],[(2000000001,[]),(2000000000,aC (l.take k))],[]⟩) l.length ?_ ?_]
 ·simp
 ·simp [show aC []= []from rfl]
 ·intro k hk
  have hw:=bN ((k:Int)+1) (by omega)
  have hq:=hp l[k] (List.getElem_mem hk)
  have g1:l[k].av.length*8≤140737488355328:=by omega
  have g2:l[k].av.length≤4611686018427387904:=by omega
  have g3:min k l.length=k:=by omega
  have g4:(k+1)*24≤140737488355328:=by omega
  have g5:k≤4611686018427387903:=by omega
  have g6:aC (l.take (k+1))=aC (l.take k)++ [[.l (ints l[k].av)]]:=by rw [FH,←List.take_succ_eq_append_getElem hk]
  simp [hk,hw,g1,g2,g3,g4,g5,g6]
theorem Tw (l:List dL)(h:iJ l=true):wK [.agg [.aL (some 0) (aC l)]] [] []=some ⟨V.v (.bool true),[],[]⟩:=by
 have hs:sG (aC l)=true:=by
  simp only [iJ,Bool.and_eq_true,decide_eq_true_eq]at h
  refine Pj (by simp;omega) fun j r e=>?_
  have hj:j<l.length:=by have:=(List.getElem?_eq_some_iff.1 e).1;simpa using this
  rw [dZ hj]at e
  injection e with e;subst e
  have:=List.all_eq_true.1 h.1 l[j] (List.getElem_mem hj)
  simp only [uZ,eT,Bool.and_eq_true,decide_eq_true_eq]at this
  simp only [oW,uO,E5,Bool.and_true]
  exact kQ (by omega)
 rw [dI l hs,h]
theorem wu (t:List Int)(a:Int)(h:bV t a=true):nU [.agg [.aL (some 0) (ints t),vI a]] [] []=some ⟨V.v (.bool true),[],[]⟩:=by
 have hl:t.length≤400:=by simp only [bV,eT,Bool.and_eq_true,decide_eq_true_eq]at h;exact h.1.1
 rw [dF t a (by omega),h]
end Go.Proofs.YtlpdjhiggpblcaaGreat
