/- What the program's functions do to values. -/
import Derived.Test.YtnaehggpjfdenaaGreatOk
import Derived.Test.YtnaehggpjfdenaaGreatLay
import Derived.Test.YtnaehggpjfdenaaGreatLayJ
import Derived.Test.YtnaehggpjfdenaaGreatLayK
import Derived.Test.YtnaehggpjfdenaaGreatAbsST
import Derived.Test.YtnaehggpjfdenaaGreatAbsSI
import Derived.Test.YtnaehggpjfdenaaGreatAbsCI
import Derived.Test.YtnaehggpjfdenaaGreatGoShp
import Derived.Test.YtnaehggpjfdenaaGreatGoShpD
set_option linter.unusedVariables false
set_option linter.unusedSimpArgs false
namespace Go.Proofs.YtnaehggpjfdenaaGreat
open Go.Abs
theorem mix:Tryz.prog.follows .mixedOrders=true:=by rfl
theorem own:ownKnob Tryz.prog.godebug=none:=by kernel_rfl
theorem laid:laidOutB Tryz.prog=true:=by kernel_rfl
theorem k_Sort:Wn Tryz.prog 150 2:=I1 Qhk Tryz.isAgg199 Tryz.sizeOf199
theorem k_SortP:Wn Tryz.prog 52 2:=I1 sortPtL Tryz.isAgg90 Tryz.sizeOf90
theorem Qms:Wn Tryz.prog 86 5:=I1 sortREL Tryz.isAgg136 Tryz.sizeOf136
theorem k_SortS:Wn Tryz.prog 91 2:=I1 sortStL Tryz.isAgg144 Tryz.sizeOf144
theorem k_SortR:Wn Tryz.prog 136 2:=I1 Ql3 Tryz.isAgg73 Tryz.sizeOf73
theorem Qg2:Q97 Tryz.prog 116:=Ql5 Ql4
theorem k_CompI:Qfb Tryz.prog 117:=Qom compIL
theorem Iu:U8 Tryz.prog 108:=Q4l mix Q53
theorem Wa:Ew Tryz.prog 71:=Q73 mix Q7u Iu
theorem Xs:Jo Tryz.prog 47:=Q5j mix Q5h Wa
theorem Q3x:B9 Tryz.prog 48:=Q23 mix Q21 Xs
theorem Q85:B8 Tryz.prog 206:=Q72 mix Ie Iu
theorem Qme:Q98 Tryz.prog 206:=Q4m mix Ie Iu
theorem k_Sub:Qp8 Tryz.prog 154:=Qcl mix Qdi Wa
theorem k_coll:Qqg Tryz.prog 111:=Bd mix Bw Wa k_Sub (Q4n mix Ig Qme)
theorem k_deg:DegC Tryz.prog 74:=Uw mix E7 Q3x k_coll
theorem k_edges:Ey Tryz.prog 152:=Ku mix Q1z
theorem k_coh:CohC Tryz.prog 110:=E4 mix Ea k_edges
theorem Qdw:Q0t Tryz.prog 73:=E6 mix Eb Xs k_coh
theorem Qb6:Ey Tryz.prog 155:=Q4q mix Q56
theorem Qik:Q4g Tryz.prog 148:=Q18 mix Q1n Xs Qb6
theorem k_rev:RevC Tryz.prog 149:=Q17 mix Q1m
theorem k_und:UndC Tryz.prog 156:=Ux mix E8
theorem k_NaN:NaNC Tryz.prog 217:=Qn2 mix Q05
theorem k_Cmp:CmpC Tryz.prog 163:=Qfa mix Ed k_NaN
theorem k_Or:OrC Tryz.prog 205:=Or_ok mix Q5i
theorem k_order:Qf7 Tryz.prog 151:=Q4p mix Q55 k_Cmp k_Or
theorem Qdx:Q0v Tryz.prog 109:=Bg mix Bx Qik k_rev k_Sort k_order (by kernel_rfl)
theorem Qmx:Q9n Tryz.prog 72:=Q2o mix Q3d Xs Qdx
theorem Qmu:Q9a Tryz.prog 112:=Q2n mix Q3c Xs Qb6 k_und Qg2
theorem k_Det:DetC Tryz.prog 157:=Qcn mix Qdk Q85 (Q74 mix Ig Q85) (Qcm mix Qdj Q85 Iu)
theorem k_Vol:VolC Tryz.prog 113:=Q22 mix Q20 Xs k_Det
theorem k_inv:InvC Tryz.prog 75:=Uz mix E9 Qmu k_Vol
theorem k_Chk:ChkC Tryz.prog 43:=Q1c mix Q1r Xs Qmx Qdw k_deg k_inv
theorem k_Round:Qf3 Tryz.prog 168:=Q81 mix Q7z (Kj mix Ki)
theorem k_Point:Qf5 Tryz.prog 82:=Bn mix Q00 Wa (Bm mix Bz k_Round)
theorem k_Cut:SecC Tryz.prog 30:=Q30 mix Q3j Xs Q3x (Q2z mix Q3i k_Point)
theorem Qmk:Q9f Tryz.prog 50:=Q1k mix Q1y
theorem k_Bald:Qqj Tryz.prog 51:=Uk mix Ug
theorem Qmi:Q9e Tryz.prog 53:=B0 mix Ik
theorem k_take:Q96 Tryz.prog 85:=Q25 mix W7
theorem Qim:Q4h Tryz.prog 54:=Ep mix K4 k_take
theorem k_Chain:Qfd Tryz.prog 31:=Q0h mix Q04 Qmk k_Bald k_SortP Qmi (by kernel_rfl) Qim
theorem Qg1:Q9i Tryz.prog 135:=Q7l mix Q7w
theorem k_norm1:Qqh Tryz.prog 137:=Q33 mix Q3k
theorem k_join:Qf8 Tryz.prog 138:=Q7k mix Q7v
theorem k_Norm:Qpw Tryz.prog 93:=Q7m mix Q7x Qg1 k_SortR k_norm1 (by kernel_rfl) k_join
theorem Qmr:CenC Tryz.prog 89:=Bt mix Q02
theorem k_cross:Q9m Tryz.prog 90:=Q1i mix W6 (Kj mix Ki)
theorem Qmp:Qps Tryz.prog 87:=I9 mix Ij
theorem k_row1:Qpr Tryz.prog 92:=Q1g mix Q1v
theorem Qmh:Q9p Tryz.prog 55:=Q1j mix Q1x
theorem Qmg:Q9j Tryz.prog 56:=Q1h mix Q1w Qms Qmp (by kernel_rfl)
theorem k_row:Qph Tryz.prog 58:=Q52 mix Q5g Qmr k_cross k_SortS k_row1 (by kernel_rfl) k_Norm
theorem k_rows:Qpg Tryz.prog 57:=Q37 mix Q3l (Kj mix Ki)
theorem Qmw:Q9c Tryz.prog 32:=Bu mix Q03 Qmh Qmg k_rows k_row
theorem Qmv:Qf1 Tryz.prog 20:=Q51 mix Q5f
theorem k_orB:OrBC Tryz.prog 121:=Q1b mix Q1q (by kernel_rfl)
theorem Q0y:U9 Tryz.prog 159:=Q4w mix Q5a Qg1
theorem Qml:Qgm Tryz.prog 164:=Q7i mix Ue
theorem k_odd:OddC Tryz.prog 167:=Q32 mix Kx
theorem Qmm:NxbC Tryz.prog 165:=Q7j mix Uf Qml k_odd
theorem k_pass:Qpq Tryz.prog 166:=Q7h mix Ud Qmm
theorem k_sweep:Qew Tryz.prog 120:=Q4v mix Zy Q0y Qml Qmm k_pass k_odd
theorem k_rUni:Q2e Tryz.prog 78:=Q4x mix Q5b k_sweep k_orB
theorem k_okc:OkCC Tryz.prog 158:=Q7p mix Q7y
theorem Qmf:Q2f Tryz.prog 162:=Q1d mix Q1s k_Cmp (by kernel_rfl)
theorem k_bs:BsC Tryz.prog 161:=Jp mix Zm
theorem Qij:Qpi Tryz.prog 118:=Q4y mix Q5c k_bs Qmf
theorem Qmn:Q9d Tryz.prog 115:=Q1e mix Q1t k_okc Q0y
theorem Qmq:Q9o Tryz.prog 119:=Bj mix Yv
theorem Qin:Q4i Tryz.prog 77:=I8 mix Ii Qmn Qg2 k_CompI Qij Qmq
theorem Qmo:UniC Tryz.prog 45:=Q1f mix Q1u Qin (by kernel_rfl) k_rUni
theorem Qdv:Q13 Tryz.prog 25:=Um mix Q58
theorem k_reven:Q13 Tryz.prog 29:=Q4z mix Q5d
theorem k_hgt:Qcf Tryz.prog 15:=Bi mix By Qdv
theorem k_rhgt:Qcf Tryz.prog 16:=Bs mix Q01 k_reven
theorem k_mnmx:Qpy Tryz.prog 114:=Q14 mix Q1l (by kernel_rfl)
theorem k_bnds:Q4j Tryz.prog 76:=Q4o mix Q54 k_mnmx
theorem k_mbox:Qpz Tryz.prog 44:=Qb3 mix Qax Xs k_bnds
theorem k_SameL:Qf2 Tryz.prog 14:=Q50 mix Q5e Qmv
theorem k_Slice:Qex Tryz.prog 18:=Q2s mix Q3e Qdv k_Cut k_Chain Qmw
theorem k_part:Qf6 Tryz.prog 26:=Q4r mix Q57 k_Chk k_mbox k_hgt k_Slice
theorem Qmd:Qp4 Tryz.prog 27:=Q19 mix Q1o Qmo
theorem Qmt:Q99 Tryz.prog 11:=Q1a mix Q1p Qdv k_part Qmd
theorem k_fits:Qf9 Tryz.prog 37:=Q2x mix Q3h Wa
theorem k_near:Qpx Tryz.prog 38:=Q2w mix Q3g
theorem Qmj:Qgl Tryz.prog 39:=Q2v mix Q3f
theorem Qil:Q0s Tryz.prog 40:=I5 mix Ih Qmj
theorem Qmy:Qfc Tryz.prog 41 3:=Bl mix Yu
theorem k_BoxS:BoxC Tryz.prog 22:=Q4t mix Q59 k_fits k_near Qmj Qil Qmy
theorem k_rect:Qpj Tryz.prog 23:=Ei mix Ec
theorem awake_ok:Qfe Tryz.prog 10:=Q3t mix Q3m k_hgt k_BoxS Qmt k_rect k_SameL
end Go.Proofs.YtnaehggpjfdenaaGreat
