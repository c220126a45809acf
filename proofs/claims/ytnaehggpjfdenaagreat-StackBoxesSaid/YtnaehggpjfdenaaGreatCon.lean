/- What the program's functions do to values. -/
import Derived.Test.YtnaehggpjfdenaaGreatOk
import Derived.Test.YtnaehggpjfdenaaGreatLay
import Derived.Test.YtnaehggpjfdenaaGreatLayJ
import Derived.Test.YtnaehggpjfdenaaGreatLayK
import Derived.Test.YtnaehggpjfdenaaGreatAbsST
import Derived.Test.YtnaehggpjfdenaaGreatAbsSI
import Derived.Test.YtnaehggpjfdenaaGreatAbsCI
import Derived.Test.YtnaehggpjfdenaaGreatGoRw
set_option linter.unusedVariables false
set_option linter.unusedSimpArgs false
namespace Go.Proofs.YtnaehggpjfdenaaGreat
open Go.Abs
theorem mix:Tryz.prog.follows .mixedOrders=true:=by rfl
theorem own:ownKnob Tryz.prog.godebug=none:=by kernel_rfl
theorem laid:laidOutB Tryz.prog=true:=by kernel_rfl
theorem k_Sort:Wt Tryz.prog 150 2:=I4 Qho Tryz.isAgg199 Tryz.sizeOf199
theorem k_SortP:Wt Tryz.prog 52 2:=I4 sortPtL Tryz.isAgg90 Tryz.sizeOf90
theorem Qmv:Wt Tryz.prog 86 5:=I4 sortREL Tryz.isAgg136 Tryz.sizeOf136
theorem k_SortS:Wt Tryz.prog 91 2:=I4 sortStL Tryz.isAgg144 Tryz.sizeOf144
theorem k_SortR:Wt Tryz.prog 136 2:=I4 Ql7 Tryz.isAgg73 Tryz.sizeOf73
theorem Qg5:Q9a Tryz.prog 116:=Ql9 Ql8
theorem k_CompI:Qfd Tryz.prog 117:=Qon compIL
theorem Ix:Ue Tryz.prog 108:=Q4p mix Q57
theorem We:I0 Tryz.prog 71:=Q78 mix Q7y Ix
theorem Xw:Js Tryz.prog 47:=Q5m mix Q5k We
theorem Q3y:Bd Tryz.prog 48:=Q24 mix Q22 Xw
theorem Q89:Bb Tryz.prog 206:=Q77 mix Ii Ix
theorem Qmh:Q9b Tryz.prog 206:=Q4q mix Ii Ix
theorem k_Sub:Qp9 Tryz.prog 154:=Qcp mix Qdm We
theorem k_coll:Qqg Tryz.prog 111:=Bh mix Bz We k_Sub (Q4r mix Ij Qmh)
theorem k_deg:DegC Tryz.prog 74:=E3 mix Ec Q3y k_coll
theorem k_edges:I1 Tryz.prog 152:=Kz mix Q20
theorem k_coh:CohC Tryz.prog 110:=Ea mix Ef k_edges
theorem Qe0:Q0u Tryz.prog 73:=Eb mix Eh Xw k_coh
theorem Qb8:I1 Tryz.prog 155:=Q4u mix Q5a
theorem Qio:Q4j Tryz.prog 148:=Q19 mix Q1o Xw Qb8
theorem k_rev:RevC Tryz.prog 149:=Q18 mix Q1n
theorem k_und:UndC Tryz.prog 156:=E4 mix Ed
theorem k_NaN:NaNC Tryz.prog 217:=Qn3 mix Q07
theorem k_Cmp:CmpC Tryz.prog 163:=Qfc mix Ej k_NaN
theorem k_Or:OrC Tryz.prog 205:=Or_ok mix Q5l
theorem k_order:Qf9 Tryz.prog 151:=Q4t mix Q59 k_Cmp k_Or
theorem Qe1:Q0w Tryz.prog 109:=Bl mix Q00 Qio k_rev k_Sort k_order (by kernel_rfl)
theorem Qmy:Q9p Tryz.prog 72:=Q2r mix Q3g Xw Qe1
theorem Qmw:Q9c Tryz.prog 112:=Q2q mix Q3f Xw Qb8 k_und Qg5
theorem k_Det:DetC Tryz.prog 157:=Qcr mix Qdo Q89 (Q79 mix Ij Q89) (Qcq mix Qdn Q89 Ix)
theorem k_Vol:VolC Tryz.prog 113:=Q23 mix Q21 Xw k_Det
theorem k_inv:InvC Tryz.prog 75:=E7 mix Ee Qmw k_Vol
theorem k_Chk:ChkC Tryz.prog 43:=Q1d mix Q1s Xw Qmy Qe0 k_deg k_inv
theorem k_Round:Qf5 Tryz.prog 168:=Q85 mix Q83 (Ko mix Kn)
theorem k_Point:Qf7 Tryz.prog 82:=Br mix Q03 We (Bq mix Q02 k_Round)
theorem k_Cut:SecC Tryz.prog 30:=Q33 mix Q3m Xw Q3y (Q32 mix Q3l k_Point)
theorem Qmn:Q9h Tryz.prog 50:=Q1l mix Q1z
theorem k_Bald:Qql Tryz.prog 51:=Uq mix Um
theorem Qml:Q9g Tryz.prog 53:=B4 mix Io
theorem k_take:Q99 Tryz.prog 85:=Q27 mix Wb
theorem Qiq:Q4k Tryz.prog 54:=Et mix Ka k_take
theorem k_Chain:Qff Tryz.prog 31:=Q0i mix Q06 Qmn k_Bald k_SortP Qml (by kernel_rfl) Qiq
theorem Qg4:Q9k Tryz.prog 135:=Q7q mix Q80
theorem k_norm1:Qqh Tryz.prog 137:=Q36 mix Q3n
theorem k_join:Qfa Tryz.prog 138:=Q7p mix Q7z
theorem k_Norm:Qpw Tryz.prog 93:=Q7r mix Q81 Qg4 k_SortR k_norm1 (by kernel_rfl) k_join
theorem Qmu:CenC Tryz.prog 89:=Bw mix Q04
theorem k_cross:Q9o Tryz.prog 90:=Q1j mix Wa (Ko mix Kn)
theorem Qms:Qps Tryz.prog 87:=Ic mix Im
theorem k_row1:Qpr Tryz.prog 92:=Q1h mix Q1w
theorem Qmk:Q9r Tryz.prog 55:=Q1k mix Q1y
theorem Qmj:Q9l Tryz.prog 56:=Q1i mix Q1x Qmv Qms (by kernel_rfl)
theorem k_row:Qpi Tryz.prog 58:=Q56 mix Q5j Qmu k_cross k_SortS k_row1 (by kernel_rfl) k_Norm
theorem k_rows:Qph Tryz.prog 57:=Q3a mix Q3o (Ko mix Kn)
theorem Qmx:Q9e Tryz.prog 32:=Bx mix Q05 Qmk Qmj k_rows k_row
theorem k_Same18:Q4g Tryz.prog 20:=Q55 mix Q5i
theorem k_orB:OrBC Tryz.prog 121:=Q1c mix Q1r (by kernel_rfl)
theorem Q10:Uf Tryz.prog 159:=Q51 mix Q5e Qg4
theorem Qmo:Qgq Tryz.prog 164:=Q7n mix Uk
theorem k_odd:OddC Tryz.prog 167:=Q35 mix W1
theorem Qmp:NxbC Tryz.prog 165:=Q7o mix Ul Qmo k_odd
theorem k_pass:Qpq Tryz.prog 166:=Q7m mix Uj Qmp
theorem k_sweep:Qez Tryz.prog 120:=Q50 mix Zz Q10 Qmo Qmp k_pass k_odd
theorem k_rUni:Q2h Tryz.prog 78:=Q52 mix Q5f k_sweep k_orB
theorem k_okc:OkCC Tryz.prog 158:=Q7u mix Q82
theorem Qmi:Q2i Tryz.prog 162:=Q1e mix Q1t k_Cmp (by kernel_rfl)
theorem k_bs:BsC Tryz.prog 161:=Jt mix Zm
theorem Qin:Qpj Tryz.prog 118:=Q53 mix Q5g k_bs Qmi
theorem Qmq:Q9f Tryz.prog 115:=Q1f mix Q1u k_okc Q10
theorem Qmt:Q9q Tryz.prog 119:=Bo mix Yw
theorem Qir:Q4l Tryz.prog 77:=Ib mix Il Qmq Qg5 k_CompI Qin Qmt
theorem Qmr:UniC Tryz.prog 45:=Q1g mix Q1v Qir (by kernel_rfl) k_rUni
theorem Qdz:Qcj Tryz.prog 25:=Q4w mix Q5c
theorem k_hgt:HgtC Tryz.prog 15:=Bn mix Q01 Qdz
theorem k_mnmx:Qpy Tryz.prog 114:=Q15 mix Q1m (by kernel_rfl)
theorem k_bnds:Q4m Tryz.prog 76:=Q4s mix Q58 k_mnmx
theorem k_mbox:Qpz Tryz.prog 44:=Qb5 mix Qaz Xw k_bnds
theorem k_SameL:Qf4 Tryz.prog 14:=Q54 mix Q5h k_Same18
theorem k_Slice:Qf0 Tryz.prog 18:=Q2v mix Q3h Qdz k_Cut k_Chain Qmx
theorem k_part:Qf8 Tryz.prog 26:=Q4v mix Q5b k_Chk k_mbox k_hgt k_Slice
theorem Qmg:Qp5 Tryz.prog 27:=Q1a mix Q1p Qmr
theorem k_Slices:Bc Tryz.prog 11:=Q1b mix Q1q Qdz k_part Qmg
theorem k_fits:Qfb Tryz.prog 37:=Q30 mix Q3k We
theorem k_near:Qpx Tryz.prog 38:=Q2z mix Q3j
theorem Qmm:Qgp Tryz.prog 39:=Q2y mix Q3i
theorem Qip:Q0t Tryz.prog 40:=I8 mix Ik Qmm
theorem Qmz:Qfe Tryz.prog 41 3:=Bp mix Yv
theorem k_BoxS:Qqk Tryz.prog 22:=Q4y mix Q5d k_fits k_near Qmm Qip Qmz
theorem k_rect:Qcf Tryz.prog 23:=Em mix Ei
theorem awake_ok:Q4n Tryz.prog 10:=Q3v mix Q3p k_hgt k_BoxS k_Slices k_rect k_SameL
end Go.Proofs.YtnaehggpjfdenaaGreat
