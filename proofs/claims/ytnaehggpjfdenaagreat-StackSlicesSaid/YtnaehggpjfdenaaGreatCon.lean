/- What the program's functions do to values. -/
import Derived.Test.YtnaehggpjfdenaaGreatOk
import Derived.Test.YtnaehggpjfdenaaGreatLay
import Derived.Test.YtnaehggpjfdenaaGreatLayJ
import Derived.Test.YtnaehggpjfdenaaGreatLayK
import Derived.Test.YtnaehggpjfdenaaGreatAbsST
import Derived.Test.YtnaehggpjfdenaaGreatAbsSI
import Derived.Test.YtnaehggpjfdenaaGreatAbsCI
import Derived.Test.YtnaehggpjfdenaaGreatGoHeap
set_option linter.unusedVariables false
set_option linter.unusedSimpArgs false
namespace Go.Proofs.YtnaehggpjfdenaaGreat
open Go.Abs
theorem mix:Tryz.prog.follows .mixedOrders=true:=by rfl
theorem own:ownKnob Tryz.prog.godebug=none:=by kernel_rfl
theorem laid:laidOutB Tryz.prog=true:=by kernel_rfl
theorem k_Sort:Ic Tryz.prog 150 2:=Q1h Qqv Tryz.isAgg199 Tryz.sizeOf199
theorem k_SortP:Ic Tryz.prog 52 2:=Q1h sortPtL Tryz.isAgg90 Tryz.sizeOf90
theorem Qx8:Ic Tryz.prog 86 5:=Q1h sortREL Tryz.isAgg136 Tryz.sizeOf136
theorem k_SortS:Ic Tryz.prog 91 2:=Q1h sortStL Tryz.isAgg144 Tryz.sizeOf144
theorem k_SortR:Ic Tryz.prog 136 2:=Q1h Qv0 Tryz.isAgg73 Tryz.sizeOf73
theorem Qp9:Qhz Tryz.prog 116:=Qv2 Qv1
theorem k_CompI:Qod Tryz.prog 117:=Qz1 compIL
theorem Q2h:Xx Tryz.prog 108:=Qbt mix Qcj
theorem Ir:Xx Tryz.prog 139:=Q6e mix Q78
theorem I0:Je Tryz.prog 71:=Qfa mix Qg4 Q2h
theorem Q2i:Je Tryz.prog 94:=Q9h mix Qab Ir
theorem Ka:Y0 Tryz.prog 47:=Qd8 mix Qd6 I0
theorem Jr:Y0 Tryz.prog 59:=Q9d mix Qa8 Q2i
theorem Qas:Wd Tryz.prog 48:=Q7h mix Q7f Ka
theorem Qmo:Wd Tryz.prog 144:=Q3p mix Q47 Jr
theorem Qgu:Jh Tryz.prog 206:=Q1b mix Q20 Q2h
theorem Qat:Jh Tryz.prog 202:=Q9g mix Er Ir
theorem Qwm:Q84 Tryz.prog 206:=By mix Q20 Q2h
theorem Qru:Q84 Tryz.prog 202:=By mix Er Ir
theorem k_Sub:Qf3 Tryz.prog 154:=Q8a mix Qma I0
theorem k_rSub:Qf3 Tryz.prog 197:=Qfw mix Qgc Q2i
theorem k_coll:Qf7 Tryz.prog 111:=Q32 mix Q3u I0 k_Sub (Bz mix Q21 Qwm)
theorem k_rcoll:Qf7 Tryz.prog 145:=Q0f mix Q0m Q2i k_rSub (Bz mix Es Qru)
theorem k_deg:Qtx Tryz.prog 74:=Ku mix Q0j Qas k_coll
theorem k_rdeg:Qtx Tryz.prog 104:=Bj mix Bq Qmo k_rcoll
theorem k_edges:Xf Tryz.prog 152:=E9 mix Q7d
theorem k_coh:Qty Tryz.prog 110:=Q0h mix Q0n k_edges
theorem Qwi:Xf Tryz.prog 195:=Qce mix Qd2
theorem k_coh11:Qty Tryz.prog 143:=Q1r mix Q27 Qwi
theorem Qmr:Kr Tryz.prog 73:=Q0i mix Q0o Ka k_coh
theorem Qgw:Kr Tryz.prog 103:=Q1s mix Q28 Jr k_coh11
theorem Qjv:Xf Tryz.prog 155:=Qbw mix Qcm
theorem Qs2:Qbm Tryz.prog 148:=Q5r mix Q6m Ka Qjv
theorem k_rev:Qts Tryz.prog 149:=E3 mix Q6l
theorem k_und:Qnu Tryz.prog 156:=Kx mix Q0k
theorem k_NaN:NaNC Tryz.prog 217:=Qxi mix Q4b
theorem k_Cmp:CmpC Tryz.prog 163:=Qoc mix Q0q k_NaN
theorem k_Or:OrC Tryz.prog 205:=Or_ok mix Qd7
theorem k_order:Qo5 Tryz.prog 151:=Qbv mix Qcl k_Cmp k_Or
theorem Qms:Ks Tryz.prog 109:=Q35 mix Q3v Qs2 k_rev k_Sort k_order (by kernel_rfl)
theorem Qxd:Bc Tryz.prog 72:=Ej mix Q9r Ka Qms
theorem Qx9:B8 Tryz.prog 112:=Q8g mix Q9q Ka Qjv k_und Qp9
theorem Qmq:Qbr Tryz.prog 235:=Q6b mix Q75
theorem Q7v:Q52 Tryz.prog 200:=Q9c mix Qa7 Qmq
theorem Qjx:Q86 Tryz.prog 193:=Q69 mix Q73 Q7v
theorem Qwh:Qpu Tryz.prog 234:=Qcg mix Qd3 Q7v
theorem Q0w:Xf Tryz.prog 199:=Q1t mix Q29
theorem Qx4:Qic Tryz.prog 192:=Q6a mix Q74 Q0w Qwh Q7v
theorem Qwn:Qnu Tryz.prog 201:=Bi mix Bp
theorem k_undir:Qnt Tryz.prog 198:=Bh mix Bo Q0w Qwn Qwh
theorem k_rrev:Qts Tryz.prog 194:=Q3n mix Q45
theorem Qjw:Ks Tryz.prog 142:=Q1u mix Q2a Jr Qx4 k_rrev Qjx
theorem Qry:Bc Tryz.prog 102:=Q6d mix Q77 Jr Qjw
theorem Qwk:Qbi Tryz.prog 146:=Q68 mix Q72 k_undir Q0w Qwn Q7v Qjx
theorem Qrw:B8 Tryz.prog 105:=Q6c mix Q76 Jr Qwk
theorem k_Det:Qtw Tryz.prog 157:=Qlf mix Qmc Qgu (Q1c mix Q21 Qgu) (Q8b mix Qmb Qgu Q2h)
theorem k_Vol:Qtg Tryz.prog 113:=Eb mix Q7e Ka k_Det
theorem k_rDet:Qtw Tryz.prog 147:=Qfy mix Qge Qat (Q9i mix Es Qat) (Qfx mix Qgd Qat Ir)
theorem k_rVol:Qtg Tryz.prog 106:=Q3o mix Q46 Jr k_rDet
theorem k_inv:InvC Tryz.prog 75:=Q0e mix Q0l Qx9 k_Vol
theorem k_Chk:Qtz Tryz.prog 43:=Q5w mix Q6q Ka Qxd Qmr k_deg k_inv
theorem Qwx:Qpy Tryz.prog 107:=Qcd mix Qd1
theorem k_rChk:Qtz Tryz.prog 69:=Q9b mix Qa6 Jr Qry Qgw k_rdeg Qrw Qwx k_rVol
theorem k_Round:Qo2 Tryz.prog 168:=Qgl mix Qgf (Uo mix Un)
theorem k_Point:Q51 Tryz.prog 82:=Q3d mix Q3y I0 (Q3c mix Q3x k_Round)
theorem Qwt:Q51 Tryz.prog 60:=Q9a mix Qa5 Q2i (Q3m mix Q44)
theorem k_Cut:Qtr Tryz.prog 30:=Q8u mix Q9x Ka Qas (Q8t mix Q9w k_Point)
theorem k_rCut:Qtr Tryz.prog 33:=Qfv mix Qgb Jr Qwt
theorem Qwy:Ji Tryz.prog 50:=E7 mix Q7c
theorem Iu:Ji Tryz.prog 61:=Q9e mix Qa9
theorem k_Bald:Qf8 Tryz.prog 51:=Bw mix Br
theorem Qwv:Qi2 Tryz.prog 53:=Q2r mix Q2c
theorem k_take:Qhx Tryz.prog 85:=Q7j mix Eu
theorem Qs4:Qbn Tryz.prog 54:=Q14 mix Wz k_take
theorem k_Chain:Q54 Tryz.prog 31:=Q4p mix Q4a Qwy k_Bald k_SortP Qwv (by kernel_rfl) Qs4
theorem k_rbal:Z0g Tryz.prog 96:=Q3l mix Q43
theorem k_rBald:Qf8 Tryz.prog 62:=Q1q mix Q26 k_rbal
theorem Qrv:Qo6 Tryz.prog 97:=Qcc mix Qd0
theorem k_least:Qo7 Tryz.prog 63:=Q98 mix Qa3 Qrv
theorem Qwu:Q54 Tryz.prog 34:=Q99 mix Qa4 Iu k_rBald k_least
theorem Qp8:Qi7 Tryz.prog 135:=Qfp mix Qg6
theorem k_norm1:Z1b Tryz.prog 137:=Q8y mix Q9y
theorem k_join:Qo8 Tryz.prog 138:=Qfo mix Qg5
theorem k_Norm:Z0p Tryz.prog 93:=Qfq mix Qg7 Qp8 k_SortR k_norm1 (by kernel_rfl) k_join
theorem Qx6:CenC Tryz.prog 89:=Q3q mix Q48
theorem k_cross:Qia Tryz.prog 90:=Q6h mix Et (Uo mix Un)
theorem Qx3:Z0l Tryz.prog 87:=Q1v mix Q2b
theorem k_row1:Z0k Tryz.prog 92:=Q6f mix Q79
theorem Qwq:Bd Tryz.prog 55:=Q6i mix Q7b
theorem Qwp:Qi8 Tryz.prog 56:=Q6g mix Q7a Qx8 Qx3 (by kernel_rfl)
theorem k_row:Z09 Tryz.prog 58:=Qci mix Qd5 Qx6 k_cross k_SortS k_row1 (by kernel_rfl) k_Norm
theorem k_rows:Z08 Tryz.prog 57:=Q9k mix Qac (Uo mix Un)
theorem Qxb:Ba Tryz.prog 32:=Q3r mix Q49 Qwq Qwp k_rows k_row
theorem Qrz:Qie Tryz.prog 67:=Q62 mix Q6w
theorem Qs1:CrsC Tryz.prog 140:=Q3j mix Q41 Iu (Qch mix Qd4 (Q9f mix Qaa Iu))
theorem k_Wind:Qzs Tryz.prog 98:=Q3k mix Q42 Iu Qs1
theorem Qxc:Qi5 Tryz.prog 66:=Q67 mix Q71 k_Wind
theorem k_inR:InRC Tryz.prog 99:=Q3i mix Q40
theorem k_bef18:Qbq Tryz.prog 141:=Q66 mix Q70
theorem Qwg:Qnr Tryz.prog 101:=Qc8 mix Qcw
theorem Qwl:Qhy Tryz.prog 100:=Q63 mix Q6x k_bef18
theorem k_Of:OfC Tryz.prog 68:=Qja mix Qjl k_inR Qwl Qwg
theorem Qs6:Bd Tryz.prog 64:=Q95 mix Qa0
theorem k_far:FarC Tryz.prog 65:=Qfu mix Qga
theorem Qrx:Ba Tryz.prog 35:=Q61 mix Q6v Qs6 k_far Qrz Qxc k_Of
theorem k_fine:Z17 Tryz.prog 42:=Qca mix Qcy
theorem Qs7:Bb Tryz.prog 24:=Q96 mix Qa1 k_fine
theorem k_ins:InsC Tryz.prog 81:=Q64 mix Q6y
theorem k_kept:Z0t Tryz.prog 80:=Qc9 mix Qcx
theorem Qx7:BoundsC Tryz.prog 79:=Q65 mix Q6z
theorem k_comb:Z1a Tryz.prog 46:=Q1p mix Q25 Qx7 k_ins k_kept
theorem k_oper:OpC Tryz.prog 28:=Q1o mix Q24 Qs7 k_comb
theorem Qwr:Qtn Tryz.prog 12:=Q97 mix Qa2 k_oper
theorem Qxa:Qo1 Tryz.prog 20:=Qcb mix Qcz
theorem k_orB:OrBC Tryz.prog 121:=Q5v mix Q6p (by kernel_rfl)
theorem Q5f:B9 Tryz.prog 159:=Qc2 mix Qcq Qp8
theorem Qwz:Qpz Tryz.prog 164:=Qfm mix Bm
theorem k_odd:OddC Tryz.prog 167:=Q8x mix Ed
theorem Qx0:NxbC Tryz.prog 165:=Qfn mix Bn Qwz k_odd
theorem k_pass:Z0j Tryz.prog 166:=Qfl mix Bl Qx0
theorem k_sweep:Qnv Tryz.prog 120:=Qc1 mix Yi Q5f Qwz Qx0 k_pass k_odd
theorem k_rUni:Q83 Tryz.prog 78:=Qc3 mix Qcr k_sweep k_orB
theorem k_okc:OkCC Tryz.prog 158:=Qfr mix Qg8
theorem Qwo:Q85 Tryz.prog 162:=Q5x mix Q6r k_Cmp (by kernel_rfl)
theorem k_bs:BsC Tryz.prog 161:=We mix Zz
theorem Qs0:Z0a Tryz.prog 118:=Qc4 mix Qcs k_bs Qwo
theorem Qx1:Bb Tryz.prog 115:=Q5y mix Q6s k_okc Q5f
theorem Qx5:Qid Tryz.prog 119:=Q38 mix Xz
theorem Qs5:Qbo Tryz.prog 77:=Q1n mix Q23 Qx1 Qp9 k_CompI Qs0 Qx5
theorem Qx2:Qtn Tryz.prog 45:=Q5z mix Q6t Qs5 (by kernel_rfl) k_rUni
theorem Qmp:Q0b Tryz.prog 25:=Q02 mix Qco
theorem Qgv:Q0b Tryz.prog 29:=Qc6 mix Qcu
theorem k_hgt:Qo9 Tryz.prog 15:=Q37 mix Q3w Qmp
theorem k_rhgt:Qo9 Tryz.prog 16:=Q3h mix Q3z Qgv
theorem k_mnmx:Z0r Tryz.prog 114:=Q5o mix Q6k (by kernel_rfl)
theorem k_bnds:Qbp Tryz.prog 76:=Qbu mix Qck k_mnmx
theorem k_mbox:Z0s Tryz.prog 44:=Qjs mix Qjm Ka k_bnds
theorem k_top:TopC Tryz.prog 70:=Qfs mix Qg9
theorem k_At:AtC Tryz.prog 13:=Qj9 mix Q5c
theorem k_AtH:AtHC Tryz.prog 13:=Qft mix Q5c
theorem k_SameL:Qi0 Tryz.prog 14:=Qc7 mix Qcv Qxa
theorem k_Slice:Q4y Tryz.prog 18:=Ek mix Q9s Qmp k_Cut k_Chain Qxb
theorem Qws:Q4y Tryz.prog 19:=Q94 mix Q9z Qgv k_rCut Qwu Qrx
theorem k_part:Qo4 Tryz.prog 26:=Qbx mix Qcn k_Chk k_mbox k_hgt k_Slice
theorem k_rpart:Qi3 Tryz.prog 36:=Qc5 mix Qct k_rChk k_top k_rhgt Qws
theorem Qwj:Qzv Tryz.prog 27:=Q5t mix Q6n Qx2
theorem k_Slices:Uz Tryz.prog 11:=Q5u mix Q6o Qmp k_part Qwj
theorem k_rSlices:Uz Tryz.prog 21:=Q60 mix Q6u Qgv k_rpart k_AtH k_At Qwr
theorem k_fits:Qoa Tryz.prog 37:=Q8p mix Q9v I0
theorem k_near:Z0q Tryz.prog 38:=Q8o mix Q9u
theorem Qww:Qpx Tryz.prog 39:=Q8n mix Q9t
theorem Qs3:Q53 Tryz.prog 40:=Q1j mix Q22 Qww
theorem Qxe:Qoe Tryz.prog 41 3:=Q39 mix Xy
theorem k_BoxS:BoxC Tryz.prog 22:=Qbz mix Qcp k_fits k_near Qww Qs3 Qxe
theorem k_few:Qob Tryz.prog 17:=Qgs mix Qgh
theorem k_low:LowC Tryz.prog 9:=Qgr mix Qgg k_few
theorem k_rect:Z0b Tryz.prog 23:=Q0u mix Q0p
theorem awake_ok:Qof Tryz.prog 10:=Qap mix Qad k_hgt k_BoxS k_Slices k_rect k_SameL
end Go.Proofs.YtnaehggpjfdenaaGreat
