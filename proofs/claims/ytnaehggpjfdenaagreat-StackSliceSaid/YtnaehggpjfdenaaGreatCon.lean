/- What the program's functions do to values. -/
import Derived.Test.YtnaehggpjfdenaaGreatOk
import Derived.Test.YtnaehggpjfdenaaGreatLay
import Derived.Test.YtnaehggpjfdenaaGreatLayJ
import Derived.Test.YtnaehggpjfdenaaGreatLayK
import Derived.Test.YtnaehggpjfdenaaGreatAbsST
import Derived.Test.YtnaehggpjfdenaaGreatAbsSI
import Derived.Test.YtnaehggpjfdenaaGreatAbsCI
import Derived.Test.YtnaehggpjfdenaaGreatGoShpD
set_option linter.unusedVariables false
set_option linter.unusedSimpArgs false
namespace Go.Proofs.YtnaehggpjfdenaaGreat
open Go.Abs
theorem mix:Tryz.prog.follows .mixedOrders=true:=by rfl
theorem own:ownKnob Tryz.prog.godebug=none:=by kernel_rfl
theorem laid:laidOutB Tryz.prog=true:=by kernel_rfl
theorem k_Sort:Ui Tryz.prog 150 2:=B9 Qlc Tryz.isAgg199 Tryz.sizeOf199
theorem k_SortP:Ui Tryz.prog 52 2:=B9 sortPtL Tryz.isAgg90 Tryz.sizeOf90
theorem Qqw:Ui Tryz.prog 86 5:=B9 sortREL Tryz.isAgg136 Tryz.sizeOf136
theorem k_SortS:Ui Tryz.prog 91 2:=B9 sortStL Tryz.isAgg144 Tryz.sizeOf144
theorem k_SortR:Ui Tryz.prog 136 2:=B9 Qp6 Tryz.isAgg73 Tryz.sizeOf73
theorem Qjt:Qcq Tryz.prog 116:=Qp8 Qp7
theorem k_CompI:Qj0 Tryz.prog 117:=Qst compIL
theorem Bx:Jg Tryz.prog 108:=Q7g mix Q81
theorem Qmb:Jg Tryz.prog 139:=Q35 mix Q3q
theorem U4:K6 Tryz.prog 71:=Qab mix Qb4 Bx
theorem Qes:K6 Tryz.prog 94:=Q5i mix Q67 Qmb
theorem Jc:X6 Tryz.prog 47:=Q8k mix Q8i U4
theorem Qr3:X6 Tryz.prog 59:=Q5f mix Q64 Qes
theorem Q6m:Q0a Tryz.prog 48:=Q3z mix Q3x Jc
theorem Qbo:Q09 Tryz.prog 206:=Qaa mix Bl Bx
theorem Qqg:Qcr Tryz.prog 206:=Q7h mix Bl Bx
theorem k_Sub:Qtn Tryz.prog 154:=Qgc mix Qh5 U4
theorem k_coll:Quw Tryz.prog 111:=Q0e mix Q13 U4 k_Sub (Q7i mix Bm Qqg)
theorem k_deg:DegC Tryz.prog 74:=I0 mix Ib Q6m k_coll
theorem k_edges:B4 Tryz.prog 152:=Wn mix Q3v
theorem k_coh:CohC Tryz.prog 110:=I9 mix Ig k_edges
theorem Qhi:Q28 Tryz.prog 73:=Ia mix Ih Jc k_coh
theorem Qer:B4 Tryz.prog 155:=Q7l mix Q84
theorem Qmh:Q7a Tryz.prog 148:=Q2s mix Q3d Jc Qer
theorem k_rev:RevC Tryz.prog 149:=Q2r mix Q3c
theorem k_und:UndC Tryz.prog 156:=I2 mix Ic
theorem k_NaN:NaNC Tryz.prog 217:=Qr7 mix Q1g
theorem k_Cmp:CmpC Tryz.prog 163:=Qiz mix Ij k_NaN
theorem k_Or:OrC Tryz.prog 205:=Or_ok mix Q8j
theorem k_order:Qit Tryz.prog 151:=Q7k mix Q83 k_Cmp k_Or
theorem Qhj:Q2b Tryz.prog 109:=Q0h mix Q14 Qmh k_rev k_Sort k_order (by kernel_rfl)
theorem Qr1:Qd6 Tryz.prog 72:=Q4n mix Q5r Jc Qhj
theorem Qqy:Qct Tryz.prog 112:=Q4m mix Q5q Jc Qer k_und Qjt
theorem k_Det:DetC Tryz.prog 157:=Qge mix Qh7 Qbo (Qac mix Bm Qbo) (Qgd mix Qh6 Qbo Bx)
theorem k_Vol:VolC Tryz.prog 113:=Q3y mix Q3w Jc k_Det
theorem k_inv:InvC Tryz.prog 75:=I6 mix Ie Qqy k_Vol
theorem k_Chk:ChkC Tryz.prog 43:=Q2w mix Q3h Jc Qr1 Qhi k_deg k_inv
theorem k_Round:Qiq Tryz.prog 168:=Qbg mix Qbb (W9 mix W8)
theorem k_Point:Q26 Tryz.prog 82:=Q0o mix Q17 U4 (Q0n mix Q16 k_Round)
theorem Qqk:Q26 Tryz.prog 60:=Q5e mix Q63 Qes (Q0y mix Q1c)
theorem k_Cut:Qo4 Tryz.prog 30:=Q51 mix Q5x Jc Q6m (Q50 mix Q5w k_Point)
theorem k_rCut:Qo4 Tryz.prog 33:=Qaz mix Qba Qr3 Qqk
theorem Qqo:Xo Tryz.prog 50:=Wl mix Q3u
theorem Ut:Xo Tryz.prog 61:=Q5g mix Q65
theorem k_Bald:Qa7 Tryz.prog 51:=En mix Ej
theorem Qqm:Qcx Tryz.prog 53:=Q03 mix Br
theorem k_take:Qco Tryz.prog 85:=Q40 mix U0
theorem Qmj:Q7b Tryz.prog 54:=Iy mix Kr k_take
theorem k_Chain:Q29 Tryz.prog 31:=Q1s mix Q1f Qqo k_Bald k_SortP Qqm (by kernel_rfl) Qmj
theorem k_rbal:Qu3 Tryz.prog 96:=Q0x mix Q1b
theorem k_rBald:Qa7 Tryz.prog 62:=Bg mix Bp k_rbal
theorem Qmc:Qiu Tryz.prog 97:=Q7y mix Q8f
theorem k_least:Qiv Tryz.prog 63:=Q5c mix Q61 Qmc
theorem Qql:Q29 Tryz.prog 34:=Q5d mix Q62 Ut k_rBald k_least
theorem Qjs:Qd1 Tryz.prog 135:=Qat mix Qb6
theorem k_norm1:Qux Tryz.prog 137:=Q54 mix Q5y
theorem k_join:Qiw Tryz.prog 138:=Qas mix Qb5
theorem k_Norm:Quc Tryz.prog 93:=Qau mix Qb7 Qjs k_SortR k_norm1 (by kernel_rfl) k_join
theorem Qqv:CenC Tryz.prog 89:=Q0z mix Q1d
theorem k_cross:Qd4 Tryz.prog 90:=Q38 mix Wz (W9 mix W8)
theorem Qqt:Qu8 Tryz.prog 87:=Bh mix Bq
theorem k_row1:Qu7 Tryz.prog 92:=Q36 mix Q3r
theorem Qqj:Ec Tryz.prog 55:=Q39 mix Q3t
theorem Qqi:Qd2 Tryz.prog 56:=Q37 mix Q3s Qqw Qqt (by kernel_rfl)
theorem k_row:Qtw Tryz.prog 58:=Q80 mix Q8h Qqv k_cross k_SortS k_row1 (by kernel_rfl) k_Norm
theorem k_rows:Qtv Tryz.prog 57:=Q5k mix Q68 (W9 mix W8)
theorem Qqz:Eb Tryz.prog 32:=Q10 mix Q1e Qqj Qqi k_rows k_row
theorem Qme:Qd8 Tryz.prog 67:=Q31 mix Q3m
theorem Qmg:CrsC Tryz.prog 140:=Q0v mix Q19 Ut (Q7z mix Q8g (Q5h mix Q66 Ut))
theorem k_Wind:Qtf Tryz.prog 98:=Q0w mix Q1a Ut Qmg
theorem Qr0:Qcz Tryz.prog 66:=Q34 mix Q3p k_Wind
theorem k_inR:InRC Tryz.prog 99:=Q0u mix Q18
theorem k_bef18:Q7e Tryz.prog 141:=Q33 mix Q3o
theorem Qqd:Qih Tryz.prog 101:=Q7w mix Q8d
theorem Qqf:Qcp Tryz.prog 100:=Q32 mix Q3n k_bef18
theorem k_Of:OfC Tryz.prog 68:=Qe8 mix Qeh k_inR Qqf Qqd
theorem Qml:Ec Tryz.prog 64:=Q5b mix Q60
theorem k_far:FarC Tryz.prog 65:=Qay mix Qb9
theorem Qmd:Eb Tryz.prog 35:=Q30 mix Q3l Qml k_far Qme Qr0 k_Of
theorem k_Same18:Qcu Tryz.prog 20:=Q7x mix Q8e
theorem k_orB:OrBC Tryz.prog 121:=Q2v mix Q3g (by kernel_rfl)
theorem Q2g:Ea Tryz.prog 159:=Q7r mix Q88 Qjs
theorem Qqp:Qkf Tryz.prog 164:=Qaq mix Eh
theorem k_odd:OddC Tryz.prog 167:=Q53 mix Wq
theorem Qqq:NxbC Tryz.prog 165:=Qar mix Ei Qqp k_odd
theorem k_pass:Qu6 Tryz.prog 166:=Qap mix Ef Qqq
theorem k_sweep:Qik Tryz.prog 120:=Q7q mix Y3 Q2g Qqp Qqq k_pass k_odd
theorem k_rUni:Q4d Tryz.prog 78:=Q7s mix Q89 k_sweep k_orB
theorem k_okc:OkCC Tryz.prog 158:=Qax mix Qb8
theorem Qqh:Q4e Tryz.prog 162:=Q2x mix Q3i k_Cmp (by kernel_rfl)
theorem k_bs:BsC Tryz.prog 161:=K8 mix Zp
theorem Qmf:Qtx Tryz.prog 118:=Q7t mix Q8a k_bs Qqh
theorem Qqr:Qcw Tryz.prog 115:=Q2y mix Q3j k_okc Q2g
theorem Qqu:Qd7 Tryz.prog 119:=Q0k mix X8
theorem Qmk:Q7c Tryz.prog 77:=Bf mix Bo Qqr Qjt k_CompI Qmf Qqu
theorem Qqs:UniC Tryz.prog 45:=Q2z mix Q3k Qmk (by kernel_rfl) k_rUni
theorem Qhh:Q2n Tryz.prog 25:=Ep mix Q86
theorem k_reven:Q2n Tryz.prog 29:=Q7u mix Q8b
theorem k_hgt:HgtC Tryz.prog 15:=Q0j mix Q15 Qhh
theorem k_mnmx:Que Tryz.prog 114:=Q2o mix Q3b (by kernel_rfl)
theorem k_bnds:Q7d Tryz.prog 76:=Q7j mix Q82 k_mnmx
theorem k_mbox:Quf Tryz.prog 44:=Qeo mix Qei Jc k_bnds
theorem k_SameL:Qip Tryz.prog 14:=Q7v mix Q8c k_Same18
theorem k_Slice:B3 Tryz.prog 18:=Wv mix Q5s Qhh k_Cut k_Chain Qqz
theorem k_rSlice:B3 Tryz.prog 19:=Q5a mix Q5z k_reven k_rCut Qql Qmd
theorem k_part:Qis Tryz.prog 26:=Q7m mix Q85 k_Chk k_mbox k_hgt k_Slice
theorem Qqe:Qti Tryz.prog 27:=Q2t mix Q3e Qqs
theorem Qqx:Qcs Tryz.prog 11:=Q2u mix Q3f Qhh k_part Qqe
theorem k_fits:Qix Tryz.prog 37:=Q4w mix Q5v U4
theorem k_near:Qud Tryz.prog 38:=Q4v mix Q5u
theorem Qqn:Qke Tryz.prog 39:=Q4u mix Q5t
theorem Qmi:Q27 Tryz.prog 40:=Bc mix Bn Qqn
theorem Qr2:Qj1 Tryz.prog 41 3:=Q0l mix X7
theorem k_BoxS:BoxC Tryz.prog 22:=Q7o mix Q87 k_fits k_near Qqn Qmi Qr2
theorem k_few:Qiy Tryz.prog 17:=Qbm mix Qbc
theorem k_rect:Qty Tryz.prog 23:=Im mix Ii
theorem awake_ok:Qj2 Tryz.prog 10:=Q6j mix Q69 k_hgt k_BoxS Qqx k_rect k_SameL
end Go.Proofs.YtnaehggpjfdenaaGreat
