/- What the program's functions do to values. -/
import Derived.Test.YtnaehggpjfdenaaGreatOk
import Derived.Test.YtnaehggpjfdenaaGreatLay
import Derived.Test.YtnaehggpjfdenaaGreatLayJ
import Derived.Test.YtnaehggpjfdenaaGreatLayK
import Derived.Test.YtnaehggpjfdenaaGreatAbsST
import Derived.Test.YtnaehggpjfdenaaGreatAbsSI
import Derived.Test.YtnaehggpjfdenaaGreatAbsCI
import Derived.Test.YtnaehggpjfdenaaGreatGoRw
set_option linter.unusedVariables false
set_option linter.unusedSimpArgs false
namespace Go.Proofs.YtnaehggpjfdenaaGreat
open Go.Abs
theorem mix:Tryz.prog.follows .mixedOrders=true:=by rfl
theorem own:ownKnob Tryz.prog.godebug=none:=by kernel_rfl
theorem laid:laidOutB Tryz.prog=true:=by kernel_rfl
theorem k_Sort:Wp Tryz.prog 150 2:=I2 Qhr Tryz.isAgg199 Tryz.sizeOf199
theorem k_SortP:Wp Tryz.prog 52 2:=I2 sortPtL Tryz.isAgg90 Tryz.sizeOf90
theorem Qn1:Wp Tryz.prog 86 5:=I2 sortREL Tryz.isAgg136 Tryz.sizeOf136
theorem k_SortS:Wp Tryz.prog 91 2:=I2 sortStL Tryz.isAgg144 Tryz.sizeOf144
theorem k_SortR:Wp Tryz.prog 136 2:=I2 Qld Tryz.isAgg73 Tryz.sizeOf73
theorem Qg8:Q9a Tryz.prog 116:=Qlf Qle
theorem k_CompI:Qff Tryz.prog 117:=Qou compIL
theorem Iv:Ua Tryz.prog 108:=Q4l mix Q54
theorem Wa:Ew Tryz.prog 71:=Q75 mix Q7v Iv
theorem Xt:Jq Tryz.prog 47:=Q5k mix Q5i Wa
theorem Q3z:Bb Tryz.prog 48:=Q22 mix Q20 Xt
theorem Q8a:Ba Tryz.prog 206:=Q74 mix Ig Iv
theorem Qmn:Q9b Tryz.prog 206:=Q4m mix Ig Iv
theorem k_Sub:Qph Tryz.prog 154:=Qcp mix Qdm Wa
theorem k_coll:Qqq Tryz.prog 111:=Bf mix Bx Wa k_Sub (Q4n mix Ih Qmn)
theorem k_deg:DegC Tryz.prog 74:=Uy mix E9 Q3z k_coll
theorem k_edges:Ey Tryz.prog 152:=Kw mix Q1y
theorem k_coh:CohC Tryz.prog 110:=E7 mix Ec k_edges
theorem Qe0:Q0t Tryz.prog 73:=E8 mix Ed Xt k_coh
theorem Qb8:Ey Tryz.prog 155:=Q4q mix Q57
theorem Qit:Q4g Tryz.prog 148:=Q17 mix Q1m Xt Qb8
theorem k_rev:RevC Tryz.prog 149:=Q16 mix Q1l
theorem k_und:UndC Tryz.prog 156:=Uz mix Ea
theorem k_NaN:NaNC Tryz.prog 217:=Qna mix Q05
theorem k_Cmp:CmpC Tryz.prog 163:=Qfe mix Ef k_NaN
theorem k_Or:OrC Tryz.prog 205:=Or_ok mix Q5j
theorem k_order:Qfa Tryz.prog 151:=Q4p mix Q56 k_Cmp k_Or
theorem Qe1:Q0v Tryz.prog 109:=Bi mix By Qit k_rev k_Sort k_order (by kernel_rfl)
theorem Qn5:Q9p Tryz.prog 72:=Q2o mix Q3e Xt Qe1
theorem Qn2:Q9c Tryz.prog 112:=Q2n mix Q3d Xt Qb8 k_und Qg8
theorem k_Det:DetC Tryz.prog 157:=Qcr mix Qdo Q8a (Q76 mix Ih Q8a) (Qcq mix Qdn Q8a Iv)
theorem k_Vol:VolC Tryz.prog 113:=Q21 mix Q1z Xt k_Det
theorem k_inv:InvC Tryz.prog 75:=E3 mix Eb Qn2 k_Vol
theorem k_Chk:ChkC Tryz.prog 43:=Q1b mix Q1q Xt Qn5 Qe0 k_deg k_inv
theorem k_Round:Qf6 Tryz.prog 168:=Q84 mix Q80 (Kk mix Kj)
theorem k_Point:Qf8 Tryz.prog 82:=Bp mix Q01 Wa (Bo mix Q00 k_Round)
theorem k_Cut:SecC Tryz.prog 30:=Q30 mix Q3k Xt Q3z (Q2z mix Q3j k_Point)
theorem Qmt:Q9h Tryz.prog 50:=Q1j mix Q1x
theorem k_Bald:Qqt Tryz.prog 51:=Un mix Uj
theorem Qmr:Q9g Tryz.prog 53:=B1 mix Il
theorem k_take:Q99 Tryz.prog 85:=Q24 mix W7
theorem Qiv:Q4h Tryz.prog 54:=Ep mix K6 k_take
theorem k_Chain:Qfh Tryz.prog 31:=Q0h mix Q04 Qmt k_Bald k_SortP Qmr (by kernel_rfl) Qiv
theorem Qg7:Q9k Tryz.prog 135:=Q7m mix Q7x
theorem k_norm1:Qqr Tryz.prog 137:=Q33 mix Q3l
theorem k_join:Qfb Tryz.prog 138:=Q7l mix Q7w
theorem k_Norm:Qq5 Tryz.prog 93:=Q7n mix Q7y Qg7 k_SortR k_norm1 (by kernel_rfl) k_join
theorem Qn0:CenC Tryz.prog 89:=Bu mix Q02
theorem k_cross:Q9o Tryz.prog 90:=Q1h mix W6 (Kk mix Kj)
theorem Qmy:Qq1 Tryz.prog 87:=Ia mix Ik
theorem k_row1:Qq0 Tryz.prog 92:=Q1f mix Q1u
theorem Qmq:Q9r Tryz.prog 55:=Q1i mix Q1w
theorem Qmp:Q9l Tryz.prog 56:=Q1g mix Q1v Qn1 Qmy (by kernel_rfl)
theorem k_row:Qpq Tryz.prog 58:=Q53 mix Q5h Qn0 k_cross k_SortS k_row1 (by kernel_rfl) k_Norm
theorem k_rows:Qpp Tryz.prog 57:=Q38 mix Q3n (Kk mix Kj)
theorem Qn4:Q9f Tryz.prog 32:=Bv mix Q03 Qmq Qmp k_rows k_row
theorem k_fine:Qqm Tryz.prog 42:=Q51 mix Q5f
theorem k_Valid18:Uc Tryz.prog 24:=Q36 mix Q3m k_fine
theorem Qn3:Qf5 Tryz.prog 20:=Q52 mix Q5g
theorem k_orB:OrBC Tryz.prog 121:=Q1a mix Q1p (by kernel_rfl)
theorem Q0y:Ub Tryz.prog 159:=Q4x mix Q5b Qg7
theorem Qmu:Qgt Tryz.prog 164:=Q7j mix Uh
theorem k_odd:OddC Tryz.prog 167:=Q32 mix Ky
theorem Qmv:NxbC Tryz.prog 165:=Q7k mix Ui Qmu k_odd
theorem k_pass:Qpz Tryz.prog 166:=Q7i mix Ug Qmv
theorem k_sweep:Qf0 Tryz.prog 120:=Q4w mix Zy Q0y Qmu Qmv k_pass k_odd
theorem k_rUni:Q2e Tryz.prog 78:=Q4y mix Q5c k_sweep k_orB
theorem k_okc:OkCC Tryz.prog 158:=Q7q mix Q7z
theorem Qmo:Q2g Tryz.prog 162:=Q1c mix Q1r k_Cmp (by kernel_rfl)
theorem k_bs:BsC Tryz.prog 161:=Jr mix Zl
theorem Qis:Qpr Tryz.prog 118:=Q4z mix Q5d k_bs Qmo
theorem Qmw:Uc Tryz.prog 115:=Q1d mix Q1s k_okc Q0y
theorem Qmz:Q9q Tryz.prog 119:=Bm mix Yw
theorem Qiw:Q4i Tryz.prog 77:=I9 mix Ij Qmw Qg8 k_CompI Qis Qmz
theorem Qmx:UniC Tryz.prog 45:=Q1e mix Q1t Qiw (by kernel_rfl) k_rUni
theorem Qdz:Qcj Tryz.prog 25:=Q4s mix Q59
theorem k_hgt:HgtC Tryz.prog 15:=Bl mix Bz Qdz
theorem k_mnmx:Qq7 Tryz.prog 114:=Q13 mix Q1k (by kernel_rfl)
theorem k_bnds:Q4j Tryz.prog 76:=Q4o mix Q55 k_mnmx
theorem k_mbox:Qq8 Tryz.prog 44:=Qb5 mix Qaz Xt k_bnds
theorem k_SameL:Q9d Tryz.prog 14:=Q50 mix Q5e Qn3
theorem k_Slice:Qf1 Tryz.prog 18:=Q2s mix Q3f Qdz k_Cut k_Chain Qn4
theorem k_part:Qf9 Tryz.prog 26:=Q4r mix Q58 k_Chk k_mbox k_hgt k_Slice
theorem Qmm:Qpd Tryz.prog 27:=Q18 mix Q1n Qmx
theorem k_Slices:Q2f Tryz.prog 11:=Q19 mix Q1o Qdz k_part Qmm
theorem k_fits:Qfc Tryz.prog 37:=Q2x mix Q3i Wa
theorem k_near:Qq6 Tryz.prog 38:=Q2w mix Q3h
theorem Qms:Qgs Tryz.prog 39:=Q2v mix Q3g
theorem Qiu:Q0s Tryz.prog 40:=I6 mix Ii Qms
theorem Qn6:Qfg Tryz.prog 41 3:=Bn mix Yv
theorem k_BoxS:BoxC Tryz.prog 22:=Q4u mix Q5a k_fits k_near Qms Qiu Qn6
theorem k_few:Qfd Tryz.prog 17:=Q88 mix Q82
theorem k_low:LowC Tryz.prog 9:=Q87 mix Q81 k_few
theorem k_rect:Qps Tryz.prog 23:=Ej mix Ee
theorem awake_ok:Qfi Tryz.prog 10:=Q3v mix Q3o k_hgt k_BoxS k_Slices k_rect k_SameL
end Go.Proofs.YtnaehggpjfdenaaGreat
