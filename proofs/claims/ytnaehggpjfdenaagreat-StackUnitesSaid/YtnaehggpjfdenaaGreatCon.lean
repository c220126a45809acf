/- What the program's functions do to values. -/
import Derived.Test.YtnaehggpjfdenaaGreatOk
import Derived.Test.YtnaehggpjfdenaaGreatLay
import Derived.Test.YtnaehggpjfdenaaGreatLayJ
import Derived.Test.YtnaehggpjfdenaaGreatLayK
import Derived.Test.YtnaehggpjfdenaaGreatAbsST
import Derived.Test.YtnaehggpjfdenaaGreatAbsSI
import Derived.Test.YtnaehggpjfdenaaGreatAbsCI
import Derived.Test.YtnaehggpjfdenaaGreatGoRw
set_option linter.unusedVariables false
set_option linter.unusedSimpArgs false
namespace Go.Proofs.YtnaehggpjfdenaaGreat
open Go.Abs
theorem mix:Tryz.prog.follows .mixedOrders=true:=by rfl
theorem own:ownKnob Tryz.prog.godebug=none:=by kernel_rfl
theorem laid:laidOutB Tryz.prog=true:=by kernel_rfl
theorem k_Sort:U5 Tryz.prog 150 2:=Io Qj4 Tryz.isAgg199 Tryz.sizeOf199
theorem k_SortP:U5 Tryz.prog 52 2:=Io sortPtL Tryz.isAgg90 Tryz.sizeOf90
theorem Qon:U5 Tryz.prog 86 5:=Io sortREL Tryz.isAgg136 Tryz.sizeOf136
theorem k_SortS:U5 Tryz.prog 91 2:=Io sortStL Tryz.isAgg144 Tryz.sizeOf144
theorem k_SortR:U5 Tryz.prog 136 2:=Io Qmr Tryz.isAgg73 Tryz.sizeOf73
theorem Qhk:Qaf Tryz.prog 116:=Qmt Qms
theorem k_CompI:Qgs Tryz.prog 117:=Qqk compIL
theorem Bj:Ur Tryz.prog 108:=Q5i mix Q62
theorem Wr:Ij Tryz.prog 71:=Q89 mix Q90 Bj
theorem J8:K1 Tryz.prog 47:=Q6j mix Q6h Wr
theorem Q4w:Bz Tryz.prog 48:=Q2v mix Q2t J8
theorem Q9f:By Tryz.prog 206:=Q88 mix B5 Bj
theorem Qo8:Qag Tryz.prog 206:=Q5j mix B5 Bj
theorem k_Sub:Qr6 Tryz.prog 154:=Qdx mix Qew Wr
theorem k_coll:Qsi Tryz.prog 111:=Q02 mix Q0g Wr k_Sub (Q5k mix B6 Qo8)
theorem k_deg:DegC Tryz.prog 74:=Ej mix Eu Q4w k_coll
theorem k_edges:Ik Tryz.prog 152:=Wa mix Q2r
theorem k_coh:CohC Tryz.prog 110:=Es mix Ez k_edges
theorem Qfa:Q1d Tryz.prog 73:=Et mix I0 J8 k_coh
theorem Qcf:Ik Tryz.prog 155:=Q5n mix Q65
theorem Qk6:Q5d Tryz.prog 148:=Q1w mix Q2d J8 Qcf
theorem k_rev:RevC Tryz.prog 149:=Q1v mix Q2c
theorem k_und:UndC Tryz.prog 156:=Ek mix Ew
theorem k_NaN:NaNC Tryz.prog 217:=Qow mix Q0o
theorem k_Cmp:CmpC Tryz.prog 163:=Qgr mix I2 k_NaN
theorem k_Or:OrC Tryz.prog 205:=Or_ok mix Q6i
theorem k_order:Qgn Tryz.prog 151:=Q5m mix Q64 k_Cmp k_Or
theorem Qfb:Q1f Tryz.prog 109:=Q05 mix Q0h Qk6 k_rev k_Sort k_order (by kernel_rfl)
theorem Qor:Qat Tryz.prog 72:=Q3j mix Q4a J8 Qfb
theorem Qoo:Qah Tryz.prog 112:=Q3i mix Q49 J8 Qcf k_und Qhk
theorem k_Det:DetC Tryz.prog 157:=Qdz mix Qey Q9f (Q8a mix B6 Q9f) (Qdy mix Qex Q9f Bj)
theorem k_Vol:VolC Tryz.prog 113:=Q2u mix Q2s J8 k_Det
theorem k_inv:InvC Tryz.prog 75:=Eo mix Ey Qoo k_Vol
theorem k_Chk:ChkC Tryz.prog 43:=Q20 mix Q2h J8 Qor Qfa k_deg k_inv
theorem k_Round:Qgj Tryz.prog 168:=Q99 mix Q95 (Ky mix Kx)
theorem k_Point:Qgl Tryz.prog 82:=Q0b mix Q0k Wr (Q0a mix Q0j k_Round)
theorem k_Cut:SecC Tryz.prog 30:=Q3u mix Q4g J8 Q4w (Q3t mix Q4f k_Point)
theorem Qoe:Qam Tryz.prog 50:=Q2a mix Q2q
theorem k_Bald:Qsl Tryz.prog 51:=E7 mix E1
theorem Qoc:Qal Tryz.prog 53:=Bq mix Bc
theorem k_take:Qae Tryz.prog 85:=Q2y mix Wo
theorem Qk8:Q5e Tryz.prog 54:=Ib mix Kh k_take
theorem k_Chain:Qgu Tryz.prog 31:=Q10 mix Q0n Qoe k_Bald k_SortP Qoc (by kernel_rfl) Qk8
theorem Qhj:Qap Tryz.prog 135:=Q8q mix Q92
theorem k_norm1:Qsj Tryz.prog 137:=Q3x mix Q4h
theorem k_join:Qgo Tryz.prog 138:=Q8p mix Q91
theorem k_Norm:Qrv Tryz.prog 93:=Q8r mix Q93 Qhj k_SortR k_norm1 (by kernel_rfl) k_join
theorem Qol:CenC Tryz.prog 89:=Q0d mix Q0l
theorem k_cross:Qas Tryz.prog 90:=Q28 mix Wn (Ky mix Kx)
theorem Qoj:Qrr Tryz.prog 87:=B0 mix Bb
theorem k_row1:Qrq Tryz.prog 92:=Q26 mix Q2n
theorem Qob:Qav Tryz.prog 55:=Q29 mix Q2p
theorem Qoa:Qaq Tryz.prog 56:=Q27 mix Q2o Qon Qoj (by kernel_rfl)
theorem k_row:Qrg Tryz.prog 58:=Q61 mix Q6g Qol k_cross k_SortS k_row1 (by kernel_rfl) k_Norm
theorem k_rows:Qrf Tryz.prog 57:=Q44 mix Q4k (Ky mix Kx)
theorem Qoq:Qak Tryz.prog 32:=Q0e mix Q0m Qob Qoa k_rows k_row
theorem k_fine:Qsd Tryz.prog 42:=Q5z mix Q6e
theorem Qka:Ut Tryz.prog 24:=Q41 mix Q4i k_fine
theorem k_ins:InsC Tryz.prog 81:=Q24 mix Q2l
theorem k_kept:Qrz Tryz.prog 80:=Q5y mix Q6d
theorem Qom:BoundsC Tryz.prog 79:=Q25 mix Q2m
theorem k_comb:Qsh Tryz.prog 46:=Iz mix Ba Qom k_ins k_kept
theorem k_oper:OpC Tryz.prog 28:=Iy mix B9 Qka k_comb
theorem k_rUnion:Qln Tryz.prog 12:=Q42 mix Q4j k_oper
theorem Qop:Qgi Tryz.prog 20:=Q60 mix Q6f
theorem k_orB:OrBC Tryz.prog 121:=Q1z mix Q2g (by kernel_rfl)
theorem Q1l:Us Tryz.prog 159:=Q5u mix Q69 Qhj
theorem Qof:Qi6 Tryz.prog 164:=Q8n mix Uy
theorem k_odd:OddC Tryz.prog 167:=Q3w mix Wc
theorem Qog:NxbC Tryz.prog 165:=Q8o mix Uz Qof k_odd
theorem k_pass:Qrp Tryz.prog 166:=Q8m mix Ux Qog
theorem k_sweep:Qgb Tryz.prog 120:=Q5t mix Y4 Q1l Qof Qog k_pass k_odd
theorem k_rUni:Q38 Tryz.prog 78:=Q5v mix Q6a k_sweep k_orB
theorem k_okc:OkCC Tryz.prog 158:=Q8t mix Q94
theorem Qo9:Q3a Tryz.prog 162:=Q21 mix Q2i k_Cmp (by kernel_rfl)
theorem k_bs:BsC Tryz.prog 161:=K2 mix Zq
theorem Qk5:Qrh Tryz.prog 118:=Q5w mix Q6b k_bs Qo9
theorem Qoh:Ut Tryz.prog 115:=Q22 mix Q2j k_okc Q1l
theorem Qok:Qau Tryz.prog 119:=Q08 mix Xa
theorem Qk9:Q5f Tryz.prog 77:=Ix mix B8 Qoh Qhk k_CompI Qk5 Qok
theorem Qoi:Qln Tryz.prog 45:=Q23 mix Q2k Qk9 (by kernel_rfl) k_rUni
theorem Qf9:Qdr Tryz.prog 25:=Q5p mix Q67
theorem k_hgt:HgtC Tryz.prog 15:=Q07 mix Q0i Qf9
theorem k_mnmx:Qrx Tryz.prog 114:=Q1s mix Q2b (by kernel_rfl)
theorem k_bnds:Q5g Tryz.prog 76:=Q5l mix Q63 k_mnmx
theorem k_mbox:Qry Tryz.prog 44:=Qcc mix Qc6 J8 k_bnds
theorem k_At:AtC Tryz.prog 13:=Qbv mix Q1j
theorem k_AtH:AtHC Tryz.prog 13:=Q8u mix Q1j
theorem k_SameL:Qai Tryz.prog 14:=Q5x mix Q6c Qop
theorem k_Slice:Qgd Tryz.prog 18:=Q3n mix Q4b Qf9 k_Cut k_Chain Qoq
theorem k_part:Qgm Tryz.prog 26:=Q5o mix Q66 k_Chk k_mbox k_hgt k_Slice
theorem Qo7:Qr2 Tryz.prog 27:=Q1x mix Q2e Qoi
theorem k_Slices:Q39 Tryz.prog 11:=Q1y mix Q2f Qf9 k_part Qo7
theorem k_fits:Qgp Tryz.prog 37:=Q3r mix Q4e Wr
theorem k_near:Qrw Tryz.prog 38:=Q3q mix Q4d
theorem Qod:Qi5 Tryz.prog 39:=Q3p mix Q4c
theorem Qk7:Q1c Tryz.prog 40:=Iu mix B7 Qod
theorem Qos:Qgt Tryz.prog 41 3:=Q09 mix X9
theorem k_BoxS:BoxC Tryz.prog 22:=Q5r mix Q68 k_fits k_near Qod Qk7 Qos
theorem k_few:Qgq Tryz.prog 17:=Q9d mix Q97
theorem k_low:LowC Tryz.prog 9:=Q9c mix Q96 k_few
theorem k_rect:Qri Tryz.prog 23:=I5 mix I1
theorem awake_ok:Qgv Tryz.prog 10:=Q4s mix Q4l k_hgt k_BoxS k_Slices k_rect k_SameL
end Go.Proofs.YtnaehggpjfdenaaGreat
