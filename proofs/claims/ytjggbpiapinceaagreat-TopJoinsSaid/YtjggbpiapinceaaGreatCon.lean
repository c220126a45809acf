/- What the program's functions do to values. -/
import Derived.Test.YtjggbpiapinceaaGreatOk
import Derived.Test.YtjggbpiapinceaaGreatLay
import Derived.Test.YtjggbpiapinceaaGreatLayJ
import Derived.Test.YtjggbpiapinceaaGreatAbsST
import Derived.Test.YtjggbpiapinceaaGreatAbsSI
import Derived.Test.YtjggbpiapinceaaGreatGoRw
set_option linter.unusedVariables false
set_option linter.unusedSimpArgs false
namespace Go.Proofs.YtjggbpiapinceaaGreat
open Go.Abs
theorem mix:Tryz.prog.follows .mixedOrders=true:=by rfl
theorem own:ownKnob Tryz.prog.godebug=none:=by kernel_rfl
theorem laid:laidOutB Tryz.prog=true:=by kernel_rfl
theorem k_Sort:Wj Tryz.prog 107 2:=Ed Qfs Tryz.isAgg167 Tryz.sizeOf167
theorem k_SortP:Wj Tryz.prog 56 2:=Ed sortPtL Tryz.isAgg97 Tryz.sizeOf97
theorem Qkr:Wj Tryz.prog 81 5:=Ed sortREL Tryz.isAgg143 Tryz.sizeOf143
theorem k_SortS:Wj Tryz.prog 86 2:=Ed sortStL Tryz.isAgg151 Tryz.sizeOf151
theorem k_SortR:Wj Tryz.prog 126 2:=Ed Qj7 Tryz.isAgg81 Tryz.sizeOf81
theorem k_SortI:Qd7 Tryz.prog 104:=Qj9 Qj8
theorem I8:Wy Tryz.prog 76:=Q3n mix Q40
theorem W7:E8 Tryz.prog 51:=Q5x mix Q6h I8
theorem Xs:Jl Tryz.prog 23:=Q4b mix Q49 W7
theorem Q33:Io Tryz.prog 52:=Q18 mix Q16 Xs
theorem Q6u:Im Tryz.prog 138:=Q5w mix Es I8
theorem Qki:Q7u Tryz.prog 138:=Q3o mix Es I8
theorem k_Sub:Qn5 Tryz.prog 110:=Qav mix Qbr W7
theorem k_coll:Qof Tryz.prog 74:=Ir mix B8 W7 k_Sub (Q3p mix Et Qki)
theorem k_deg:DegC Tryz.prog 49:=Uf mix Un Q33 k_coll
theorem Qkw:Qdm Tryz.prog 46 3:=Iy mix Yw
theorem k_edges:E9 Tryz.prog 94:=Ko mix Q14
theorem k_coh:CohC Tryz.prog 73:=Ul mix Ur k_edges
theorem Qc5:Q05 Tryz.prog 48:=Um mix Us Xs k_coh
theorem Q9i:E9 Tryz.prog 102:=Q3r mix Q42
theorem Qgr:Q3k Tryz.prog 105:=Q0k mix Q0v Xs Q9i
theorem k_rev:RevC Tryz.prog 106:=Q0j mix Q0u
theorem k_und:UndC Tryz.prog 103:=Ug mix Uo
theorem k_NaN:NaNC Tryz.prog 181:=Ql1 mix Bf
theorem k_Cmp:CmpC Tryz.prog 137:=Qdl mix Ut k_NaN
theorem k_Or:OrC Tryz.prog 136:=Or_ok mix Q4a
theorem k_order:Qdg Tryz.prog 108:=Q3q mix Q41 k_Cmp k_Or
theorem Qc6:Q07 Tryz.prog 72:=Iw mix B9 Qgr k_rev k_Sort k_order (by kernel_rfl)
theorem Qkv:Q87 Tryz.prog 47:=Q1s mix Q2l Xs Qc6
theorem Qks:Q7w Tryz.prog 70:=Q1r mix Q2k Xs Q9i k_und k_SortI
theorem k_Det:DetC Tryz.prog 111:=Qax mix Qbt Q6u (Q5y mix Et Q6u) (Qaw mix Qbs Q6u I8)
theorem k_Vol:VolC Tryz.prog 75:=Q17 mix Q15 Xs k_Det
theorem k_inv:InvC Tryz.prog 50:=Uh mix Up Qks k_Vol
theorem k_Chk:ChkC Tryz.prog 22:=Q0l mix Q0w Xs Qkv Qc5 k_deg k_inv
theorem k_fits:Qdj Tryz.prog 44:=Q23 mix Q2p W7
theorem k_near:Qnt Tryz.prog 30:=Q22 mix Q2o
theorem Qkm:Qex Tryz.prog 34:=Q21 mix Q2n
theorem k_Round:Qdd Tryz.prog 140:=Q6o mix Q6l (Ke mix Kd)
theorem k_Point:Qdf Tryz.prog 77:=B0 mix Bb W7 (Iz mix Ba k_Round)
theorem k_Cut:SecC Tryz.prog 25:=Q27 mix Q2r Xs Q33 (Q26 mix Q2q k_Point)
theorem Qkn:Q80 Tryz.prog 54:=Q0t mix Q13
theorem k_Bald:Qoi Tryz.prog 55:=U4 mix U1
theorem Qkl:Q7z Tryz.prog 57:=Ig mix I1
theorem k_take:Q7s Tryz.prog 80:=Q1b mix W5
theorem Qgt:Q3l Tryz.prog 58:=E3 mix K0 k_take
theorem k_Chain:Qdn Tryz.prog 26:=Bt mix Be Qkn k_Bald k_SortP Qkl (by kernel_rfl) Qgt
theorem k_rfits:Qdk Tryz.prog 125:=Q6b mix Q6j
theorem k_norm1:Qog Tryz.prog 127:=Q29 mix Q2s
theorem k_join:Qdh Tryz.prog 128:=Q6a mix Q6i
theorem k_Norm:Qns Tryz.prog 88:=Q6c mix Q6k k_rfits k_SortR k_norm1 (by kernel_rfl) k_join
theorem Qkp:CenC Tryz.prog 84:=B5 mix Bc
theorem k_cross:Q86 Tryz.prog 85:=Q0r mix W4 (Ke mix Kd)
theorem Qko:Qno Tryz.prog 82:=En mix I0
theorem k_row1:Qnn Tryz.prog 87:=Q0p mix Q10
theorem Qkk:Q88 Tryz.prog 59:=Q0s mix Q12
theorem Qkj:Q83 Tryz.prog 60:=Q0q mix Q11 Qkr Qko (by kernel_rfl)
theorem k_row:Qng Tryz.prog 62:=Q3z mix Q48 Qkp k_cross k_SortS k_row1 (by kernel_rfl) k_Norm
theorem k_rows:Qnf Tryz.prog 61:=Q2f mix Q2v (Ke mix Kd)
theorem Qku:Q7y Tryz.prog 27:=B6 mix Bd Qkk Qkj k_rows k_row
theorem k_fine:Qo9 Tryz.prog 42:=Q3x mix Q46
theorem Q55:Q1l Tryz.prog 17:=Q2c mix Q2t k_fine
theorem k_ins:InsC Tryz.prog 91:=Q0m mix Q0x
theorem k_kept:Qnu Tryz.prog 90:=Q3w mix Q45
theorem Qkq:BoundsC Tryz.prog 89:=Q0n mix Q0y
theorem k_comb:Qoe Tryz.prog 63:=El mix Ey Qkq k_ins k_kept
theorem Qc4:OpC Tryz.prog 29:=Ek mix Ew Q55 k_comb
theorem k_rUnion:UniC Tryz.prog 12:=Q2d mix Q2u Qc4
theorem Qkt:Qdc Tryz.prog 15:=Q3y mix Q47
theorem k_even:Qoa Tryz.prog 24:=Q3s mix Q43
theorem k_Slice:Q7v Tryz.prog 9:=Q1w mix Q2m k_even k_Cut k_Chain Qku
theorem Qgs:Q04 Tryz.prog 45:=Eh mix Eu Qkm
theorem k_BoxS:BoxC Tryz.prog 20:=Q3u mix Q44 k_fits k_near Qkm Qgs Qkw
theorem k_Inter:Qdi Tryz.prog 11:=Ui mix Uq Qc4
theorem k_Subt:Qn4 Tryz.prog 28:=Em mix Ez Qc4
theorem k_Within:Q01 Tryz.prog 10:=Q0o mix Q0z Q55 k_Subt
theorem Qkh:Q7t Tryz.prog 21:=Ku mix Ks
theorem k_slim:Qnb Tryz.prog 6:=U5 mix U2
theorem k_Join:Qnv Tryz.prog 8:=Q6q mix Q6m Xs
theorem awake_ok:Qdo Tryz.prog 7:=Kw mix Kt k_BoxS k_Slice Qkh Qkt k_Chk
end Go.Proofs.YtjggbpiapinceaaGreat
