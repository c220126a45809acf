/- What the program's functions do to values. -/
import Derived.Test.YtjggbpiapinceaaGreatOk
import Derived.Test.YtjggbpiapinceaaGreatLay
import Derived.Test.YtjggbpiapinceaaGreatLayJ
import Derived.Test.YtjggbpiapinceaaGreatAbsST
import Derived.Test.YtjggbpiapinceaaGreatAbsSI
import Derived.Test.YtjggbpiapinceaaGreatGoShpD
set_option linter.unusedVariables false
set_option linter.unusedSimpArgs false
namespace Go.Proofs.YtjggbpiapinceaaGreat
open Go.Abs
theorem mix:Tryz.prog.follows .mixedOrders=true:=by rfl
theorem own:ownKnob Tryz.prog.godebug=none:=by kernel_rfl
theorem laid:laidOutB Tryz.prog=true:=by kernel_rfl
theorem k_Sort:Wo Tryz.prog 107 2:=Em Qfe Tryz.isAgg167 Tryz.sizeOf167
theorem k_SortP:Wo Tryz.prog 56 2:=Em sortPtL Tryz.isAgg97 Tryz.sizeOf97
theorem Qke:Wo Tryz.prog 81 5:=Em sortREL Tryz.isAgg143 Tryz.sizeOf143
theorem k_SortS:Wo Tryz.prog 86 2:=Em sortStL Tryz.isAgg151 Tryz.sizeOf151
theorem k_SortR:Wo Tryz.prog 126 2:=Em Qiv Tryz.isAgg81 Tryz.sizeOf81
theorem k_SortI:Qd2 Tryz.prog 104:=Qix Qiw
theorem Ie:U3 Tryz.prog 76:=Q3k mix Q3w
theorem Wc:Eh Tryz.prog 51:=Q5o mix Q68 Ie
theorem Xs:Jl Tryz.prog 23:=Q46 mix Q44 Wc
theorem Q2z:Ix Tryz.prog 52:=Q16 mix Q14 Xs
theorem Q6k:Iv Tryz.prog 138:=Q5n mix I0 Ie
theorem Qk5:Q7m Tryz.prog 138:=Q3l mix I0 Ie
theorem k_Sub:Qmu Tryz.prog 110:=Qaq mix Qbm Wc
theorem k_coll:Qnx Tryz.prog 74:=Iz mix Bd Wc k_Sub (Q3m mix I1 Qk5)
theorem k_deg:DegC Tryz.prog 49:=Ul mix Ut Q2z k_coll
theorem Q9d:Jk Tryz.prog 46 3:=Jw mix Yr
theorem Qki:Jk Tryz.prog 64 3:=B5 mix Ys
theorem k_edges:Ei Tryz.prog 94:=Kr mix Q12
theorem k_coh:CohC Tryz.prog 73:=Ur mix Uw k_edges
theorem Qc2:Q0c Tryz.prog 48:=Us mix Ux Xs k_coh
theorem Q9c:Ei Tryz.prog 102:=Q3o mix Q3y
theorem Qgh:Q3g Tryz.prog 105:=Q0o mix Q0w Xs Q9c
theorem k_rev:RevC Tryz.prog 106:=Q0n mix Q0v
theorem k_und:UndC Tryz.prog 103:=Um mix Uu
theorem k_NaN:NaNC Tryz.prog 181:=Qkm mix Bn
theorem k_Cmp:CmpC Tryz.prog 137:=Qdc mix Uy k_NaN
theorem k_Or:OrC Tryz.prog 136:=Or_ok mix Q45
theorem k_order:Qd8 Tryz.prog 108:=Q3n mix Q3x k_Cmp k_Or
theorem Qc3:Q0e Tryz.prog 72:=B3 mix Be Qgh k_rev k_Sort k_order (by kernel_rfl)
theorem Qkh:Q7y Tryz.prog 47:=Q1p mix Q2h Xs Qc3
theorem Qkf:Q7n Tryz.prog 70:=Q1o mix Q2g Xs Q9c k_und k_SortI
theorem k_Det:DetC Tryz.prog 111:=Qas mix Qbo Q6k (Q5p mix I1 Q6k) (Qar mix Qbn Q6k Ie)
theorem k_Vol:VolC Tryz.prog 75:=Q15 mix Q13 Xs k_Det
theorem k_inv:InvC Tryz.prog 50:=Uo mix Uv Qkf k_Vol
theorem k_Chk:ChkC Tryz.prog 22:=Q0p mix Q0x Xs Qkh Qc2 k_deg k_inv
theorem Qkb:Q7u Tryz.prog 44:=Q1y mix Q2l Wc
theorem Qka:Qej Tryz.prog 30:=Q1x mix Q2k
theorem Qc1:Q5j Tryz.prog 34:=Q1w mix Q2j
theorem Qgk:Q3i Tryz.prog 31:=Er mix I3 Qkb
theorem k_Move:Qek Tryz.prog 13:=Q1z mix Q2m Xs Qka Bf Q9d Qki Bg (by kernel_rfl) Qc1 Qgk
theorem Qgi:Q0b Tryz.prog 45:=Ep mix I2 Qc1
theorem k_BoxS:BoxC Tryz.prog 20:=Q3r mix Q40 Qkb Qka Qc1 Qgi Q9d
theorem k_Round:Qd5 Tryz.prog 140:=Q6f mix Q6d (Kf mix Ke)
theorem k_Point:Qd7 Tryz.prog 77:=B7 mix Bi Wc (B6 mix Bh k_Round)
theorem k_Cut:SecC Tryz.prog 25:=Q23 mix Q2o Xs Q2z (Q22 mix Q2n k_Point)
theorem Qk9:Q7r Tryz.prog 54:=Q0u mix Q11
theorem k_Bald:Qo0 Tryz.prog 55:=U9 mix U6
theorem Qk8:Q7q Tryz.prog 57:=Im mix I5
theorem k_take:Q7k Tryz.prog 80:=Q17 mix W9
theorem Qgj:Q3h Tryz.prog 58:=Ec mix K0 k_take
theorem k_Chain:Qdd Tryz.prog 26:=Q00 mix Bm Qk9 k_Bald k_SortP Qk8 (by kernel_rfl) Qgj
theorem k_rfits:Qda Tryz.prog 125:=Q61 mix Q6a
theorem k_norm1:Qny Tryz.prog 127:=Q25 mix Q2p
theorem k_join:Qd9 Tryz.prog 128:=Q60 mix Q69
theorem k_Norm:Qnf Tryz.prog 88:=Q62 mix Q6b k_rfits k_SortR k_norm1 (by kernel_rfl) k_join
theorem Qkd:CenC Tryz.prog 84:=B9 mix Bj
theorem k_cross:Q7x Tryz.prog 85:=Q0s mix W8 (Kf mix Ke)
theorem Qkc:Qnb Tryz.prog 82:=Eu mix I4
theorem k_row1:Qna Tryz.prog 87:=Q0q mix Q0y
theorem Qk7:Q7z Tryz.prog 59:=Q0t mix Q10
theorem Qk6:Q7v Tryz.prog 60:=Q0r mix Q0z Qke Qkc (by kernel_rfl)
theorem k_row:Qn3 Tryz.prog 62:=Q3v mix Q43 Qkd k_cross k_SortS k_row1 (by kernel_rfl) k_Norm
theorem k_rows:Qn2 Tryz.prog 61:=Q2a mix Q2s (Kf mix Ke)
theorem Qkg:Q7p Tryz.prog 27:=Ba mix Bl Qk7 Qk6 k_rows k_row
theorem k_fine:Qns Tryz.prog 42:=Q3t mix Q41
theorem Q4x:Q1i Tryz.prog 17:=Q27 mix Q2q k_fine
theorem k_Same18:Q3e Tryz.prog 15:=Q3u mix Q42
theorem k_even:Qnt Tryz.prog 24:=Q3p mix Q3z
theorem k_Slice:Q3d Tryz.prog 9:=Q1t mix Q2i k_even k_Cut k_Chain Qkg
theorem k_Box18:Qde Tryz.prog 35:=Q64 mix Q6c Q4x
theorem k_Shift18:Iw Tryz.prog 14:=Q28 mix Q2r Q4x k_Box18
theorem Qk4:Q7l Tryz.prog 21:=Ky mix Ku
theorem k_slim:Qah Tryz.prog 6:=Ua mix U7
theorem awake_ok:Q3j Tryz.prog 7:=Kz mix Kw k_BoxS k_Slice Qk4 k_Same18 k_Chk
end Go.Proofs.YtjggbpiapinceaaGreat
