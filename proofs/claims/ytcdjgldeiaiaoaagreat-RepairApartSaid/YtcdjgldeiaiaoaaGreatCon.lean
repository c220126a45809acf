/- What the program's functions do to values. -/
import Derived.Test.YtcdjgldeiaiaoaaGreatOk
import Derived.Test.YtcdjgldeiaiaoaaGreatLay
import Derived.Test.YtcdjgldeiaiaoaaGreatLayJ
import Derived.Test.YtcdjgldeiaiaoaaGreatAbsST
import Derived.Test.YtcdjgldeiaiaoaaGreatAbsSI
import Derived.Test.YtcdjgldeiaiaoaaGreatGoShpA
set_option linter.unusedVariables false
set_option linter.unusedSimpArgs false
namespace Go.Proofs.YtcdjgldeiaiaoaaGreat
open Go.Abs
theorem mix:Tryz.prog.follows .mixedOrders=true:=by rfl
theorem own:ownKnob Tryz.prog.godebug=none:=by kernel_rfl
theorem laid:laidOutB Tryz.prog=true:=by kernel_rfl
theorem k_Sort:Qbm Tryz.prog 106 2:=Qen Qgc Tryz.isAgg86 Tryz.sizeOf86
theorem k_SortV:Qbm Tryz.prog 121 3:=Qen Qjj Tryz.isAgg38 Tryz.sizeOf38
theorem k_SortI:Qe1 Tryz.prog 102:=Qjl Qjk
theorem Bm:Xl Tryz.prog 103:=Q5d mix Q5m
theorem Q0w:Xl Tryz.prog 86:=Q1s mix Q1z
theorem Bn:W8 Tryz.prog 61:=Q75 mix Q7r Bm
theorem Qkr:W8 Tryz.prog 49:=Q3d mix Q3v Q0w
theorem Ye:Zp Tryz.prog 29:=Q5v mix Q5r Bn
theorem k_Check7:Zp Tryz.prog 18:=Q3b mix Q3t Qkr
theorem k_Less:Qnl Tryz.prog 123:=Q9j mix Qa2
theorem k_cmp:Qo2 Tryz.prog 122:=Q2l mix Q3k k_Less
theorem k_used:Qmz Tryz.prog 90:=Q72 mix Q7p k_SortV k_cmp (by kernel_rfl)
theorem k_Weld:Qmw Tryz.prog 55:=Q73 mix Q7q Ye k_used
theorem Qcz:Q58 Tryz.prog 64:=Q26 mix Q23 Ye
theorem Q85:Xx Tryz.prog 131:=Il mix B7 Bm
theorem Q4d:Xx Tryz.prog 87:=Q3c mix Q3u Q0w
theorem Qkq:Q94 Tryz.prog 131:=Q5e mix B7 Bm
theorem k_Sub:Qn3 Tryz.prog 109:=Qbx mix Qcj Bn
theorem Qkt:Qfo Tryz.prog 65:=Q07 mix Q0h Bn k_Sub (Q5f mix B8 Qkq)
theorem k_deg:DegC Tryz.prog 32:=Ec mix Ep Qcz Qkt
theorem Qhb:Q99 Tryz.prog 124:=Q2n mix Q3m
theorem Qkp:Q93 Tryz.prog 91:=Q2m mix Q3l Qhb
theorem Wy:Yj Tryz.prog 54 3:=Kf mix Xn
theorem Bo:Yj Tryz.prog 85 3:=Q0c mix Xo
theorem k_clean:Qee Tryz.prog 56:=Q5c mix Q5l Ye Wy Qkp Qkt
theorem Q86:W9 Tryz.prog 92:=We mix Q21
theorem Qku:Qo1 Tryz.prog 63:=En mix Ey Q86
theorem Qd0:Q1d Tryz.prog 31:=Eo mix I0 Ye Qku
theorem Qae:W9 Tryz.prog 100:=Q5h mix Q5o
theorem Q6i:Q02 Tryz.prog 104:=Q1q mix Q1x Ye Qae
theorem k_rev:RevC Tryz.prog 105:=Q1p mix Q1w
theorem k_und:Qii Tryz.prog 101:=Jm mix Er
theorem k_NaN:NaNC Tryz.prog 153:=Ql0 mix Q0o
theorem k_Cmp:CmpC Tryz.prog 130:=Qed mix I1 k_NaN
theorem k_Or:OrC Tryz.prog 129:=Or_ok mix Q5t
theorem k_order:Qe7 Tryz.prog 107:=Q5g mix Q5n k_Cmp k_Or
theorem Q4f:Us Tryz.prog 62:=Q09 mix Q0i Q6i k_rev k_Sort k_order (by kernel_rfl)
theorem Qaf:Q2j Tryz.prog 30:=Q2x mix Q3o Ye Q4f
theorem Q4e:Q00 Tryz.prog 60:=Q2w mix Q3n Ye Qae k_und k_SortI
theorem k_Det:Qio Tryz.prog 110:=Qby mix Qcl Q85 (Im mix B8 Q85) (Q2p mix Qck Q85 Bm)
theorem k_Vol:Qdz Tryz.prog 66:=Wh mix Q22 Ye k_Det
theorem k_rDet:Qio Tryz.prog 51:=Q7k mix Q7u Q4d (Q3e mix Q3w Q4d) (Q7j mix Q7t Q4d Q0w)
theorem k_rVol:Qdz Tryz.prog 21:=Q0f mix Q0m k_Check7 k_rDet
theorem Qkv:Qfj Tryz.prog 96:=Em mix Ew
theorem Qhc:Q56 Tryz.prog 59:=B5 mix Ba Ye Qaf Qku Wy Bo Q4e k_Vol Qkv
theorem k_both:Qii Tryz.prog 93:=Q3i mix Q3x
theorem k_Idx:Qnn Tryz.prog 125:=Q0b mix Xb
theorem k_Has:Qno Tryz.prog 95:=Uu mix Yp k_Idx
theorem k_Visit:Qe0 Tryz.prog 94:=Q1v mix Ez Q86 k_Has Qkv
theorem Qkw:Q96 Tryz.prog 57:=Q0g mix Q0n Ye Bo Q86 k_both k_Visit (by kernel_rfl) Qku Wy
theorem k_Fan:FanC Tryz.prog 99:=Q8a mix Q7w
theorem k_Loops:Qe8 Tryz.prog 97:=Q5i mix Q5p Ye Q6i Q4f k_rev
theorem Qks:Q98 Tryz.prog 98:=Q27 mix Q24
theorem k_Fill:Qny Tryz.prog 58:=Q5w mix Q5s Ye k_Loops Wy Bo k_Fan Qks
theorem k_inv:InvC Tryz.prog 33:=Ei mix Eu Q4e k_Vol
theorem k_Chk:ChkC Tryz.prog 12:=Q1r mix Q1y Ye Qaf Qd0 k_deg k_inv
theorem jobOk {P:Program} {f:FuncId} {ok:Mesh->Rep->Prop} {g:Mesh->Rep->Mesh × Rep × Int} (h:Q1c P f ok g) (hk:∀m r,okJ m r->ok m r):Q1c P f okJ g:=λ H id m r ho hid=>h H id m r (hk m r ho) hid
theorem k_jw:Q1c Tryz.prog 23 okJ (U0 0):=jobOk (Eg mix Es k_Weld) λ_ _ h=>h
theorem k_jc:Q1c Tryz.prog 24 okJ (U0 1):=jobOk (Uw mix Uy k_clean) λ_ _ _=>trivial
theorem k_jo:Q1c Tryz.prog 25 okJ (U0 3):=jobOk (Ws mix Wu Qkw) λ_ _ _=>trivial
theorem k_jf:Q1c Tryz.prog 26 okJ (U0 4):=jobOk (Eh mix Et k_Fill) λ_ _ _=>trivial
theorem k_ju:Q1c Tryz.prog 27 okJ (U0 5):=jobOk (Wj mix Wl Qhc) λ_ _ _=>trivial
theorem k_jk:Q1c Tryz.prog 28 okJ (U0 6):=jobOk (Ux mix Uz Q4e k_Chk) λ_ _ _=>trivial
theorem k_Rep:RepC Tryz.prog 11:=Q0e mix Q0l λk hk=>match k,hk with | 0,_=>⟨by kernel_rfl,k_jw⟩ | 1,_=>⟨by kernel_rfl,k_jc⟩ | 2,_=>⟨by kernel_rfl,k_jw⟩ | 3,_=>⟨by kernel_rfl,k_jo⟩ | 4,_=>⟨by kernel_rfl,k_jf⟩ | 5,_=>⟨by kernel_rfl,k_ju⟩ | 6,_=>⟨by kernel_rfl,k_jk⟩
theorem k_few:Qnz Tryz.prog 9:=Q83 mix Q7v
theorem awake_ok:Qef Tryz.prog 10:=Q49 mix Q3y k_Rep k_Chk
theorem k_fits:Qeb Tryz.prog 52:=Q36 mix Q3r Bn
theorem k_near:Qni Tryz.prog 44:=Q35 mix Q3q
theorem k_plus:Qfl Tryz.prog 48:=Q34 mix Q3p
theorem Qha:Q59 Tryz.prog 45:=Iw mix B9 k_fits
theorem k_Move:Qnj Tryz.prog 17:=Q37 mix Q3s Ye k_near Q0j Wy Bo Q0k (by kernel_rfl) k_plus Qha
theorem Qhd:Q5a Tryz.prog 50:=Q1t mix Q20
theorem k_Box7:Qnk Tryz.prog 19:=Q7i mix Q7s k_Check7 Qhd
theorem k_Join7:Qnm Tryz.prog 20:=Q5k mix Q5q k_Check7
end Go.Proofs.YtcdjgldeiaiaoaaGreat
