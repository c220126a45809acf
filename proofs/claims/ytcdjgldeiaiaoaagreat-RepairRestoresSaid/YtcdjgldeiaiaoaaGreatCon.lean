/- What the program's functions do to values. -/
import Derived.Test.YtcdjgldeiaiaoaaGreatOk
import Derived.Test.YtcdjgldeiaiaoaaGreatLay
import Derived.Test.YtcdjgldeiaiaoaaGreatLayJ
import Derived.Test.YtcdjgldeiaiaoaaGreatAbsST
import Derived.Test.YtcdjgldeiaiaoaaGreatAbsSI
import Derived.Test.YtcdjgldeiaiaoaaGreatGoSch
set_option linter.unusedVariables false
set_option linter.unusedSimpArgs false
namespace Go.Proofs.YtcdjgldeiaiaoaaGreat
open Go.Abs
theorem mix:Tryz.prog.follows .mixedOrders=true:=by rfl
theorem own:ownKnob Tryz.prog.godebug=none:=by kernel_rfl
theorem laid:laidOutB Tryz.prog=true:=by kernel_rfl
theorem k_Sort:Q9q Tryz.prog 106 2:=Qcq Qeg Tryz.isAgg86 Tryz.sizeOf86
theorem k_SortV:Q9q Tryz.prog 121 3:=Qcq Qhh Tryz.isAgg38 Tryz.sizeOf38
theorem k_SortI:Qc2 Tryz.prog 102:=Qhj Qhi
theorem Ia:X7 Tryz.prog 103:=Q3m mix Q3v
theorem Bi:X7 Tryz.prog 86:=Q0e mix Q0k
theorem Ib:Kl Tryz.prog 61:=Q5d mix Q5z Ia
theorem Qii:Kl Tryz.prog 49:=Q1v mix Q2d Bi
theorem Yd:Y3 Tryz.prog 29:=Q44 mix Q40 Ib
theorem Qip:Y3 Tryz.prog 18:=Q1t mix Q2b Qii
theorem k_Less:Ql4 Tryz.prog 123:=Q7r mix Q89
theorem k_cmp:Qlk Tryz.prog 122:=Q15 mix Q23 k_Less
theorem k_used:Qkl Tryz.prog 90:=Q5b mix Q5x k_SortV k_cmp (by kernel_rfl)
theorem k_Weld:Qki Tryz.prog 55:=Q5c mix Q5y Yd k_used
theorem Qb2:Q3j Tryz.prog 64:=Q0q mix Q0n Yd
theorem Q69:Xl Tryz.prog 131:=Ek mix Ey Ia
theorem Q2t:Xl Tryz.prog 87:=Q1u mix Q2c Bi
theorem Qih:Q7c Tryz.prog 131:=Q3n mix Ey Ia
theorem k_Sub:Qko Tryz.prog 109:=Qa1 mix Qap Ib
theorem Qil:Qdq Tryz.prog 65:=Iy mix B9 Ib k_Sub (Q3o mix Ez Qih)
theorem k_deg:DegC Tryz.prog 32:=Ui mix Uu Qb2 Qil
theorem Qf8:Q7h Tryz.prog 124:=Q17 mix Q25
theorem Qig:Q7b Tryz.prog 91:=Q16 mix Q24 Qf8
theorem W9:Xt Tryz.prog 54 3:=Jv mix X9
theorem Q2v:Xt Tryz.prog 85 3:=B4 mix Xa
theorem k_clean:Qcd Tryz.prog 56:=Q3l mix Q3u Yd W9 Qig Qil
theorem Q6a:Km Tryz.prog 92:=Kr mix Q0l
theorem Qim:Qlj Tryz.prog 63:=Us mix E1 Q6a
theorem Qb3:Q00 Tryz.prog 31:=Ut mix E4 Yd Qim
theorem Q8j:Km Tryz.prog 100:=Q3q mix Q3x
theorem Q4t:Iu Tryz.prog 104:=Q0c mix Q0i Yd Q8j
theorem k_rev:RevC Tryz.prog 105:=Q0b mix Q0h
theorem k_und:Qgg Tryz.prog 101:=J4 mix Uv
theorem k_NaN:NaNC Tryz.prog 153:=Qis mix Be
theorem k_Cmp:CmpC Tryz.prog 130:=Qcc mix E5 k_NaN
theorem k_Or:OrC Tryz.prog 129:=Or_ok mix Q42
theorem k_order:Qc8 Tryz.prog 107:=Q3p mix Q3w k_Cmp k_Or
theorem Q2w:U5 Tryz.prog 62:=B0 mix Ba Q4t k_rev k_Sort k_order (by kernel_rfl)
theorem Q8k:Q12 Tryz.prog 30:=Q1i mix Q27 Yd Q2w
theorem Q2u:Iq Tryz.prog 60:=Q1h mix Q26 Yd Q8j k_und k_SortI
theorem k_Det:Qgl Tryz.prog 110:=Qa2 mix Qar Q69 (El mix Ez Q69) (Q1a mix Qaq Q69 Ia)
theorem k_Vol:Qc0 Tryz.prog 66:=Ku mix Q0m Yd k_Det
theorem k_rDet:Qgl Tryz.prog 51:=Q5q mix Q61 Q2t (Q1w mix Q2e Q2t) (Q5p mix Q60 Q2t Bi)
theorem k_rVol:Qc0 Tryz.prog 21:=B7 mix Bc Qip k_rDet
theorem Qin:Qdl Tryz.prog 96:=Ur mix Uz
theorem Qf9:Q3g Tryz.prog 59:=Ew mix I1 Yd Q8k Qim W9 Q2v Q2u k_Vol Qin
theorem k_both:Qgg Tryz.prog 93:=Q22 mix Q2f
theorem k_Idx:Ql5 Tryz.prog 125:=B3 mix Yw
theorem k_Has:Ql6 Tryz.prog 95:=U7 mix Yh k_Idx
theorem k_Visit:Qc1 Tryz.prog 94:=Q0g mix E3 Q6a k_Has Qin
theorem Qio:Q7e Tryz.prog 57:=B8 mix Bd Yd Q2v Q6a k_both k_Visit (by kernel_rfl) Qim W9
theorem k_Fan:FanC Tryz.prog 99:=Q6e mix Q62
theorem k_Loops:Qc9 Tryz.prog 97:=Q3r mix Q3y Yd Q4t Q2w k_rev
theorem Qik:Q7g Tryz.prog 98:=Q0s mix Q0o
theorem k_Fill:Qlh Tryz.prog 58:=Q45 mix Q41 Yd k_Loops W9 Q2v k_Fan Qik
theorem k_inv:InvC Tryz.prog 33:=Uo mix Uy Q2u k_Vol
theorem k_Chk:ChkC Tryz.prog 12:=Q0d mix Q0j Yd Q8k Qb3 k_deg k_inv
theorem jobOk {P:Program} {f:FuncId} {ok:Mesh->Rep->Prop} {g:Mesh->Rep->Mesh × Rep × Int} (h:By P f ok g) (hk:∀m r,okJ m r->ok m r):By P f okJ g:=λ H id m r ho hid=>h H id m r (hk m r ho) hid
theorem k_jw:By Tryz.prog 23 okJ (Wb 0):=jobOk (Um mix Uw k_Weld) λ_ _ h=>h
theorem k_jc:By Tryz.prog 24 okJ (Wb 1):=jobOk (U9 mix Ub k_clean) λ_ _ _=>trivial
theorem k_jo:By Tryz.prog 25 okJ (Wb 3):=jobOk (W5 mix W7 Qio) λ_ _ _=>trivial
theorem k_jf:By Tryz.prog 26 okJ (Wb 4):=jobOk (Un mix Ux k_Fill) λ_ _ _=>trivial
theorem k_ju:By Tryz.prog 27 okJ (Wb 5):=jobOk (Kx mix Ky Qf9) λ_ _ _=>trivial
theorem k_jk:By Tryz.prog 28 okJ (Wb 6):=jobOk (Ua mix Uc Q2u k_Chk) λ_ _ _=>trivial
theorem k_Rep:RepC Tryz.prog 11:=B6 mix Bb λk hk=>match k,hk with | 0,_=>⟨by kernel_rfl,k_jw⟩ | 1,_=>⟨by kernel_rfl,k_jc⟩ | 2,_=>⟨by kernel_rfl,k_jw⟩ | 3,_=>⟨by kernel_rfl,k_jo⟩ | 4,_=>⟨by kernel_rfl,k_jf⟩ | 5,_=>⟨by kernel_rfl,k_ju⟩ | 6,_=>⟨by kernel_rfl,k_jk⟩
theorem awake_ok:Qce Tryz.prog 10:=Q2o mix Q2g k_Rep k_Chk
theorem k_fits:Qcb Tryz.prog 52:=Q1q mix Q2a Ib
theorem k_near:Ql3 Tryz.prog 44:=Q1p mix Q29
theorem Qij:Qdn Tryz.prog 48:=Q1o mix Q28
theorem Qf7:Bz Tryz.prog 53:=Eo mix I0 Qij
theorem k_BoxS:BoxC Tryz.prog 22:=Q3t mix Q3z k_fits k_near Qij Qf7 W9
end Go.Proofs.YtcdjgldeiaiaoaaGreat
