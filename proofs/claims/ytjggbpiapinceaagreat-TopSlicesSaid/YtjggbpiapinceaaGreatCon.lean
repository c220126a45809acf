/- What the program's functions do to values. -/
import Derived.Test.YtjggbpiapinceaaGreatOk
import Derived.Test.YtjggbpiapinceaaGreatLay
import Derived.Test.YtjggbpiapinceaaGreatLayJ
import Derived.Test.YtjggbpiapinceaaGreatAbsST
import Derived.Test.YtjggbpiapinceaaGreatAbsSI
import Derived.Test.YtjggbpiapinceaaGreatGoRw
set_option linter.unusedVariables false
set_option linter.unusedSimpArgs false
namespace Go.Proofs.YtjggbpiapinceaaGreat
open Go.Abs
theorem mix:Tryz.prog.follows .mixedOrders=true:=by rfl
theorem own:ownKnob Tryz.prog.godebug=none:=by kernel_rfl
theorem laid:laidOutB Tryz.prog=true:=by kernel_rfl
theorem k_Sort:Wc Tryz.prog 107 2:=Ef Qku Tryz.isAgg167 Tryz.sizeOf167
theorem k_SortP:Wc Tryz.prog 56 2:=Ef sortPtL Tryz.isAgg97 Tryz.sizeOf97
theorem Qqh:Wc Tryz.prog 81 5:=Ef sortREL Tryz.isAgg143 Tryz.sizeOf143
theorem k_SortS:Wc Tryz.prog 86 2:=Ef sortStL Tryz.isAgg151 Tryz.sizeOf151
theorem k_SortR:Wc Tryz.prog 126 2:=Ef Qos Tryz.isAgg81 Tryz.sizeOf81
theorem k_SortV:Wc Tryz.prog 129 3:=Ef Qor Tryz.isAgg41 Tryz.sizeOf41
theorem k_SortI:Qhx Tryz.prog 104:=Qou Qot
theorem Q0o:Ez Tryz.prog 76:=Q71 mix Q7g
theorem Uq:Bu Tryz.prog 51:=Q9q mix Qaf Q0o
theorem Ya:Ys Tryz.prog 23:=Q7u mix Q7q Uq
theorem k_Less:Qtk Tryz.prog 131:=Qcl mix Qdd
theorem k_cmp:Qu6 Tryz.prog 130:=Q4b mix Q5c k_Less
theorem k_used:Qst Tryz.prog 92:=Q9n mix Qad k_SortV k_cmp (by kernel_rfl)
theorem k_Weld:Qsq Tryz.prog 65:=Q9o mix Qae Ya k_used
theorem Q62:Q18 Tryz.prog 52:=Q3r mix Q3n Ya
theorem Qar:Q13 Tryz.prog 138:=Q9p mix Q0a Q0o
theorem Qq6:Qbz Tryz.prog 138:=Q72 mix Q0a Q0o
theorem k_Sub:Qsw Tryz.prog 110:=Qff mix Qgc Uq
theorem Qqe:Qjz Tryz.prog 74:=Q1c mix Q1r Uq k_Sub (Q73 mix Q0b Qq6)
theorem k_deg:DegC Tryz.prog 49:=Iq mix B4 Q62 Qqe
theorem Qly:Qcb Tryz.prog 132:=Q4d mix Q5e
theorem Qq4:Qbv Tryz.prog 93:=Q4c mix Q5d Qly
theorem Ur:Jj Tryz.prog 46 3:=Kx mix Xr
theorem Q64:Jj Tryz.prog 64 3:=Q1i mix Xs
theorem k_clean:Qic Tryz.prog 66:=Q6z mix Q7f Ya Ur Qq4 Qqe
theorem Qas:Wz Tryz.prog 94:=U4 mix Q3l
theorem Qqf:Qu5 Tryz.prog 73:=B1 mix Ba Qas
theorem Qgt:Q2q Tryz.prog 48:=B3 mix Bc Ya Qqf
theorem Qdq:Wz Tryz.prog 102:=Q76 mix Q7j
theorem Q90:Q16 Tryz.prog 105:=Q35 mix Q3f Ya Qdq
theorem k_rev:RevC Tryz.prog 106:=Q34 mix Q3e
theorem k_und:Qnk Tryz.prog 103:=Jx mix B5
theorem k_NaN:NaNC Tryz.prog 181:=Qqq mix Q20
theorem k_Cmp:CmpC Tryz.prog 137:=Qib mix Bd k_NaN
theorem k_Or:OrC Tryz.prog 136:=Or_ok mix Q7s
theorem k_order:Qi6 Tryz.prog 108:=Q75 mix Q7i k_Cmp k_Or
theorem Q65:I0 Tryz.prog 72:=Q1f mix Q1s Q90 k_rev k_Sort k_order (by kernel_rfl)
theorem Qdr:Q48 Tryz.prog 47:=Q4j mix Q5g Ya Q65
theorem Q63:Q14 Tryz.prog 70:=Q4i mix Q5f Ya Qdq k_und k_SortI
theorem k_Det:DetC Tryz.prog 111:=Qfh mix Qge Qar (Q9r mix Q0b Qar) (Qfg mix Qgd Qar Q0o)
theorem k_Vol:VolC Tryz.prog 75:=Q3q mix Q3m Ya k_Det
theorem Qqj:Qjt Tryz.prog 98:=B0 mix B9
theorem Qlz:Q6t Tryz.prog 69:=Q09 mix Q0e Ya Qdr Qqf Ur Q64 Q63 k_Vol Qqj
theorem k_both:Qnk Tryz.prog 95:=Q5b mix Q5r
theorem k_Idx:Qtl Tryz.prog 133:=Q1h mix Xf
theorem k_Has:Qtn Tryz.prog 97:=I2 mix Yz k_Idx
theorem k_Visit:Qhw Tryz.prog 96:=Q3c mix Bb Qas k_Has Qqj
theorem Qql:Qc4 Tryz.prog 67:=Q1q mix Q1y Ya Q64 Qas k_both k_Visit (by kernel_rfl) Qqf Ur
theorem k_Fan:FanC Tryz.prog 101:=Qax mix Qak
theorem k_Loops:Qi7 Tryz.prog 99:=Q77 mix Q7k Ya Q90 Q65 k_rev
theorem Qqc:Qc7 Tryz.prog 100:=Q3t mix Q3o
theorem k_Fill:Qu0 Tryz.prog 68:=Q7v mix Q7r Ya k_Loops Ur Q64 k_Fan Qqc
theorem k_inv:InvC Tryz.prog 50:=Ix mix B8 Q63 k_Vol
theorem k_Chk:ChkC Tryz.prog 22:=Q36 mix Q3g Ya Qdr Qgt k_deg k_inv
theorem jobOk {P:Program} {f:FuncId} {ok:Mesh->Rep->Prop} {g:Mesh->Rep->Mesh × Rep × Int} (h:Q2o P f ok g) (hk:∀m r,okJ m r->ok m r):Q2o P f okJ g:=λ H id m r ho hid=>h H id m r (hk m r ho) hid
theorem k_jw:Q2o Tryz.prog 36 okJ (Ut 0):=jobOk (Iv mix B6 k_Weld) λ_ _ h=>h
theorem k_jc:Q2o Tryz.prog 37 okJ (Ut 1):=jobOk (I4 mix I6 k_clean) λ_ _ _=>trivial
theorem k_jo:Q2o Tryz.prog 38 okJ (Ut 3):=jobOk (Uj mix Ul Qql) λ_ _ _=>trivial
theorem k_jf:Q2o Tryz.prog 39 okJ (Ut 4):=jobOk (Iw mix B7 k_Fill) λ_ _ _=>trivial
theorem k_ju:Q2o Tryz.prog 40 okJ (Ut 5):=jobOk (U8 mix Ua Qlz) λ_ _ _=>trivial
theorem k_jk:Q2o Tryz.prog 41 okJ (Ut 6):=jobOk (I5 mix I7 Q63 k_Chk) λ_ _ _=>trivial
theorem k_Rep:RepC Tryz.prog 16:=Q1m mix Q1v λk hk=>match k,hk with | 0,_=>⟨by kernel_rfl,k_jw⟩ | 1,_=>⟨by kernel_rfl,k_jc⟩ | 2,_=>⟨by kernel_rfl,k_jw⟩ | 3,_=>⟨by kernel_rfl,k_jo⟩ | 4,_=>⟨by kernel_rfl,k_jf⟩ | 5,_=>⟨by kernel_rfl,k_ju⟩ | 6,_=>⟨by kernel_rfl,k_jk⟩
theorem k_fits:Qi9 Tryz.prog 44:=Q4u mix Q5k Uq
theorem k_near:Qti Tryz.prog 30:=Q4t mix Q5j
theorem Qqa:Qjv Tryz.prog 34:=Q4s mix Q5i
theorem Qlw:Q2p Tryz.prog 45:=Q01 mix Q0c Qqa
theorem k_BoxS:BoxC Tryz.prog 20:=Q7a mix Q7m k_fits k_near Qqa Qlw Ur
theorem k_Round:Qi3 Tryz.prog 140:=Qan mix Qaj (Wr mix Wq)
theorem k_Point:Qi5 Tryz.prog 77:=Q1k mix Q1u Uq (Q1j mix Q1t k_Round)
theorem k_Cut:SecC Tryz.prog 25:=Q4y mix Q5m Ya Q62 (Q4x mix Q5l k_Point)
theorem Qqb:Qc3 Tryz.prog 54:=Q3b mix Q3k
theorem k_Bald:Qu9 Tryz.prog 55:=Ib mix I8
theorem Qq9:Qc2 Tryz.prog 57:=Q0u mix Q0f
theorem k_take:Qbx Tryz.prog 80:=Q3v mix Un
theorem Qlx:Q6v Tryz.prog 58:=Bo mix W3 k_take
theorem k_Chain:Qid Tryz.prog 26:=Q2c mix Q1z Qqb k_Bald k_SortP Qq9 (by kernel_rfl) Qlx
theorem k_rfits:Qia Tryz.prog 125:=Qa3 mix Qah
theorem k_norm1:Qu7 Tryz.prog 127:=Q4z mix Q5n
theorem k_join:Qi8 Tryz.prog 128:=Qa2 mix Qag
theorem k_Norm:Qth Tryz.prog 88:=Qa4 mix Qai k_rfits k_SortR k_norm1 (by kernel_rfl) k_join
theorem Qqg:CenC Tryz.prog 84:=Q1n mix Q1w
theorem k_cross:Qc9 Tryz.prog 85:=Q39 mix Um (Wr mix Wq)
theorem Qqd:Qtd Tryz.prog 82:=Q05 mix Q0d
theorem k_row1:Qtc Tryz.prog 87:=Q37 mix Q3h
theorem Qq8:Qca Tryz.prog 59:=Q3a mix Q3j
theorem Qq7:Qc8 Tryz.prog 60:=Q38 mix Q3i Qqh Qqd (by kernel_rfl)
theorem k_row:Qt5 Tryz.prog 62:=Q7e mix Q7p Qqg k_cross k_SortS k_row1 (by kernel_rfl) k_Norm
theorem k_rows:Qt4 Tryz.prog 61:=Q55 mix Q5q (Wr mix Wq)
theorem Qqk:Qc1 Tryz.prog 27:=Q1o mix Q1x Qq8 Qq7 k_rows k_row
theorem k_fine:Qtz Tryz.prog 42:=Q7c mix Q7n
theorem k_Valid18:Q15 Tryz.prog 17:=Q52 mix Q5o k_fine
theorem Qqi:Qi2 Tryz.prog 15:=Q7d mix Q7o
theorem k_even:Qu1 Tryz.prog 24:=Q78 mix Q7l
theorem k_mnmx:Qtj Tryz.prog 71:=Q31 mix Q3d (by kernel_rfl)
theorem k_bnds:Q6w Tryz.prog 43:=Q74 mix Q7h k_mnmx
theorem k_mbox:Qjw Tryz.prog 18:=Qdk mix Qde Ya k_bnds
theorem k_Slice:Q6s Tryz.prog 9:=Q4o mix Q5h k_even k_Cut k_Chain Qqk
theorem k_Count:Q17 Tryz.prog 19:=Q53 mix Q5p k_Valid18
theorem Qq5:Qby Tryz.prog 21:=Ud mix Ub
theorem k_slim:Qf5 Tryz.prog 6:=Ic mix I9
theorem awake_ok:Q6x Tryz.prog 7:=Ue mix Uc k_BoxS k_Slice Qq5 Qqi k_Chk
end Go.Proofs.YtjggbpiapinceaaGreat
