/- The program's functions are those whose code the library's texts hold. -/
import Derived.Test.YtnaehggpjfdenaaGreatRows
import Derived.Test.YtnaehggpjfdenaaGreatGoRpB
import Derived.Test.YtnaehggpjfdenaaGreatGoRw
import Derived.Test.YtnaehggpjfdenaaGreatGoTpD
import Derived.Test.YtnaehggpjfdenaaGreatGoSkE
import Derived.Test.YtnaehggpjfdenaaGreatGoCtG
import Derived.Test.YtnaehggpjfdenaaGreatGoCtI
import Derived.Test.YtnaehggpjfdenaaGreatGoCtJ
import Derived.Test.YtnaehggpjfdenaaGreatGoRevC
import Derived.Test.YtnaehggpjfdenaaGreatGoTo
import Derived.Test.YtnaehggpjfdenaaGreatGoSkB
import Derived.Test.YtnaehggpjfdenaaGreatGoUnG
import Derived.Test.YtnaehggpjfdenaaGreatGoSecD
import Derived.Test.YtnaehggpjfdenaaGreatGoMap
import Derived.Test.YtnaehggpjfdenaaGreatGoRsF
import Derived.Test.YtnaehggpjfdenaaGreatGoMapG
import Derived.Test.YtnaehggpjfdenaaGreatGoSkC
import Derived.Test.YtnaehggpjfdenaaGreatGoSkJ
import Derived.Test.YtnaehggpjfdenaaGreatGoSo
import Derived.Test.YtnaehggpjfdenaaGreatGoDet
import Derived.Test.YtnaehggpjfdenaaGreatGoUnH
import Derived.Test.YtnaehggpjfdenaaGreatGoUnI
set_option linter.unusedVariables false
set_option linter.unusedSimpArgs false
namespace Go.Proofs.YtnaehggpjfdenaaGreat
open Go.Abs
theorem Q57:Q9 Tryz.prog 108 L2f.c L2f.r L2f.n:=⟨Tryz.f108,(Tryz.f108.body).getD .skip,Tryz.func108,rfl,by kernel_rfl,by kernel_rfl,rfl⟩
theorem Q7y:Q9 Tryz.prog 71 (L2d.c 108) L2d.r L2d.n:=⟨Tryz.f71,(Tryz.f71.body).getD .skip,Tryz.func71,rfl,by kernel_rfl,by kernel_rfl,rfl⟩
theorem Q5k:Q9 Tryz.prog 47 (L0c.c 71) L0c.r L0c.n:=⟨Tryz.f47,(Tryz.f47.body).getD .skip,Tryz.func47,rfl,by kernel_rfl,by kernel_rfl,rfl⟩
theorem Q22:Q9 Tryz.prog 48 (L0d.c 47) L0d.r L0d.n:=⟨Tryz.f48,(Tryz.f48.body).getD .skip,Tryz.func48,rfl,by kernel_rfl,by kernel_rfl,rfl⟩
theorem Ii:Q9 Tryz.prog 206 (L2e.c 108) L2e.r L2e.n:=⟨Tryz.f206,(Tryz.f206.body).getD .skip,Tryz.func206,rfl,by kernel_rfl,by kernel_rfl,rfl⟩
theorem Qdm:Q9 Tryz.prog 154 (L2c.c 71) L2c.r L2c.n:=⟨Tryz.f154,(Tryz.f154.body).getD .skip,Tryz.func154,rfl,by kernel_rfl,by kernel_rfl,rfl⟩
theorem Bz:Q9 Tryz.prog 111 (L28.c 71 154 153) L28.r L28.n:=⟨Tryz.f111,(Tryz.f111.body).getD .skip,Tryz.func111,rfl,by kernel_rfl,by kernel_rfl,rfl⟩
theorem Ec:Q9 Tryz.prog 74 (L2g.c 48 111) L2g.r L2g.n:=⟨Tryz.f74,(Tryz.f74.body).getD .skip,Tryz.func74,rfl,by kernel_rfl,by kernel_rfl,rfl⟩
theorem Q20:Q9 Tryz.prog 152 L0j.c L0j.r L0j.n:=⟨Tryz.f152,(Tryz.f152.body).getD .skip,Tryz.func152,rfl,by kernel_rfl,by kernel_rfl,rfl⟩
theorem Ef:Q9 Tryz.prog 110 (L0i.c 152) L0i.r L0i.n:=⟨Tryz.f110,(Tryz.f110.body).getD .skip,Tryz.func110,rfl,by kernel_rfl,by kernel_rfl,rfl⟩
theorem Eh:Q9 Tryz.prog 73 (L0h.c 47 110) L0h.r L0h.n:=⟨Tryz.f73,(Tryz.f73.body).getD .skip,Tryz.func73,rfl,by kernel_rfl,by kernel_rfl,rfl⟩
theorem Q5a:Q9 Tryz.prog 155 L22.c L22.r L22.n:=⟨Tryz.f155,(Tryz.f155.body).getD .skip,Tryz.func155,rfl,by kernel_rfl,by kernel_rfl,rfl⟩
theorem Q1o:Q9 Tryz.prog 148 (L21.c 47 155) L21.r L21.n:=⟨Tryz.f148,(Tryz.f148.body).getD .skip,Tryz.func148,rfl,by kernel_rfl,by kernel_rfl,rfl⟩
theorem Q1n:Q9 Tryz.prog 149 L24.c L24.r L24.n:=⟨Tryz.f149,(Tryz.f149.body).getD .skip,Tryz.func149,rfl,by kernel_rfl,by kernel_rfl,rfl⟩
theorem Ed:Q9 Tryz.prog 156 L25.c L25.r L25.n:=⟨Tryz.f156,(Tryz.f156.body).getD .skip,Tryz.func156,rfl,by kernel_rfl,by kernel_rfl,rfl⟩
theorem Q07:Q9 Tryz.prog 217 L02.c L02.r L02.n:=⟨Tryz.f217,(Tryz.f217.body).getD .skip,Tryz.func217,rfl,by kernel_rfl,by kernel_rfl,rfl⟩
theorem Ej:Q9 Tryz.prog 163 (L00.c 217) L00.r L00.n:=⟨Tryz.f163,(Tryz.f163.body).getD .skip,Tryz.func163,rfl,by kernel_rfl,by kernel_rfl,rfl⟩
theorem Q5l:Q9 Tryz.prog 205 L01.c L01.r L01.n:=⟨Tryz.f205,(Tryz.f205.body).getD .skip,Tryz.func205,rfl,by kernel_rfl,by kernel_rfl,rfl⟩
theorem Q59:Q9 Tryz.prog 151 (L23.c 163 205) L23.r L23.n:=⟨Tryz.f151,(Tryz.f151.body).getD .skip,Tryz.func151,rfl,by kernel_rfl,by kernel_rfl,rfl⟩
theorem Q00:Q9 Tryz.prog 109 (L1y.c 148 149 150 151) L1y.r L1y.n:=⟨Tryz.f109,(Tryz.f109.body).getD .skip,Tryz.func109,rfl,by kernel_rfl,by kernel_rfl,rfl⟩
theorem Q3g:Q9 Tryz.prog 72 (L1z.c 47 109) L1z.r L1z.n:=⟨Tryz.f72,(Tryz.f72.body).getD .skip,Tryz.func72,rfl,by kernel_rfl,by kernel_rfl,rfl⟩
theorem Q3f:Q9 Tryz.prog 112 (L20.c 47 155 156 116) L20.r L20.n:=⟨Tryz.f112,(Tryz.f112.body).getD .skip,Tryz.func112,rfl,by kernel_rfl,by kernel_rfl,rfl⟩
theorem Qdo:Q9 Tryz.prog 157 (L2a.c 206 153 207) L2a.r L2a.n:=⟨Tryz.f157,(Tryz.f157.body).getD .skip,Tryz.func157,rfl,by kernel_rfl,by kernel_rfl,rfl⟩
theorem Q21:Q9 Tryz.prog 113 (L0e.c 47 157) L0e.r L0e.n:=⟨Tryz.f113,(Tryz.f113.body).getD .skip,Tryz.func113,rfl,by kernel_rfl,by kernel_rfl,rfl⟩
theorem Ee:Q9 Tryz.prog 75 (L13.c 112 113) L13.r L13.n:=⟨Tryz.f75,(Tryz.f75.body).getD .skip,Tryz.func75,rfl,by kernel_rfl,by kernel_rfl,rfl⟩
theorem Q1s:Q9 Tryz.prog 43 (L12.c 47 72 73 74 75) L12.r L12.n:=⟨Tryz.f43,(Tryz.f43.body).getD .skip,Tryz.func43,rfl,by kernel_rfl,by kernel_rfl,rfl⟩
theorem Q83:Q9 Tryz.prog 168 (L0g.c 88) L0g.r L0g.n:=⟨Tryz.f168,(Tryz.f168.body).getD .skip,Tryz.func168,rfl,by kernel_rfl,by kernel_rfl,rfl⟩
theorem Q03:Q9 Tryz.prog 82 (L1h.c 71 122) L1h.r L1h.n:=⟨Tryz.f82,(Tryz.f82.body).getD .skip,Tryz.func82,rfl,by kernel_rfl,by kernel_rfl,rfl⟩
theorem Q3m:Q9 Tryz.prog 30 (L1g.c 47 48 49) L1g.r L1g.n:=⟨Tryz.f30,(Tryz.f30.body).getD .skip,Tryz.func30,rfl,by kernel_rfl,by kernel_rfl,rfl⟩
theorem Q1z:Q9 Tryz.prog 50 L0k.c L0k.r L0k.n:=⟨Tryz.f50,(Tryz.f50.body).getD .skip,Tryz.func50,rfl,by kernel_rfl,by kernel_rfl,rfl⟩
theorem Um:Q9 Tryz.prog 51 L03.c L03.r L03.n:=⟨Tryz.f51,(Tryz.f51.body).getD .skip,Tryz.func51,rfl,by kernel_rfl,by kernel_rfl,rfl⟩
theorem Io:Q9 Tryz.prog 53 L05.c L05.r L05.n:=⟨Tryz.f53,(Tryz.f53.body).getD .skip,Tryz.func53,rfl,by kernel_rfl,by kernel_rfl,rfl⟩
theorem Wb:Q9 Tryz.prog 85 L07.c L07.r L07.n:=⟨Tryz.f85,(Tryz.f85.body).getD .skip,Tryz.func85,rfl,by kernel_rfl,by kernel_rfl,rfl⟩
theorem Ka:Q9 Tryz.prog 54 (L06.c 85) L06.r L06.n:=⟨Tryz.f54,(Tryz.f54.body).getD .skip,Tryz.func54,rfl,by kernel_rfl,by kernel_rfl,rfl⟩
theorem Q06:Q9 Tryz.prog 31 (L04.c 50 51 52 53 54) L04.r L04.n:=⟨Tryz.f31,(Tryz.f31.body).getD .skip,Tryz.func31,rfl,by kernel_rfl,by kernel_rfl,rfl⟩
theorem Q80:Q9 Tryz.prog 135 L1d.c L1d.r L1d.n:=⟨Tryz.f135,(Tryz.f135.body).getD .skip,Tryz.func135,rfl,by kernel_rfl,by kernel_rfl,rfl⟩
theorem Q3n:Q9 Tryz.prog 137 L15.c L15.r L15.n:=⟨Tryz.f137,(Tryz.f137.body).getD .skip,Tryz.func137,rfl,by kernel_rfl,by kernel_rfl,rfl⟩
theorem Q7z:Q9 Tryz.prog 138 L1e.c L1e.r L1e.n:=⟨Tryz.f138,(Tryz.f138.body).getD .skip,Tryz.func138,rfl,by kernel_rfl,by kernel_rfl,rfl⟩
theorem Q81:Q9 Tryz.prog 93 (L14.c 135 136 137 138) L14.r L14.n:=⟨Tryz.f93,(Tryz.f93.body).getD .skip,Tryz.func93,rfl,by kernel_rfl,by kernel_rfl,rfl⟩
theorem Q04:Q9 Tryz.prog 89 L0m.c L0m.r L0m.n:=⟨Tryz.f89,(Tryz.f89.body).getD .skip,Tryz.func89,rfl,by kernel_rfl,by kernel_rfl,rfl⟩
theorem Wa:Q9 Tryz.prog 90 (L0o.c 88) L0o.r L0o.n:=⟨Tryz.f90,(Tryz.f90.body).getD .skip,Tryz.func90,rfl,by kernel_rfl,by kernel_rfl,rfl⟩
theorem Im:Q9 Tryz.prog 87 L0q.c L0q.r L0q.n:=⟨Tryz.f87,(Tryz.f87.body).getD .skip,Tryz.func87,rfl,by kernel_rfl,by kernel_rfl,rfl⟩
theorem Q1w:Q9 Tryz.prog 92 L0s.c L0s.r L0s.n:=⟨Tryz.f92,(Tryz.f92.body).getD .skip,Tryz.func92,rfl,by kernel_rfl,by kernel_rfl,rfl⟩
theorem Q1y:Q9 Tryz.prog 55 L0n.c L0n.r L0n.n:=⟨Tryz.f55,(Tryz.f55.body).getD .skip,Tryz.func55,rfl,by kernel_rfl,by kernel_rfl,rfl⟩
theorem Q1x:Q9 Tryz.prog 56 (L0p.c 86 87) L0p.r L0p.n:=⟨Tryz.f56,(Tryz.f56.body).getD .skip,Tryz.func56,rfl,by kernel_rfl,by kernel_rfl,rfl⟩
theorem Q5j:Q9 Tryz.prog 58 (L0r.c 89 90 91 92 93) L0r.r L0r.n:=⟨Tryz.f58,(Tryz.f58.body).getD .skip,Tryz.func58,rfl,by kernel_rfl,by kernel_rfl,rfl⟩
theorem Q3o:Q9 Tryz.prog 57 (L0t.c 88) L0t.r L0t.n:=⟨Tryz.f57,(Tryz.f57.body).getD .skip,Tryz.func57,rfl,by kernel_rfl,by kernel_rfl,rfl⟩
theorem Q05:Q9 Tryz.prog 32 (L0l.c 55 56 57 58) L0l.r L0l.n:=⟨Tryz.f32,(Tryz.f32.body).getD .skip,Tryz.func32,rfl,by kernel_rfl,by kernel_rfl,rfl⟩
theorem Q5i:Q9 Tryz.prog 20 L0u.c L0u.r L0u.n:=⟨Tryz.f20,(Tryz.f20.body).getD .skip,Tryz.func20,rfl,by kernel_rfl,by kernel_rfl,rfl⟩
theorem Q1r:Q9 Tryz.prog 121 L17.c L17.r L17.n:=⟨Tryz.f121,(Tryz.f121.body).getD .skip,Tryz.func121,rfl,by kernel_rfl,by kernel_rfl,rfl⟩
theorem Q5e:Q9 Tryz.prog 159 (L18.c 135) L18.r L18.n:=⟨Tryz.f159,(Tryz.f159.body).getD .skip,Tryz.func159,rfl,by kernel_rfl,by kernel_rfl,rfl⟩
theorem Uk:Q9 Tryz.prog 164 L1b.c L1b.r L1b.n:=⟨Tryz.f164,(Tryz.f164.body).getD .skip,Tryz.func164,rfl,by kernel_rfl,by kernel_rfl,rfl⟩
theorem W1:Q9 Tryz.prog 167 L19.c L19.r L19.n:=⟨Tryz.f167,(Tryz.f167.body).getD .skip,Tryz.func167,rfl,by kernel_rfl,by kernel_rfl,rfl⟩
theorem Ul:Q9 Tryz.prog 165 (L1a.c 164 167) L1a.r L1a.n:=⟨Tryz.f165,(Tryz.f165.body).getD .skip,Tryz.func165,rfl,by kernel_rfl,by kernel_rfl,rfl⟩
theorem Uj:Q9 Tryz.prog 166 (L1c.c 165) L1c.r L1c.n:=⟨Tryz.f166,(Tryz.f166.body).getD .skip,Tryz.func166,rfl,by kernel_rfl,by kernel_rfl,rfl⟩
theorem Zz:Q9 Tryz.prog 120 (L1f.c 159 164 165 166 167) L1f.r L1f.n:=⟨Tryz.f120,(Tryz.f120.body).getD .skip,Tryz.func120,rfl,by kernel_rfl,by kernel_rfl,rfl⟩
theorem Q5f:Q9 Tryz.prog 78 (L16.c 120 121) L16.r L16.n:=⟨Tryz.f78,(Tryz.f78.body).getD .skip,Tryz.func78,rfl,by kernel_rfl,by kernel_rfl,rfl⟩
theorem Q82:Q9 Tryz.prog 158 L0z.c L0z.r L0z.n:=⟨Tryz.f158,(Tryz.f158.body).getD .skip,Tryz.func158,rfl,by kernel_rfl,by kernel_rfl,rfl⟩
theorem Q1t:Q9 Tryz.prog 162 (L11.c 163) L11.r L11.n:=⟨Tryz.f162,(Tryz.f162.body).getD .skip,Tryz.func162,rfl,by kernel_rfl,by kernel_rfl,rfl⟩
theorem Zm:Q9 Tryz.prog 161 L1p.c L1p.r L1p.n:=⟨Tryz.f161,(Tryz.f161.body).getD .skip,Tryz.func161,rfl,by kernel_rfl,by kernel_rfl,rfl⟩
theorem Q5g:Q9 Tryz.prog 118 (L10.c 161 162) L10.r L10.n:=⟨Tryz.f118,(Tryz.f118.body).getD .skip,Tryz.func118,rfl,by kernel_rfl,by kernel_rfl,rfl⟩
theorem Q1u:Q9 Tryz.prog 115 (L0x.c 158 159) L0x.r L0x.n:=⟨Tryz.f115,(Tryz.f115.body).getD .skip,Tryz.func115,rfl,by kernel_rfl,by kernel_rfl,rfl⟩
theorem Yw:Q9 Tryz.prog 119 L1q.c L1q.r L1q.n:=⟨Tryz.f119,(Tryz.f119.body).getD .skip,Tryz.func119,rfl,by kernel_rfl,by kernel_rfl,rfl⟩
theorem Il:Q9 Tryz.prog 77 (L0y.c 115 116 117 118 119) L0y.r L0y.n:=⟨Tryz.f77,(Tryz.f77.body).getD .skip,Tryz.func77,rfl,by kernel_rfl,by kernel_rfl,rfl⟩
theorem Q1v:Q9 Tryz.prog 45 (L0w.c 77 78) L0w.r L0w.n:=⟨Tryz.f45,(Tryz.f45.body).getD .skip,Tryz.func45,rfl,by kernel_rfl,by kernel_rfl,rfl⟩
theorem Q5c:Q9 Tryz.prog 25 L1v.c L1v.r L1v.n:=⟨Tryz.f25,(Tryz.f25.body).getD .skip,Tryz.func25,rfl,by kernel_rfl,by kernel_rfl,rfl⟩
theorem Q01:Q9 Tryz.prog 15 (L1s.c 25) L1s.r L1s.n:=⟨Tryz.f15,(Tryz.f15.body).getD .skip,Tryz.func15,rfl,by kernel_rfl,by kernel_rfl,rfl⟩
theorem Q1m:Q9 Tryz.prog 114 L27.c L27.r L27.n:=⟨Tryz.f114,(Tryz.f114.body).getD .skip,Tryz.func114,rfl,by kernel_rfl,by kernel_rfl,rfl⟩
theorem Q58:Q9 Tryz.prog 76 (L26.c 114) L26.r L26.n:=⟨Tryz.f76,(Tryz.f76.body).getD .skip,Tryz.func76,rfl,by kernel_rfl,by kernel_rfl,rfl⟩
theorem Qaz:Q9 Tryz.prog 44 (L0b.c 47 76) L0b.r L0b.n:=⟨Tryz.f44,(Tryz.f44.body).getD .skip,Tryz.func44,rfl,by kernel_rfl,by kernel_rfl,rfl⟩
theorem Q5h:Q9 Tryz.prog 14 (L0v.c 20) L0v.r L0v.n:=⟨Tryz.f14,(Tryz.f14.body).getD .skip,Tryz.func14,rfl,by kernel_rfl,by kernel_rfl,rfl⟩
theorem Q3h:Q9 Tryz.prog 18 (L1t.c 25 30 31 32) L1t.r L1t.n:=⟨Tryz.f18,(Tryz.f18.body).getD .skip,Tryz.func18,rfl,by kernel_rfl,by kernel_rfl,rfl⟩
theorem Q5b:Q9 Tryz.prog 26 (L1w.c 43 44 15 18) L1w.r L1w.n:=⟨Tryz.f26,(Tryz.f26.body).getD .skip,Tryz.func26,rfl,by kernel_rfl,by kernel_rfl,rfl⟩
theorem Q1p:Q9 Tryz.prog 27 (L1x.c 45) L1x.r L1x.n:=⟨Tryz.f27,(Tryz.f27.body).getD .skip,Tryz.func27,rfl,by kernel_rfl,by kernel_rfl,rfl⟩
theorem Q1q:Q9 Tryz.prog 11 (L1u.c 25 26 27) L1u.r L1u.n:=⟨Tryz.f11,(Tryz.f11.body).getD .skip,Tryz.func11,rfl,by kernel_rfl,by kernel_rfl,rfl⟩
theorem Q3k:Q9 Tryz.prog 37 (L1m.c 71) L1m.r L1m.n:=⟨Tryz.f37,(Tryz.f37.body).getD .skip,Tryz.func37,rfl,by kernel_rfl,by kernel_rfl,rfl⟩
theorem Q3j:Q9 Tryz.prog 38 L1n.c L1n.r L1n.n:=⟨Tryz.f38,(Tryz.f38.body).getD .skip,Tryz.func38,rfl,by kernel_rfl,by kernel_rfl,rfl⟩
theorem Q3i:Q9 Tryz.prog 39 L1o.c L1o.r L1o.n:=⟨Tryz.f39,(Tryz.f39.body).getD .skip,Tryz.func39,rfl,by kernel_rfl,by kernel_rfl,rfl⟩
theorem Ik:Q9 Tryz.prog 40 (L1l.c 39) L1l.r L1l.n:=⟨Tryz.f40,(Tryz.f40.body).getD .skip,Tryz.func40,rfl,by kernel_rfl,by kernel_rfl,rfl⟩
theorem Yv:Q9 Tryz.prog 41 L1r.c L1r.r L1r.n:=⟨Tryz.f41,(Tryz.f41.body).getD .skip,Tryz.func41,rfl,by kernel_rfl,by kernel_rfl,rfl⟩
theorem Q5d:Q9 Tryz.prog 22 (L1k.c 37 38 39 40 41) L1k.r L1k.n:=⟨Tryz.f22,(Tryz.f22.body).getD .skip,Tryz.func22,rfl,by kernel_rfl,by kernel_rfl,rfl⟩
theorem Ei:Q9 Tryz.prog 23 L09.c L09.r L09.n:=⟨Tryz.f23,(Tryz.f23.body).getD .skip,Tryz.func23,rfl,by kernel_rfl,by kernel_rfl,rfl⟩
theorem Q3p:Q9 Tryz.prog 10 (L0a.c 15 22 11 23 14) L0a.r L0a.n:=⟨Tryz.f10,(Tryz.f10.body).getD .skip,Tryz.func10,rfl,by kernel_rfl,by kernel_rfl,rfl⟩
theorem Ij:Q9 Tryz.prog 153 (L29.c 206) L29.r L29.n:=⟨Tryz.f153,(Tryz.f153.body).getD .skip,Tryz.func153,rfl,by kernel_rfl,by kernel_rfl,rfl⟩
theorem Qdn:Q9 Tryz.prog 207 (L2b.c 206 108) L2b.r L2b.n:=⟨Tryz.f207,(Tryz.f207.body).getD .skip,Tryz.func207,rfl,by kernel_rfl,by kernel_rfl,rfl⟩
theorem Kn:Q9 Tryz.prog 88 L0f.c L0f.r L0f.n:=⟨Tryz.f88,(Tryz.f88.body).getD .skip,Tryz.func88,rfl,by kernel_rfl,by kernel_rfl,rfl⟩
theorem Q02:Q9 Tryz.prog 122 (L1i.c 168) L1i.r L1i.n:=⟨Tryz.f122,(Tryz.f122.body).getD .skip,Tryz.func122,rfl,by kernel_rfl,by kernel_rfl,rfl⟩
theorem Q3l:Q9 Tryz.prog 49 (L1j.c 82) L1j.r L1j.n:=⟨Tryz.f49,(Tryz.f49.body).getD .skip,Tryz.func49,rfl,by kernel_rfl,by kernel_rfl,rfl⟩
theorem ok_law26_StackBoxes:Q9 Tryz.prog 7 (L08.c 10 22 11 23 20) L08.r L08.n:=⟨Tryz.f7,(Tryz.f7.body).getD .skip,Tryz.func7,rfl,by kernel_rfl,by kernel_rfl,rfl⟩
end Go.Proofs.YtnaehggpjfdenaaGreat
