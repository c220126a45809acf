/- The program's functions are those whose code the library's texts hold. -/
import Derived.Test.YtnaehggpjfdenaaGreatRows
import Derived.Test.YtnaehggpjfdenaaGreatGoRpB
import Derived.Test.YtnaehggpjfdenaaGreatGoRw
import Derived.Test.YtnaehggpjfdenaaGreatGoCsA
import Derived.Test.YtnaehggpjfdenaaGreatGoOy
import Derived.Test.YtnaehggpjfdenaaGreatGoCtH
import Derived.Test.YtnaehggpjfdenaaGreatGoCtJ
import Derived.Test.YtnaehggpjfdenaaGreatGoRevC
import Derived.Test.YtnaehggpjfdenaaGreatGoOriA
import Derived.Test.YtnaehggpjfdenaaGreatGoSkB
import Derived.Test.YtnaehggpjfdenaaGreatGoUnF
import Derived.Test.YtnaehggpjfdenaaGreatGoSecE
import Derived.Test.YtnaehggpjfdenaaGreatGoRsD
import Derived.Test.YtnaehggpjfdenaaGreatGoRsM
import Derived.Test.YtnaehggpjfdenaaGreatGoSkD
import Derived.Test.YtnaehggpjfdenaaGreatGoSkH
import Derived.Test.YtnaehggpjfdenaaGreatGoSkJ
import Derived.Test.YtnaehggpjfdenaaGreatGoSo
import Derived.Test.YtnaehggpjfdenaaGreatGoOw
import Derived.Test.YtnaehggpjfdenaaGreatGoUnI
set_option linter.unusedVariables false
set_option linter.unusedSimpArgs false
namespace Go.Proofs.YtnaehggpjfdenaaGreat
open Go.Abs
theorem Q62:Q9 Tryz.prog 108 L2q.c L2q.r L2q.n:=⟨Tryz.f108,(Tryz.f108.body).getD .skip,Tryz.func108,rfl,by kernel_rfl,by kernel_rfl,rfl⟩
theorem Q90:Q9 Tryz.prog 71 (L2o.c 108) L2o.r L2o.n:=⟨Tryz.f71,(Tryz.f71.body).getD .skip,Tryz.func71,rfl,by kernel_rfl,by kernel_rfl,rfl⟩
theorem Q6h:Q9 Tryz.prog 47 (L0e.c 71) L0e.r L0e.n:=⟨Tryz.f47,(Tryz.f47.body).getD .skip,Tryz.func47,rfl,by kernel_rfl,by kernel_rfl,rfl⟩
theorem Q2t:Q9 Tryz.prog 48 (L0f.c 47) L0f.r L0f.n:=⟨Tryz.f48,(Tryz.f48.body).getD .skip,Tryz.func48,rfl,by kernel_rfl,by kernel_rfl,rfl⟩
theorem B5:Q9 Tryz.prog 206 (L2p.c 108) L2p.r L2p.n:=⟨Tryz.f206,(Tryz.f206.body).getD .skip,Tryz.func206,rfl,by kernel_rfl,by kernel_rfl,rfl⟩
theorem Qew:Q9 Tryz.prog 154 (L2n.c 71) L2n.r L2n.n:=⟨Tryz.f154,(Tryz.f154.body).getD .skip,Tryz.func154,rfl,by kernel_rfl,by kernel_rfl,rfl⟩
theorem Q0g:Q9 Tryz.prog 111 (L2j.c 71 154 153) L2j.r L2j.n:=⟨Tryz.f111,(Tryz.f111.body).getD .skip,Tryz.func111,rfl,by kernel_rfl,by kernel_rfl,rfl⟩
theorem Eu:Q9 Tryz.prog 74 (L2r.c 48 111) L2r.r L2r.n:=⟨Tryz.f74,(Tryz.f74.body).getD .skip,Tryz.func74,rfl,by kernel_rfl,by kernel_rfl,rfl⟩
theorem Q2r:Q9 Tryz.prog 152 L0l.c L0l.r L0l.n:=⟨Tryz.f152,(Tryz.f152.body).getD .skip,Tryz.func152,rfl,by kernel_rfl,by kernel_rfl,rfl⟩
theorem Ez:Q9 Tryz.prog 110 (L0k.c 152) L0k.r L0k.n:=⟨Tryz.f110,(Tryz.f110.body).getD .skip,Tryz.func110,rfl,by kernel_rfl,by kernel_rfl,rfl⟩
theorem I0:Q9 Tryz.prog 73 (L0j.c 47 110) L0j.r L0j.n:=⟨Tryz.f73,(Tryz.f73.body).getD .skip,Tryz.func73,rfl,by kernel_rfl,by kernel_rfl,rfl⟩
theorem Q65:Q9 Tryz.prog 155 L2d.c L2d.r L2d.n:=⟨Tryz.f155,(Tryz.f155.body).getD .skip,Tryz.func155,rfl,by kernel_rfl,by kernel_rfl,rfl⟩
theorem Q2d:Q9 Tryz.prog 148 (L2c.c 47 155) L2c.r L2c.n:=⟨Tryz.f148,(Tryz.f148.body).getD .skip,Tryz.func148,rfl,by kernel_rfl,by kernel_rfl,rfl⟩
theorem Q2c:Q9 Tryz.prog 149 L2f.c L2f.r L2f.n:=⟨Tryz.f149,(Tryz.f149.body).getD .skip,Tryz.func149,rfl,by kernel_rfl,by kernel_rfl,rfl⟩
theorem Ew:Q9 Tryz.prog 156 L2g.c L2g.r L2g.n:=⟨Tryz.f156,(Tryz.f156.body).getD .skip,Tryz.func156,rfl,by kernel_rfl,by kernel_rfl,rfl⟩
theorem Q0o:Q9 Tryz.prog 217 L02.c L02.r L02.n:=⟨Tryz.f217,(Tryz.f217.body).getD .skip,Tryz.func217,rfl,by kernel_rfl,by kernel_rfl,rfl⟩
theorem I2:Q9 Tryz.prog 163 (L00.c 217) L00.r L00.n:=⟨Tryz.f163,(Tryz.f163.body).getD .skip,Tryz.func163,rfl,by kernel_rfl,by kernel_rfl,rfl⟩
theorem Q6i:Q9 Tryz.prog 205 L01.c L01.r L01.n:=⟨Tryz.f205,(Tryz.f205.body).getD .skip,Tryz.func205,rfl,by kernel_rfl,by kernel_rfl,rfl⟩
theorem Q64:Q9 Tryz.prog 151 (L2e.c 163 205) L2e.r L2e.n:=⟨Tryz.f151,(Tryz.f151.body).getD .skip,Tryz.func151,rfl,by kernel_rfl,by kernel_rfl,rfl⟩
theorem Q0h:Q9 Tryz.prog 109 (L29.c 148 149 150 151) L29.r L29.n:=⟨Tryz.f109,(Tryz.f109.body).getD .skip,Tryz.func109,rfl,by kernel_rfl,by kernel_rfl,rfl⟩
theorem Q4a:Q9 Tryz.prog 72 (L2a.c 47 109) L2a.r L2a.n:=⟨Tryz.f72,(Tryz.f72.body).getD .skip,Tryz.func72,rfl,by kernel_rfl,by kernel_rfl,rfl⟩
theorem Q49:Q9 Tryz.prog 112 (L2b.c 47 155 156 116) L2b.r L2b.n:=⟨Tryz.f112,(Tryz.f112.body).getD .skip,Tryz.func112,rfl,by kernel_rfl,by kernel_rfl,rfl⟩
theorem Qey:Q9 Tryz.prog 157 (L2l.c 206 153 207) L2l.r L2l.n:=⟨Tryz.f157,(Tryz.f157.body).getD .skip,Tryz.func157,rfl,by kernel_rfl,by kernel_rfl,rfl⟩
theorem Q2s:Q9 Tryz.prog 113 (L0g.c 47 157) L0g.r L0g.n:=⟨Tryz.f113,(Tryz.f113.body).getD .skip,Tryz.func113,rfl,by kernel_rfl,by kernel_rfl,rfl⟩
theorem Ey:Q9 Tryz.prog 75 (L1e.c 112 113) L1e.r L1e.n:=⟨Tryz.f75,(Tryz.f75.body).getD .skip,Tryz.func75,rfl,by kernel_rfl,by kernel_rfl,rfl⟩
theorem Q2h:Q9 Tryz.prog 43 (L1d.c 47 72 73 74 75) L1d.r L1d.n:=⟨Tryz.f43,(Tryz.f43.body).getD .skip,Tryz.func43,rfl,by kernel_rfl,by kernel_rfl,rfl⟩
theorem Q95:Q9 Tryz.prog 168 (L0i.c 88) L0i.r L0i.n:=⟨Tryz.f168,(Tryz.f168.body).getD .skip,Tryz.func168,rfl,by kernel_rfl,by kernel_rfl,rfl⟩
theorem Q0k:Q9 Tryz.prog 82 (L1s.c 71 122) L1s.r L1s.n:=⟨Tryz.f82,(Tryz.f82.body).getD .skip,Tryz.func82,rfl,by kernel_rfl,by kernel_rfl,rfl⟩
theorem Q4g:Q9 Tryz.prog 30 (L1r.c 47 48 49) L1r.r L1r.n:=⟨Tryz.f30,(Tryz.f30.body).getD .skip,Tryz.func30,rfl,by kernel_rfl,by kernel_rfl,rfl⟩
theorem Q2q:Q9 Tryz.prog 50 L0m.c L0m.r L0m.n:=⟨Tryz.f50,(Tryz.f50.body).getD .skip,Tryz.func50,rfl,by kernel_rfl,by kernel_rfl,rfl⟩
theorem E1:Q9 Tryz.prog 51 L03.c L03.r L03.n:=⟨Tryz.f51,(Tryz.f51.body).getD .skip,Tryz.func51,rfl,by kernel_rfl,by kernel_rfl,rfl⟩
theorem Bc:Q9 Tryz.prog 53 L05.c L05.r L05.n:=⟨Tryz.f53,(Tryz.f53.body).getD .skip,Tryz.func53,rfl,by kernel_rfl,by kernel_rfl,rfl⟩
theorem Wo:Q9 Tryz.prog 85 L07.c L07.r L07.n:=⟨Tryz.f85,(Tryz.f85.body).getD .skip,Tryz.func85,rfl,by kernel_rfl,by kernel_rfl,rfl⟩
theorem Kh:Q9 Tryz.prog 54 (L06.c 85) L06.r L06.n:=⟨Tryz.f54,(Tryz.f54.body).getD .skip,Tryz.func54,rfl,by kernel_rfl,by kernel_rfl,rfl⟩
theorem Q0n:Q9 Tryz.prog 31 (L04.c 50 51 52 53 54) L04.r L04.n:=⟨Tryz.f31,(Tryz.f31.body).getD .skip,Tryz.func31,rfl,by kernel_rfl,by kernel_rfl,rfl⟩
theorem Q92:Q9 Tryz.prog 135 L1o.c L1o.r L1o.n:=⟨Tryz.f135,(Tryz.f135.body).getD .skip,Tryz.func135,rfl,by kernel_rfl,by kernel_rfl,rfl⟩
theorem Q4h:Q9 Tryz.prog 137 L1g.c L1g.r L1g.n:=⟨Tryz.f137,(Tryz.f137.body).getD .skip,Tryz.func137,rfl,by kernel_rfl,by kernel_rfl,rfl⟩
theorem Q91:Q9 Tryz.prog 138 L1p.c L1p.r L1p.n:=⟨Tryz.f138,(Tryz.f138.body).getD .skip,Tryz.func138,rfl,by kernel_rfl,by kernel_rfl,rfl⟩
theorem Q93:Q9 Tryz.prog 93 (L1f.c 135 136 137 138) L1f.r L1f.n:=⟨Tryz.f93,(Tryz.f93.body).getD .skip,Tryz.func93,rfl,by kernel_rfl,by kernel_rfl,rfl⟩
theorem Q0l:Q9 Tryz.prog 89 L0o.c L0o.r L0o.n:=⟨Tryz.f89,(Tryz.f89.body).getD .skip,Tryz.func89,rfl,by kernel_rfl,by kernel_rfl,rfl⟩
theorem Wn:Q9 Tryz.prog 90 (L0q.c 88) L0q.r L0q.n:=⟨Tryz.f90,(Tryz.f90.body).getD .skip,Tryz.func90,rfl,by kernel_rfl,by kernel_rfl,rfl⟩
theorem Bb:Q9 Tryz.prog 87 L0s.c L0s.r L0s.n:=⟨Tryz.f87,(Tryz.f87.body).getD .skip,Tryz.func87,rfl,by kernel_rfl,by kernel_rfl,rfl⟩
theorem Q2n:Q9 Tryz.prog 92 L0u.c L0u.r L0u.n:=⟨Tryz.f92,(Tryz.f92.body).getD .skip,Tryz.func92,rfl,by kernel_rfl,by kernel_rfl,rfl⟩
theorem Q2p:Q9 Tryz.prog 55 L0p.c L0p.r L0p.n:=⟨Tryz.f55,(Tryz.f55.body).getD .skip,Tryz.func55,rfl,by kernel_rfl,by kernel_rfl,rfl⟩
theorem Q2o:Q9 Tryz.prog 56 (L0r.c 86 87) L0r.r L0r.n:=⟨Tryz.f56,(Tryz.f56.body).getD .skip,Tryz.func56,rfl,by kernel_rfl,by kernel_rfl,rfl⟩
theorem Q6g:Q9 Tryz.prog 58 (L0t.c 89 90 91 92 93) L0t.r L0t.n:=⟨Tryz.f58,(Tryz.f58.body).getD .skip,Tryz.func58,rfl,by kernel_rfl,by kernel_rfl,rfl⟩
theorem Q4k:Q9 Tryz.prog 57 (L0v.c 88) L0v.r L0v.n:=⟨Tryz.f57,(Tryz.f57.body).getD .skip,Tryz.func57,rfl,by kernel_rfl,by kernel_rfl,rfl⟩
theorem Q0m:Q9 Tryz.prog 32 (L0n.c 55 56 57 58) L0n.r L0n.n:=⟨Tryz.f32,(Tryz.f32.body).getD .skip,Tryz.func32,rfl,by kernel_rfl,by kernel_rfl,rfl⟩
theorem Q6e:Q9 Tryz.prog 42 L11.c L11.r L11.n:=⟨Tryz.f42,(Tryz.f42.body).getD .skip,Tryz.func42,rfl,by kernel_rfl,by kernel_rfl,rfl⟩
theorem Q4i:Q9 Tryz.prog 24 (L0y.c 42) L0y.r L0y.n:=⟨Tryz.f24,(Tryz.f24.body).getD .skip,Tryz.func24,rfl,by kernel_rfl,by kernel_rfl,rfl⟩
theorem Q2l:Q9 Tryz.prog 81 L12.c L12.r L12.n:=⟨Tryz.f81,(Tryz.f81.body).getD .skip,Tryz.func81,rfl,by kernel_rfl,by kernel_rfl,rfl⟩
theorem Q6d:Q9 Tryz.prog 80 L13.c L13.r L13.n:=⟨Tryz.f80,(Tryz.f80.body).getD .skip,Tryz.func80,rfl,by kernel_rfl,by kernel_rfl,rfl⟩
theorem Q2m:Q9 Tryz.prog 79 L0z.c L0z.r L0z.n:=⟨Tryz.f79,(Tryz.f79.body).getD .skip,Tryz.func79,rfl,by kernel_rfl,by kernel_rfl,rfl⟩
theorem Ba:Q9 Tryz.prog 46 (L10.c 79 81 80) L10.r L10.n:=⟨Tryz.f46,(Tryz.f46.body).getD .skip,Tryz.func46,rfl,by kernel_rfl,by kernel_rfl,rfl⟩
theorem B9:Q9 Tryz.prog 28 (L14.c 24 46) L14.r L14.n:=⟨Tryz.f28,(Tryz.f28.body).getD .skip,Tryz.func28,rfl,by kernel_rfl,by kernel_rfl,rfl⟩
theorem Q4j:Q9 Tryz.prog 12 (L0x.c 28) L0x.r L0x.n:=⟨Tryz.f12,(Tryz.f12.body).getD .skip,Tryz.func12,rfl,by kernel_rfl,by kernel_rfl,rfl⟩
theorem Q6f:Q9 Tryz.prog 20 L0w.c L0w.r L0w.n:=⟨Tryz.f20,(Tryz.f20.body).getD .skip,Tryz.func20,rfl,by kernel_rfl,by kernel_rfl,rfl⟩
theorem Q2g:Q9 Tryz.prog 121 L1i.c L1i.r L1i.n:=⟨Tryz.f121,(Tryz.f121.body).getD .skip,Tryz.func121,rfl,by kernel_rfl,by kernel_rfl,rfl⟩
theorem Q69:Q9 Tryz.prog 159 (L1j.c 135) L1j.r L1j.n:=⟨Tryz.f159,(Tryz.f159.body).getD .skip,Tryz.func159,rfl,by kernel_rfl,by kernel_rfl,rfl⟩
theorem Uy:Q9 Tryz.prog 164 L1m.c L1m.r L1m.n:=⟨Tryz.f164,(Tryz.f164.body).getD .skip,Tryz.func164,rfl,by kernel_rfl,by kernel_rfl,rfl⟩
theorem Wc:Q9 Tryz.prog 167 L1k.c L1k.r L1k.n:=⟨Tryz.f167,(Tryz.f167.body).getD .skip,Tryz.func167,rfl,by kernel_rfl,by kernel_rfl,rfl⟩
theorem Uz:Q9 Tryz.prog 165 (L1l.c 164 167) L1l.r L1l.n:=⟨Tryz.f165,(Tryz.f165.body).getD .skip,Tryz.func165,rfl,by kernel_rfl,by kernel_rfl,rfl⟩
theorem Ux:Q9 Tryz.prog 166 (L1n.c 165) L1n.r L1n.n:=⟨Tryz.f166,(Tryz.f166.body).getD .skip,Tryz.func166,rfl,by kernel_rfl,by kernel_rfl,rfl⟩
theorem Y4:Q9 Tryz.prog 120 (L1q.c 159 164 165 166 167) L1q.r L1q.n:=⟨Tryz.f120,(Tryz.f120.body).getD .skip,Tryz.func120,rfl,by kernel_rfl,by kernel_rfl,rfl⟩
theorem Q6a:Q9 Tryz.prog 78 (L1h.c 120 121) L1h.r L1h.n:=⟨Tryz.f78,(Tryz.f78.body).getD .skip,Tryz.func78,rfl,by kernel_rfl,by kernel_rfl,rfl⟩
theorem Q94:Q9 Tryz.prog 158 L1a.c L1a.r L1a.n:=⟨Tryz.f158,(Tryz.f158.body).getD .skip,Tryz.func158,rfl,by kernel_rfl,by kernel_rfl,rfl⟩
theorem Q2i:Q9 Tryz.prog 162 (L1c.c 163) L1c.r L1c.n:=⟨Tryz.f162,(Tryz.f162.body).getD .skip,Tryz.func162,rfl,by kernel_rfl,by kernel_rfl,rfl⟩
theorem Zq:Q9 Tryz.prog 161 L20.c L20.r L20.n:=⟨Tryz.f161,(Tryz.f161.body).getD .skip,Tryz.func161,rfl,by kernel_rfl,by kernel_rfl,rfl⟩
theorem Q6b:Q9 Tryz.prog 118 (L1b.c 161 162) L1b.r L1b.n:=⟨Tryz.f118,(Tryz.f118.body).getD .skip,Tryz.func118,rfl,by kernel_rfl,by kernel_rfl,rfl⟩
theorem Q2j:Q9 Tryz.prog 115 (L18.c 158 159) L18.r L18.n:=⟨Tryz.f115,(Tryz.f115.body).getD .skip,Tryz.func115,rfl,by kernel_rfl,by kernel_rfl,rfl⟩
theorem Xa:Q9 Tryz.prog 119 L21.c L21.r L21.n:=⟨Tryz.f119,(Tryz.f119.body).getD .skip,Tryz.func119,rfl,by kernel_rfl,by kernel_rfl,rfl⟩
theorem B8:Q9 Tryz.prog 77 (L19.c 115 116 117 118 119) L19.r L19.n:=⟨Tryz.f77,(Tryz.f77.body).getD .skip,Tryz.func77,rfl,by kernel_rfl,by kernel_rfl,rfl⟩
theorem Q2k:Q9 Tryz.prog 45 (L17.c 77 78) L17.r L17.n:=⟨Tryz.f45,(Tryz.f45.body).getD .skip,Tryz.func45,rfl,by kernel_rfl,by kernel_rfl,rfl⟩
theorem Q67:Q9 Tryz.prog 25 L26.c L26.r L26.n:=⟨Tryz.f25,(Tryz.f25.body).getD .skip,Tryz.func25,rfl,by kernel_rfl,by kernel_rfl,rfl⟩
theorem Q0i:Q9 Tryz.prog 15 (L23.c 25) L23.r L23.n:=⟨Tryz.f15,(Tryz.f15.body).getD .skip,Tryz.func15,rfl,by kernel_rfl,by kernel_rfl,rfl⟩
theorem Q2b:Q9 Tryz.prog 114 L2i.c L2i.r L2i.n:=⟨Tryz.f114,(Tryz.f114.body).getD .skip,Tryz.func114,rfl,by kernel_rfl,by kernel_rfl,rfl⟩
theorem Q63:Q9 Tryz.prog 76 (L2h.c 114) L2h.r L2h.n:=⟨Tryz.f76,(Tryz.f76.body).getD .skip,Tryz.func76,rfl,by kernel_rfl,by kernel_rfl,rfl⟩
theorem Qc6:Q9 Tryz.prog 44 (L0d.c 47 76) L0d.r L0d.n:=⟨Tryz.f44,(Tryz.f44.body).getD .skip,Tryz.func44,rfl,by kernel_rfl,by kernel_rfl,rfl⟩
theorem Q1j:Q9 Tryz.prog 13 L15.c L15.r L15.n:=⟨Tryz.f13,(Tryz.f13.body).getD .skip,Tryz.func13,rfl,by kernel_rfl,by kernel_rfl,rfl⟩
theorem Q6c:Q9 Tryz.prog 14 (L16.c 20) L16.r L16.n:=⟨Tryz.f14,(Tryz.f14.body).getD .skip,Tryz.func14,rfl,by kernel_rfl,by kernel_rfl,rfl⟩
theorem Q4b:Q9 Tryz.prog 18 (L24.c 25 30 31 32) L24.r L24.n:=⟨Tryz.f18,(Tryz.f18.body).getD .skip,Tryz.func18,rfl,by kernel_rfl,by kernel_rfl,rfl⟩
theorem Q66:Q9 Tryz.prog 26 (L27.c 43 44 15 18) L27.r L27.n:=⟨Tryz.f26,(Tryz.f26.body).getD .skip,Tryz.func26,rfl,by kernel_rfl,by kernel_rfl,rfl⟩
theorem Q2e:Q9 Tryz.prog 27 (L28.c 45) L28.r L28.n:=⟨Tryz.f27,(Tryz.f27.body).getD .skip,Tryz.func27,rfl,by kernel_rfl,by kernel_rfl,rfl⟩
theorem Q2f:Q9 Tryz.prog 11 (L25.c 25 26 27) L25.r L25.n:=⟨Tryz.f11,(Tryz.f11.body).getD .skip,Tryz.func11,rfl,by kernel_rfl,by kernel_rfl,rfl⟩
theorem Q4e:Q9 Tryz.prog 37 (L1x.c 71) L1x.r L1x.n:=⟨Tryz.f37,(Tryz.f37.body).getD .skip,Tryz.func37,rfl,by kernel_rfl,by kernel_rfl,rfl⟩
theorem Q4d:Q9 Tryz.prog 38 L1y.c L1y.r L1y.n:=⟨Tryz.f38,(Tryz.f38.body).getD .skip,Tryz.func38,rfl,by kernel_rfl,by kernel_rfl,rfl⟩
theorem Q4c:Q9 Tryz.prog 39 L1z.c L1z.r L1z.n:=⟨Tryz.f39,(Tryz.f39.body).getD .skip,Tryz.func39,rfl,by kernel_rfl,by kernel_rfl,rfl⟩
theorem B7:Q9 Tryz.prog 40 (L1w.c 39) L1w.r L1w.n:=⟨Tryz.f40,(Tryz.f40.body).getD .skip,Tryz.func40,rfl,by kernel_rfl,by kernel_rfl,rfl⟩
theorem X9:Q9 Tryz.prog 41 L22.c L22.r L22.n:=⟨Tryz.f41,(Tryz.f41.body).getD .skip,Tryz.func41,rfl,by kernel_rfl,by kernel_rfl,rfl⟩
theorem Q68:Q9 Tryz.prog 22 (L1v.c 37 38 39 40 41) L1v.r L1v.n:=⟨Tryz.f22,(Tryz.f22.body).getD .skip,Tryz.func22,rfl,by kernel_rfl,by kernel_rfl,rfl⟩
theorem Q97:Q9 Tryz.prog 17 L09.c L09.r L09.n:=⟨Tryz.f17,(Tryz.f17.body).getD .skip,Tryz.func17,rfl,by kernel_rfl,by kernel_rfl,rfl⟩
theorem Q96:Q9 Tryz.prog 9 (L0a.c 17) L0a.r L0a.n:=⟨Tryz.f9,(Tryz.f9.body).getD .skip,Tryz.func9,rfl,by kernel_rfl,by kernel_rfl,rfl⟩
theorem I1:Q9 Tryz.prog 23 L0b.c L0b.r L0b.n:=⟨Tryz.f23,(Tryz.f23.body).getD .skip,Tryz.func23,rfl,by kernel_rfl,by kernel_rfl,rfl⟩
theorem Q4l:Q9 Tryz.prog 10 (L0c.c 15 22 11 23 14) L0c.r L0c.n:=⟨Tryz.f10,(Tryz.f10.body).getD .skip,Tryz.func10,rfl,by kernel_rfl,by kernel_rfl,rfl⟩
theorem B6:Q9 Tryz.prog 153 (L2k.c 206) L2k.r L2k.n:=⟨Tryz.f153,(Tryz.f153.body).getD .skip,Tryz.func153,rfl,by kernel_rfl,by kernel_rfl,rfl⟩
theorem Qex:Q9 Tryz.prog 207 (L2m.c 206 108) L2m.r L2m.n:=⟨Tryz.f207,(Tryz.f207.body).getD .skip,Tryz.func207,rfl,by kernel_rfl,by kernel_rfl,rfl⟩
theorem Kx:Q9 Tryz.prog 88 L0h.c L0h.r L0h.n:=⟨Tryz.f88,(Tryz.f88.body).getD .skip,Tryz.func88,rfl,by kernel_rfl,by kernel_rfl,rfl⟩
theorem Q0j:Q9 Tryz.prog 122 (L1t.c 168) L1t.r L1t.n:=⟨Tryz.f122,(Tryz.f122.body).getD .skip,Tryz.func122,rfl,by kernel_rfl,by kernel_rfl,rfl⟩
theorem Q4f:Q9 Tryz.prog 49 (L1u.c 82) L1u.r L1u.n:=⟨Tryz.f49,(Tryz.f49.body).getD .skip,Tryz.func49,rfl,by kernel_rfl,by kernel_rfl,rfl⟩
theorem ok_law26_StackUnites:Q9 Tryz.prog 3 (L08.c 9 10 11 13 12 14) L08.r L08.n:=⟨Tryz.f3,(Tryz.f3.body).getD .skip,Tryz.func3,rfl,by kernel_rfl,by kernel_rfl,rfl⟩
end Go.Proofs.YtnaehggpjfdenaaGreat
