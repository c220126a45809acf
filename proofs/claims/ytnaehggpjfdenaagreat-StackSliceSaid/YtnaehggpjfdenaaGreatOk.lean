/- The program's functions are those whose code the library's texts hold. -/
import Derived.Test.YtnaehggpjfdenaaGreatRows
import Derived.Test.YtnaehggpjfdenaaGreatGoSkN
import Derived.Test.YtnaehggpjfdenaaGreatGoShpD
import Derived.Test.YtnaehggpjfdenaaGreatGoEu
import Derived.Test.YtnaehggpjfdenaaGreatGoRsD
import Derived.Test.YtnaehggpjfdenaaGreatGoCtA
import Derived.Test.YtnaehggpjfdenaaGreatGoOy
import Derived.Test.YtnaehggpjfdenaaGreatGoCtF
import Derived.Test.YtnaehggpjfdenaaGreatGoCtI
import Derived.Test.YtnaehggpjfdenaaGreatGoRsN
import Derived.Test.YtnaehggpjfdenaaGreatGoRevC
import Derived.Test.YtnaehggpjfdenaaGreatGoTal
import Derived.Test.YtnaehggpjfdenaaGreatGoSkB
import Derived.Test.YtnaehggpjfdenaaGreatGoRsA
import Derived.Test.YtnaehggpjfdenaaGreatGoOri
import Derived.Test.YtnaehggpjfdenaaGreatGoRsG
import Derived.Test.YtnaehggpjfdenaaGreatGoRsL
import Derived.Test.YtnaehggpjfdenaaGreatGoLpB
import Derived.Test.YtnaehggpjfdenaaGreatGoSecE
import Derived.Test.YtnaehggpjfdenaaGreatGoSkC
import Derived.Test.YtnaehggpjfdenaaGreatGoSo
import Derived.Test.YtnaehggpjfdenaaGreatGoOw
import Derived.Test.YtnaehggpjfdenaaGreatGoUnI
set_option linter.unusedVariables false
set_option linter.unusedSimpArgs false
namespace Go.Proofs.YtnaehggpjfdenaaGreat
open Go.Abs
theorem Q81:Q9 Tryz.prog 108 L39.c L39.r L39.n:=⟨Tryz.f108,(Tryz.f108.body).getD .skip,Tryz.func108,rfl,by kernel_rfl,by kernel_rfl,rfl⟩
theorem Q3q:Q9 Tryz.prog 139 L0x.c L0x.r L0x.n:=⟨Tryz.f139,(Tryz.f139.body).getD .skip,Tryz.func139,rfl,by kernel_rfl,by kernel_rfl,rfl⟩
theorem Qb4:Q9 Tryz.prog 71 (L37.c 108) L37.r L37.n:=⟨Tryz.f71,(Tryz.f71.body).getD .skip,Tryz.func71,rfl,by kernel_rfl,by kernel_rfl,rfl⟩
theorem Q67:Q9 Tryz.prog 94 (L0w.c 139) L0w.r L0w.n:=⟨Tryz.f94,(Tryz.f94.body).getD .skip,Tryz.func94,rfl,by kernel_rfl,by kernel_rfl,rfl⟩
theorem Q8i:Q9 Tryz.prog 47 (L0d.c 71) L0d.r L0d.n:=⟨Tryz.f47,(Tryz.f47.body).getD .skip,Tryz.func47,rfl,by kernel_rfl,by kernel_rfl,rfl⟩
theorem Q64:Q9 Tryz.prog 59 (L11.c 94) L11.r L11.n:=⟨Tryz.f59,(Tryz.f59.body).getD .skip,Tryz.func59,rfl,by kernel_rfl,by kernel_rfl,rfl⟩
theorem Q3x:Q9 Tryz.prog 48 (L0e.c 47) L0e.r L0e.n:=⟨Tryz.f48,(Tryz.f48.body).getD .skip,Tryz.func48,rfl,by kernel_rfl,by kernel_rfl,rfl⟩
theorem Bl:Q9 Tryz.prog 206 (L38.c 108) L38.r L38.n:=⟨Tryz.f206,(Tryz.f206.body).getD .skip,Tryz.func206,rfl,by kernel_rfl,by kernel_rfl,rfl⟩
theorem Qh5:Q9 Tryz.prog 154 (L36.c 71) L36.r L36.n:=⟨Tryz.f154,(Tryz.f154.body).getD .skip,Tryz.func154,rfl,by kernel_rfl,by kernel_rfl,rfl⟩
theorem Q13:Q9 Tryz.prog 111 (L32.c 71 154 153) L32.r L32.n:=⟨Tryz.f111,(Tryz.f111.body).getD .skip,Tryz.func111,rfl,by kernel_rfl,by kernel_rfl,rfl⟩
theorem Ib:Q9 Tryz.prog 74 (L3a.c 48 111) L3a.r L3a.n:=⟨Tryz.f74,(Tryz.f74.body).getD .skip,Tryz.func74,rfl,by kernel_rfl,by kernel_rfl,rfl⟩
theorem Q3v:Q9 Tryz.prog 152 L0k.c L0k.r L0k.n:=⟨Tryz.f152,(Tryz.f152.body).getD .skip,Tryz.func152,rfl,by kernel_rfl,by kernel_rfl,rfl⟩
theorem Ig:Q9 Tryz.prog 110 (L0j.c 152) L0j.r L0j.n:=⟨Tryz.f110,(Tryz.f110.body).getD .skip,Tryz.func110,rfl,by kernel_rfl,by kernel_rfl,rfl⟩
theorem Ih:Q9 Tryz.prog 73 (L0i.c 47 110) L0i.r L0i.n:=⟨Tryz.f73,(Tryz.f73.body).getD .skip,Tryz.func73,rfl,by kernel_rfl,by kernel_rfl,rfl⟩
theorem Q84:Q9 Tryz.prog 155 L2w.c L2w.r L2w.n:=⟨Tryz.f155,(Tryz.f155.body).getD .skip,Tryz.func155,rfl,by kernel_rfl,by kernel_rfl,rfl⟩
theorem Q3d:Q9 Tryz.prog 148 (L2v.c 47 155) L2v.r L2v.n:=⟨Tryz.f148,(Tryz.f148.body).getD .skip,Tryz.func148,rfl,by kernel_rfl,by kernel_rfl,rfl⟩
theorem Q3c:Q9 Tryz.prog 149 L2y.c L2y.r L2y.n:=⟨Tryz.f149,(Tryz.f149.body).getD .skip,Tryz.func149,rfl,by kernel_rfl,by kernel_rfl,rfl⟩
theorem Ic:Q9 Tryz.prog 156 L2z.c L2z.r L2z.n:=⟨Tryz.f156,(Tryz.f156.body).getD .skip,Tryz.func156,rfl,by kernel_rfl,by kernel_rfl,rfl⟩
theorem Q1g:Q9 Tryz.prog 217 L02.c L02.r L02.n:=⟨Tryz.f217,(Tryz.f217.body).getD .skip,Tryz.func217,rfl,by kernel_rfl,by kernel_rfl,rfl⟩
theorem Ij:Q9 Tryz.prog 163 (L00.c 217) L00.r L00.n:=⟨Tryz.f163,(Tryz.f163.body).getD .skip,Tryz.func163,rfl,by kernel_rfl,by kernel_rfl,rfl⟩
theorem Q8j:Q9 Tryz.prog 205 L01.c L01.r L01.n:=⟨Tryz.f205,(Tryz.f205.body).getD .skip,Tryz.func205,rfl,by kernel_rfl,by kernel_rfl,rfl⟩
theorem Q83:Q9 Tryz.prog 151 (L2x.c 163 205) L2x.r L2x.n:=⟨Tryz.f151,(Tryz.f151.body).getD .skip,Tryz.func151,rfl,by kernel_rfl,by kernel_rfl,rfl⟩
theorem Q14:Q9 Tryz.prog 109 (L2s.c 148 149 150 151) L2s.r L2s.n:=⟨Tryz.f109,(Tryz.f109.body).getD .skip,Tryz.func109,rfl,by kernel_rfl,by kernel_rfl,rfl⟩
theorem Q5r:Q9 Tryz.prog 72 (L2t.c 47 109) L2t.r L2t.n:=⟨Tryz.f72,(Tryz.f72.body).getD .skip,Tryz.func72,rfl,by kernel_rfl,by kernel_rfl,rfl⟩
theorem Q5q:Q9 Tryz.prog 112 (L2u.c 47 155 156 116) L2u.r L2u.n:=⟨Tryz.f112,(Tryz.f112.body).getD .skip,Tryz.func112,rfl,by kernel_rfl,by kernel_rfl,rfl⟩
theorem Qh7:Q9 Tryz.prog 157 (L34.c 206 153 207) L34.r L34.n:=⟨Tryz.f157,(Tryz.f157.body).getD .skip,Tryz.func157,rfl,by kernel_rfl,by kernel_rfl,rfl⟩
theorem Q3w:Q9 Tryz.prog 113 (L0f.c 47 157) L0f.r L0f.n:=⟨Tryz.f113,(Tryz.f113.body).getD .skip,Tryz.func113,rfl,by kernel_rfl,by kernel_rfl,rfl⟩
theorem Ie:Q9 Tryz.prog 75 (L1x.c 112 113) L1x.r L1x.n:=⟨Tryz.f75,(Tryz.f75.body).getD .skip,Tryz.func75,rfl,by kernel_rfl,by kernel_rfl,rfl⟩
theorem Q3h:Q9 Tryz.prog 43 (L1w.c 47 72 73 74 75) L1w.r L1w.n:=⟨Tryz.f43,(Tryz.f43.body).getD .skip,Tryz.func43,rfl,by kernel_rfl,by kernel_rfl,rfl⟩
theorem Qbb:Q9 Tryz.prog 168 (L0h.c 88) L0h.r L0h.n:=⟨Tryz.f168,(Tryz.f168.body).getD .skip,Tryz.func168,rfl,by kernel_rfl,by kernel_rfl,rfl⟩
theorem Q17:Q9 Tryz.prog 82 (L2b.c 71 122) L2b.r L2b.n:=⟨Tryz.f82,(Tryz.f82.body).getD .skip,Tryz.func82,rfl,by kernel_rfl,by kernel_rfl,rfl⟩
theorem Q63:Q9 Tryz.prog 60 (L13.c 94 95) L13.r L13.n:=⟨Tryz.f60,(Tryz.f60.body).getD .skip,Tryz.func60,rfl,by kernel_rfl,by kernel_rfl,rfl⟩
theorem Q5x:Q9 Tryz.prog 30 (L2a.c 47 48 49) L2a.r L2a.n:=⟨Tryz.f30,(Tryz.f30.body).getD .skip,Tryz.func30,rfl,by kernel_rfl,by kernel_rfl,rfl⟩
theorem Qba:Q9 Tryz.prog 33 (L12.c 59 60) L12.r L12.n:=⟨Tryz.f33,(Tryz.f33.body).getD .skip,Tryz.func33,rfl,by kernel_rfl,by kernel_rfl,rfl⟩
theorem Q3u:Q9 Tryz.prog 50 L0m.c L0m.r L0m.n:=⟨Tryz.f50,(Tryz.f50.body).getD .skip,Tryz.func50,rfl,by kernel_rfl,by kernel_rfl,rfl⟩
theorem Q65:Q9 Tryz.prog 61 L10.c L10.r L10.n:=⟨Tryz.f61,(Tryz.f61.body).getD .skip,Tryz.func61,rfl,by kernel_rfl,by kernel_rfl,rfl⟩
theorem Ej:Q9 Tryz.prog 51 L03.c L03.r L03.n:=⟨Tryz.f51,(Tryz.f51.body).getD .skip,Tryz.func51,rfl,by kernel_rfl,by kernel_rfl,rfl⟩
theorem Br:Q9 Tryz.prog 53 L05.c L05.r L05.n:=⟨Tryz.f53,(Tryz.f53.body).getD .skip,Tryz.func53,rfl,by kernel_rfl,by kernel_rfl,rfl⟩
theorem U0:Q9 Tryz.prog 85 L07.c L07.r L07.n:=⟨Tryz.f85,(Tryz.f85.body).getD .skip,Tryz.func85,rfl,by kernel_rfl,by kernel_rfl,rfl⟩
theorem Kr:Q9 Tryz.prog 54 (L06.c 85) L06.r L06.n:=⟨Tryz.f54,(Tryz.f54.body).getD .skip,Tryz.func54,rfl,by kernel_rfl,by kernel_rfl,rfl⟩
theorem Q1f:Q9 Tryz.prog 31 (L04.c 50 51 52 53 54) L04.r L04.n:=⟨Tryz.f31,(Tryz.f31.body).getD .skip,Tryz.func31,rfl,by kernel_rfl,by kernel_rfl,rfl⟩
theorem Q1b:Q9 Tryz.prog 96 L17.c L17.r L17.n:=⟨Tryz.f96,(Tryz.f96.body).getD .skip,Tryz.func96,rfl,by kernel_rfl,by kernel_rfl,rfl⟩
theorem Bp:Q9 Tryz.prog 62 (L15.c 96) L15.r L15.n:=⟨Tryz.f62,(Tryz.f62.body).getD .skip,Tryz.func62,rfl,by kernel_rfl,by kernel_rfl,rfl⟩
theorem Q8f:Q9 Tryz.prog 97 L19.c L19.r L19.n:=⟨Tryz.f97,(Tryz.f97.body).getD .skip,Tryz.func97,rfl,by kernel_rfl,by kernel_rfl,rfl⟩
theorem Q61:Q9 Tryz.prog 63 (L18.c 97) L18.r L18.n:=⟨Tryz.f63,(Tryz.f63.body).getD .skip,Tryz.func63,rfl,by kernel_rfl,by kernel_rfl,rfl⟩
theorem Q62:Q9 Tryz.prog 34 (L16.c 61 62 63) L16.r L16.n:=⟨Tryz.f34,(Tryz.f34.body).getD .skip,Tryz.func34,rfl,by kernel_rfl,by kernel_rfl,rfl⟩
theorem Qb6:Q9 Tryz.prog 135 L27.c L27.r L27.n:=⟨Tryz.f135,(Tryz.f135.body).getD .skip,Tryz.func135,rfl,by kernel_rfl,by kernel_rfl,rfl⟩
theorem Q5y:Q9 Tryz.prog 137 L1z.c L1z.r L1z.n:=⟨Tryz.f137,(Tryz.f137.body).getD .skip,Tryz.func137,rfl,by kernel_rfl,by kernel_rfl,rfl⟩
theorem Qb5:Q9 Tryz.prog 138 L28.c L28.r L28.n:=⟨Tryz.f138,(Tryz.f138.body).getD .skip,Tryz.func138,rfl,by kernel_rfl,by kernel_rfl,rfl⟩
theorem Qb7:Q9 Tryz.prog 93 (L1y.c 135 136 137 138) L1y.r L1y.n:=⟨Tryz.f93,(Tryz.f93.body).getD .skip,Tryz.func93,rfl,by kernel_rfl,by kernel_rfl,rfl⟩
theorem Q1d:Q9 Tryz.prog 89 L0o.c L0o.r L0o.n:=⟨Tryz.f89,(Tryz.f89.body).getD .skip,Tryz.func89,rfl,by kernel_rfl,by kernel_rfl,rfl⟩
theorem Wz:Q9 Tryz.prog 90 (L0q.c 88) L0q.r L0q.n:=⟨Tryz.f90,(Tryz.f90.body).getD .skip,Tryz.func90,rfl,by kernel_rfl,by kernel_rfl,rfl⟩
theorem Bq:Q9 Tryz.prog 87 L0s.c L0s.r L0s.n:=⟨Tryz.f87,(Tryz.f87.body).getD .skip,Tryz.func87,rfl,by kernel_rfl,by kernel_rfl,rfl⟩
theorem Q3r:Q9 Tryz.prog 92 L0u.c L0u.r L0u.n:=⟨Tryz.f92,(Tryz.f92.body).getD .skip,Tryz.func92,rfl,by kernel_rfl,by kernel_rfl,rfl⟩
theorem Q3t:Q9 Tryz.prog 55 L0p.c L0p.r L0p.n:=⟨Tryz.f55,(Tryz.f55.body).getD .skip,Tryz.func55,rfl,by kernel_rfl,by kernel_rfl,rfl⟩
theorem Q3s:Q9 Tryz.prog 56 (L0r.c 86 87) L0r.r L0r.n:=⟨Tryz.f56,(Tryz.f56.body).getD .skip,Tryz.func56,rfl,by kernel_rfl,by kernel_rfl,rfl⟩
theorem Q8h:Q9 Tryz.prog 58 (L0t.c 89 90 91 92 93) L0t.r L0t.n:=⟨Tryz.f58,(Tryz.f58.body).getD .skip,Tryz.func58,rfl,by kernel_rfl,by kernel_rfl,rfl⟩
theorem Q68:Q9 Tryz.prog 57 (L0v.c 88) L0v.r L0v.n:=⟨Tryz.f57,(Tryz.f57.body).getD .skip,Tryz.func57,rfl,by kernel_rfl,by kernel_rfl,rfl⟩
theorem Q1e:Q9 Tryz.prog 32 (L0n.c 55 56 57 58) L0n.r L0n.n:=⟨Tryz.f32,(Tryz.f32.body).getD .skip,Tryz.func32,rfl,by kernel_rfl,by kernel_rfl,rfl⟩
theorem Q3m:Q9 Tryz.prog 67 L1j.c L1j.r L1j.n:=⟨Tryz.f67,(Tryz.f67.body).getD .skip,Tryz.func67,rfl,by kernel_rfl,by kernel_rfl,rfl⟩
theorem Q19:Q9 Tryz.prog 140 (L1c.c 61 191) L1c.r L1c.n:=⟨Tryz.f140,(Tryz.f140.body).getD .skip,Tryz.func140,rfl,by kernel_rfl,by kernel_rfl,rfl⟩
theorem Q1a:Q9 Tryz.prog 98 (L1b.c 61 140) L1b.r L1b.n:=⟨Tryz.f98,(Tryz.f98.body).getD .skip,Tryz.func98,rfl,by kernel_rfl,by kernel_rfl,rfl⟩
theorem Q3p:Q9 Tryz.prog 66 (L1a.c 98) L1a.r L1a.n:=⟨Tryz.f66,(Tryz.f66.body).getD .skip,Tryz.func66,rfl,by kernel_rfl,by kernel_rfl,rfl⟩
theorem Q18:Q9 Tryz.prog 99 L1g.c L1g.r L1g.n:=⟨Tryz.f99,(Tryz.f99.body).getD .skip,Tryz.func99,rfl,by kernel_rfl,by kernel_rfl,rfl⟩
theorem Q3o:Q9 Tryz.prog 141 L1f.c L1f.r L1f.n:=⟨Tryz.f141,(Tryz.f141.body).getD .skip,Tryz.func141,rfl,by kernel_rfl,by kernel_rfl,rfl⟩
theorem Q8d:Q9 Tryz.prog 101 L1i.c L1i.r L1i.n:=⟨Tryz.f101,(Tryz.f101.body).getD .skip,Tryz.func101,rfl,by kernel_rfl,by kernel_rfl,rfl⟩
theorem Q3n:Q9 Tryz.prog 100 (L1h.c 141) L1h.r L1h.n:=⟨Tryz.f100,(Tryz.f100.body).getD .skip,Tryz.func100,rfl,by kernel_rfl,by kernel_rfl,rfl⟩
theorem Qeh:Q9 Tryz.prog 68 (L1d.c 99 100 101) L1d.r L1d.n:=⟨Tryz.f68,(Tryz.f68.body).getD .skip,Tryz.func68,rfl,by kernel_rfl,by kernel_rfl,rfl⟩
theorem Q60:Q9 Tryz.prog 64 L1l.c L1l.r L1l.n:=⟨Tryz.f64,(Tryz.f64.body).getD .skip,Tryz.func64,rfl,by kernel_rfl,by kernel_rfl,rfl⟩
theorem Qb9:Q9 Tryz.prog 65 L1m.c L1m.r L1m.n:=⟨Tryz.f65,(Tryz.f65.body).getD .skip,Tryz.func65,rfl,by kernel_rfl,by kernel_rfl,rfl⟩
theorem Q3l:Q9 Tryz.prog 35 (L1k.c 64 65 67 66 68) L1k.r L1k.n:=⟨Tryz.f35,(Tryz.f35.body).getD .skip,Tryz.func35,rfl,by kernel_rfl,by kernel_rfl,rfl⟩
theorem Q8e:Q9 Tryz.prog 20 L1e.c L1e.r L1e.n:=⟨Tryz.f20,(Tryz.f20.body).getD .skip,Tryz.func20,rfl,by kernel_rfl,by kernel_rfl,rfl⟩
theorem Q3g:Q9 Tryz.prog 121 L21.c L21.r L21.n:=⟨Tryz.f121,(Tryz.f121.body).getD .skip,Tryz.func121,rfl,by kernel_rfl,by kernel_rfl,rfl⟩
theorem Q88:Q9 Tryz.prog 159 (L22.c 135) L22.r L22.n:=⟨Tryz.f159,(Tryz.f159.body).getD .skip,Tryz.func159,rfl,by kernel_rfl,by kernel_rfl,rfl⟩
theorem Eh:Q9 Tryz.prog 164 L25.c L25.r L25.n:=⟨Tryz.f164,(Tryz.f164.body).getD .skip,Tryz.func164,rfl,by kernel_rfl,by kernel_rfl,rfl⟩
theorem Wq:Q9 Tryz.prog 167 L23.c L23.r L23.n:=⟨Tryz.f167,(Tryz.f167.body).getD .skip,Tryz.func167,rfl,by kernel_rfl,by kernel_rfl,rfl⟩
theorem Ei:Q9 Tryz.prog 165 (L24.c 164 167) L24.r L24.n:=⟨Tryz.f165,(Tryz.f165.body).getD .skip,Tryz.func165,rfl,by kernel_rfl,by kernel_rfl,rfl⟩
theorem Ef:Q9 Tryz.prog 166 (L26.c 165) L26.r L26.n:=⟨Tryz.f166,(Tryz.f166.body).getD .skip,Tryz.func166,rfl,by kernel_rfl,by kernel_rfl,rfl⟩
theorem Y3:Q9 Tryz.prog 120 (L29.c 159 164 165 166 167) L29.r L29.n:=⟨Tryz.f120,(Tryz.f120.body).getD .skip,Tryz.func120,rfl,by kernel_rfl,by kernel_rfl,rfl⟩
theorem Q89:Q9 Tryz.prog 78 (L20.c 120 121) L20.r L20.n:=⟨Tryz.f78,(Tryz.f78.body).getD .skip,Tryz.func78,rfl,by kernel_rfl,by kernel_rfl,rfl⟩
theorem Qb8:Q9 Tryz.prog 158 L1t.c L1t.r L1t.n:=⟨Tryz.f158,(Tryz.f158.body).getD .skip,Tryz.func158,rfl,by kernel_rfl,by kernel_rfl,rfl⟩
theorem Q3i:Q9 Tryz.prog 162 (L1v.c 163) L1v.r L1v.n:=⟨Tryz.f162,(Tryz.f162.body).getD .skip,Tryz.func162,rfl,by kernel_rfl,by kernel_rfl,rfl⟩
theorem Zp:Q9 Tryz.prog 161 L2j.c L2j.r L2j.n:=⟨Tryz.f161,(Tryz.f161.body).getD .skip,Tryz.func161,rfl,by kernel_rfl,by kernel_rfl,rfl⟩
theorem Q8a:Q9 Tryz.prog 118 (L1u.c 161 162) L1u.r L1u.n:=⟨Tryz.f118,(Tryz.f118.body).getD .skip,Tryz.func118,rfl,by kernel_rfl,by kernel_rfl,rfl⟩
theorem Q3j:Q9 Tryz.prog 115 (L1r.c 158 159) L1r.r L1r.n:=⟨Tryz.f115,(Tryz.f115.body).getD .skip,Tryz.func115,rfl,by kernel_rfl,by kernel_rfl,rfl⟩
theorem X8:Q9 Tryz.prog 119 L2k.c L2k.r L2k.n:=⟨Tryz.f119,(Tryz.f119.body).getD .skip,Tryz.func119,rfl,by kernel_rfl,by kernel_rfl,rfl⟩
theorem Bo:Q9 Tryz.prog 77 (L1s.c 115 116 117 118 119) L1s.r L1s.n:=⟨Tryz.f77,(Tryz.f77.body).getD .skip,Tryz.func77,rfl,by kernel_rfl,by kernel_rfl,rfl⟩
theorem Q3k:Q9 Tryz.prog 45 (L1q.c 77 78) L1q.r L1q.n:=⟨Tryz.f45,(Tryz.f45.body).getD .skip,Tryz.func45,rfl,by kernel_rfl,by kernel_rfl,rfl⟩
theorem Q86:Q9 Tryz.prog 25 L2p.c L2p.r L2p.n:=⟨Tryz.f25,(Tryz.f25.body).getD .skip,Tryz.func25,rfl,by kernel_rfl,by kernel_rfl,rfl⟩
theorem Q8b:Q9 Tryz.prog 29 L1p.c L1p.r L1p.n:=⟨Tryz.f29,(Tryz.f29.body).getD .skip,Tryz.func29,rfl,by kernel_rfl,by kernel_rfl,rfl⟩
theorem Q15:Q9 Tryz.prog 15 (L2m.c 25) L2m.r L2m.n:=⟨Tryz.f15,(Tryz.f15.body).getD .skip,Tryz.func15,rfl,by kernel_rfl,by kernel_rfl,rfl⟩
theorem Q3b:Q9 Tryz.prog 114 L31.c L31.r L31.n:=⟨Tryz.f114,(Tryz.f114.body).getD .skip,Tryz.func114,rfl,by kernel_rfl,by kernel_rfl,rfl⟩
theorem Q82:Q9 Tryz.prog 76 (L30.c 114) L30.r L30.n:=⟨Tryz.f76,(Tryz.f76.body).getD .skip,Tryz.func76,rfl,by kernel_rfl,by kernel_rfl,rfl⟩
theorem Qei:Q9 Tryz.prog 44 (L0c.c 47 76) L0c.r L0c.n:=⟨Tryz.f44,(Tryz.f44.body).getD .skip,Tryz.func44,rfl,by kernel_rfl,by kernel_rfl,rfl⟩
theorem Q8c:Q9 Tryz.prog 14 (L1n.c 20) L1n.r L1n.n:=⟨Tryz.f14,(Tryz.f14.body).getD .skip,Tryz.func14,rfl,by kernel_rfl,by kernel_rfl,rfl⟩
theorem Q5s:Q9 Tryz.prog 18 (L2n.c 25 30 31 32) L2n.r L2n.n:=⟨Tryz.f18,(Tryz.f18.body).getD .skip,Tryz.func18,rfl,by kernel_rfl,by kernel_rfl,rfl⟩
theorem Q5z:Q9 Tryz.prog 19 (L1o.c 29 33 34 35) L1o.r L1o.n:=⟨Tryz.f19,(Tryz.f19.body).getD .skip,Tryz.func19,rfl,by kernel_rfl,by kernel_rfl,rfl⟩
theorem Q85:Q9 Tryz.prog 26 (L2q.c 43 44 15 18) L2q.r L2q.n:=⟨Tryz.f26,(Tryz.f26.body).getD .skip,Tryz.func26,rfl,by kernel_rfl,by kernel_rfl,rfl⟩
theorem Q3e:Q9 Tryz.prog 27 (L2r.c 45) L2r.r L2r.n:=⟨Tryz.f27,(Tryz.f27.body).getD .skip,Tryz.func27,rfl,by kernel_rfl,by kernel_rfl,rfl⟩
theorem Q3f:Q9 Tryz.prog 11 (L2o.c 25 26 27) L2o.r L2o.n:=⟨Tryz.f11,(Tryz.f11.body).getD .skip,Tryz.func11,rfl,by kernel_rfl,by kernel_rfl,rfl⟩
theorem Q5v:Q9 Tryz.prog 37 (L2g.c 71) L2g.r L2g.n:=⟨Tryz.f37,(Tryz.f37.body).getD .skip,Tryz.func37,rfl,by kernel_rfl,by kernel_rfl,rfl⟩
theorem Q5u:Q9 Tryz.prog 38 L2h.c L2h.r L2h.n:=⟨Tryz.f38,(Tryz.f38.body).getD .skip,Tryz.func38,rfl,by kernel_rfl,by kernel_rfl,rfl⟩
theorem Q5t:Q9 Tryz.prog 39 L2i.c L2i.r L2i.n:=⟨Tryz.f39,(Tryz.f39.body).getD .skip,Tryz.func39,rfl,by kernel_rfl,by kernel_rfl,rfl⟩
theorem Bn:Q9 Tryz.prog 40 (L2f.c 39) L2f.r L2f.n:=⟨Tryz.f40,(Tryz.f40.body).getD .skip,Tryz.func40,rfl,by kernel_rfl,by kernel_rfl,rfl⟩
theorem X7:Q9 Tryz.prog 41 L2l.c L2l.r L2l.n:=⟨Tryz.f41,(Tryz.f41.body).getD .skip,Tryz.func41,rfl,by kernel_rfl,by kernel_rfl,rfl⟩
theorem Q87:Q9 Tryz.prog 22 (L2e.c 37 38 39 40 41) L2e.r L2e.n:=⟨Tryz.f22,(Tryz.f22.body).getD .skip,Tryz.func22,rfl,by kernel_rfl,by kernel_rfl,rfl⟩
theorem Qbc:Q9 Tryz.prog 17 L09.c L09.r L09.n:=⟨Tryz.f17,(Tryz.f17.body).getD .skip,Tryz.func17,rfl,by kernel_rfl,by kernel_rfl,rfl⟩
theorem Ii:Q9 Tryz.prog 23 L0a.c L0a.r L0a.n:=⟨Tryz.f23,(Tryz.f23.body).getD .skip,Tryz.func23,rfl,by kernel_rfl,by kernel_rfl,rfl⟩
theorem Q69:Q9 Tryz.prog 10 (L0b.c 15 22 11 23 14) L0b.r L0b.n:=⟨Tryz.f10,(Tryz.f10.body).getD .skip,Tryz.func10,rfl,by kernel_rfl,by kernel_rfl,rfl⟩
theorem Bm:Q9 Tryz.prog 153 (L33.c 206) L33.r L33.n:=⟨Tryz.f153,(Tryz.f153.body).getD .skip,Tryz.func153,rfl,by kernel_rfl,by kernel_rfl,rfl⟩
theorem Qh6:Q9 Tryz.prog 207 (L35.c 206 108) L35.r L35.n:=⟨Tryz.f207,(Tryz.f207.body).getD .skip,Tryz.func207,rfl,by kernel_rfl,by kernel_rfl,rfl⟩
theorem W8:Q9 Tryz.prog 88 L0g.c L0g.r L0g.n:=⟨Tryz.f88,(Tryz.f88.body).getD .skip,Tryz.func88,rfl,by kernel_rfl,by kernel_rfl,rfl⟩
theorem Q16:Q9 Tryz.prog 122 (L2c.c 168) L2c.r L2c.n:=⟨Tryz.f122,(Tryz.f122.body).getD .skip,Tryz.func122,rfl,by kernel_rfl,by kernel_rfl,rfl⟩
theorem Q1c:Q9 Tryz.prog 95 L14.c L14.r L14.n:=⟨Tryz.f95,(Tryz.f95.body).getD .skip,Tryz.func95,rfl,by kernel_rfl,by kernel_rfl,rfl⟩
theorem Q5w:Q9 Tryz.prog 49 (L2d.c 82) L2d.r L2d.n:=⟨Tryz.f49,(Tryz.f49.body).getD .skip,Tryz.func49,rfl,by kernel_rfl,by kernel_rfl,rfl⟩
theorem Q8g:Q9 Tryz.prog 191 (L0z.c 233) L0z.r L0z.n:=⟨Tryz.f191,(Tryz.f191.body).getD .skip,Tryz.func191,rfl,by kernel_rfl,by kernel_rfl,rfl⟩
theorem Q66:Q9 Tryz.prog 233 (L0y.c 61) L0y.r L0y.n:=⟨Tryz.f233,(Tryz.f233.body).getD .skip,Tryz.func233,rfl,by kernel_rfl,by kernel_rfl,rfl⟩
theorem ok_law26_StackSlice:Q9 Tryz.prog 5 (L08.c 17 10 18 19 20) L08.r L08.n:=⟨Tryz.f5,(Tryz.f5.body).getD .skip,Tryz.func5,rfl,by kernel_rfl,by kernel_rfl,rfl⟩
end Go.Proofs.YtnaehggpjfdenaaGreat
