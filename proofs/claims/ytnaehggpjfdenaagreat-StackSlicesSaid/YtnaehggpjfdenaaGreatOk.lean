/- The program's functions are those whose code the library's texts hold. -/
import Derived.Test.YtnaehggpjfdenaaGreatRows
import Derived.Test.YtnaehggpjfdenaaGreatGoScK
import Derived.Test.YtnaehggpjfdenaaGreatGoHeap
import Derived.Test.YtnaehggpjfdenaaGreatGoCsA
import Derived.Test.YtnaehggpjfdenaaGreatGoHG
import Derived.Test.YtnaehggpjfdenaaGreatGoCtG
import Derived.Test.YtnaehggpjfdenaaGreatGoCtJ
import Derived.Test.YtnaehggpjfdenaaGreatGoRevC
import Derived.Test.YtnaehggpjfdenaaGreatGoSkB
import Derived.Test.YtnaehggpjfdenaaGreatGoRpA
import Derived.Test.YtnaehggpjfdenaaGreatGoSecE
import Derived.Test.YtnaehggpjfdenaaGreatGoMap
import Derived.Test.YtnaehggpjfdenaaGreatGoRsE
import Derived.Test.YtnaehggpjfdenaaGreatGoRsJ
import Derived.Test.YtnaehggpjfdenaaGreatGoRsM
import Derived.Test.YtnaehggpjfdenaaGreatGoUnI
import Derived.Test.YtnaehggpjfdenaaGreatGoSkD
import Derived.Test.YtnaehggpjfdenaaGreatGoUnK
import Derived.Test.YtnaehggpjfdenaaGreatGoEu
import Derived.Test.YtnaehggpjfdenaaGreatGoSn
import Derived.Test.YtnaehggpjfdenaaGreatGoDet
import Derived.Test.YtnaehggpjfdenaaGreatGoTk
import Derived.Test.YtnaehggpjfdenaaGreatGoTpB
import Derived.Test.YtnaehggpjfdenaaGreatGoVs
set_option linter.unusedVariables false
set_option linter.unusedSimpArgs false
namespace Go.Proofs.YtnaehggpjfdenaaGreat
open Go.Abs
theorem Qcj:Q5 Tryz.prog 108 L4f.c L4f.r L4f.n:=⟨Tryz.f108,(Tryz.f108.body).getD .skip,Tryz.func108,rfl,by kernel_rfl,by kernel_rfl,rfl⟩
theorem Q78:Q5 Tryz.prog 139 L14.c L14.r L14.n:=⟨Tryz.f139,(Tryz.f139.body).getD .skip,Tryz.func139,rfl,by kernel_rfl,by kernel_rfl,rfl⟩
theorem Qg4:Q5 Tryz.prog 71 (L4d.c 108) L4d.r L4d.n:=⟨Tryz.f71,(Tryz.f71.body).getD .skip,Tryz.func71,rfl,by kernel_rfl,by kernel_rfl,rfl⟩
theorem Qab:Q5 Tryz.prog 94 (L12.c 139) L12.r L12.n:=⟨Tryz.f94,(Tryz.f94.body).getD .skip,Tryz.func94,rfl,by kernel_rfl,by kernel_rfl,rfl⟩
theorem Qd6:Q5 Tryz.prog 47 (L0e.c 71) L0e.r L0e.n:=⟨Tryz.f47,(Tryz.f47.body).getD .skip,Tryz.func47,rfl,by kernel_rfl,by kernel_rfl,rfl⟩
theorem Qa8:Q5 Tryz.prog 59 (L18.c 94) L18.r L18.n:=⟨Tryz.f59,(Tryz.f59.body).getD .skip,Tryz.func59,rfl,by kernel_rfl,by kernel_rfl,rfl⟩
theorem Q7f:Q5 Tryz.prog 48 (L0f.c 47) L0f.r L0f.n:=⟨Tryz.f48,(Tryz.f48.body).getD .skip,Tryz.func48,rfl,by kernel_rfl,by kernel_rfl,rfl⟩
theorem Q47:Q5 Tryz.prog 144 (L19.c 59) L19.r L19.n:=⟨Tryz.f144,(Tryz.f144.body).getD .skip,Tryz.func144,rfl,by kernel_rfl,by kernel_rfl,rfl⟩
theorem Q20:Q5 Tryz.prog 206 (L4e.c 108) L4e.r L4e.n:=⟨Tryz.f206,(Tryz.f206.body).getD .skip,Tryz.func206,rfl,by kernel_rfl,by kernel_rfl,rfl⟩
theorem Er:Q5 Tryz.prog 202 (L13.c 139) L13.r L13.n:=⟨Tryz.f202,(Tryz.f202.body).getD .skip,Tryz.func202,rfl,by kernel_rfl,by kernel_rfl,rfl⟩
theorem Qma:Q5 Tryz.prog 154 (L4c.c 71) L4c.r L4c.n:=⟨Tryz.f154,(Tryz.f154.body).getD .skip,Tryz.func154,rfl,by kernel_rfl,by kernel_rfl,rfl⟩
theorem Qgc:Q5 Tryz.prog 197 (L11.c 94) L11.r L11.n:=⟨Tryz.f197,(Tryz.f197.body).getD .skip,Tryz.func197,rfl,by kernel_rfl,by kernel_rfl,rfl⟩
theorem Q3u:Q5 Tryz.prog 111 (L48.c 71 154 153) L48.r L48.n:=⟨Tryz.f111,(Tryz.f111.body).getD .skip,Tryz.func111,rfl,by kernel_rfl,by kernel_rfl,rfl⟩
theorem Q0m:Q5 Tryz.prog 145 (L0x.c 94 197 196) L0x.r L0x.n:=⟨Tryz.f145,(Tryz.f145.body).getD .skip,Tryz.func145,rfl,by kernel_rfl,by kernel_rfl,rfl⟩
theorem Q0j:Q5 Tryz.prog 74 (L4g.c 48 111) L4g.r L4g.n:=⟨Tryz.f74,(Tryz.f74.body).getD .skip,Tryz.func74,rfl,by kernel_rfl,by kernel_rfl,rfl⟩
theorem Bq:Q5 Tryz.prog 104 (L1b.c 144 145) L1b.r L1b.n:=⟨Tryz.f104,(Tryz.f104.body).getD .skip,Tryz.func104,rfl,by kernel_rfl,by kernel_rfl,rfl⟩
theorem Q7d:Q5 Tryz.prog 152 L0l.c L0l.r L0l.n:=⟨Tryz.f152,(Tryz.f152.body).getD .skip,Tryz.func152,rfl,by kernel_rfl,by kernel_rfl,rfl⟩
theorem Q0n:Q5 Tryz.prog 110 (L0k.c 152) L0k.r L0k.n:=⟨Tryz.f110,(Tryz.f110.body).getD .skip,Tryz.func110,rfl,by kernel_rfl,by kernel_rfl,rfl⟩
theorem Qd2:Q5 Tryz.prog 195 L1s.c L1s.r L1s.n:=⟨Tryz.f195,(Tryz.f195.body).getD .skip,Tryz.func195,rfl,by kernel_rfl,by kernel_rfl,rfl⟩
theorem Q27:Q5 Tryz.prog 143 (L1q.c 195) L1q.r L1q.n:=⟨Tryz.f143,(Tryz.f143.body).getD .skip,Tryz.func143,rfl,by kernel_rfl,by kernel_rfl,rfl⟩
theorem Q0o:Q5 Tryz.prog 73 (L0j.c 47 110) L0j.r L0j.n:=⟨Tryz.f73,(Tryz.f73.body).getD .skip,Tryz.func73,rfl,by kernel_rfl,by kernel_rfl,rfl⟩
theorem Q28:Q5 Tryz.prog 103 (L1p.c 59 143) L1p.r L1p.n:=⟨Tryz.f103,(Tryz.f103.body).getD .skip,Tryz.func103,rfl,by kernel_rfl,by kernel_rfl,rfl⟩
theorem Qcm:Q5 Tryz.prog 155 L42.c L42.r L42.n:=⟨Tryz.f155,(Tryz.f155.body).getD .skip,Tryz.func155,rfl,by kernel_rfl,by kernel_rfl,rfl⟩
theorem Q6m:Q5 Tryz.prog 148 (L41.c 47 155) L41.r L41.n:=⟨Tryz.f148,(Tryz.f148.body).getD .skip,Tryz.func148,rfl,by kernel_rfl,by kernel_rfl,rfl⟩
theorem Q6l:Q5 Tryz.prog 149 L44.c L44.r L44.n:=⟨Tryz.f149,(Tryz.f149.body).getD .skip,Tryz.func149,rfl,by kernel_rfl,by kernel_rfl,rfl⟩
theorem Q0k:Q5 Tryz.prog 156 L45.c L45.r L45.n:=⟨Tryz.f156,(Tryz.f156.body).getD .skip,Tryz.func156,rfl,by kernel_rfl,by kernel_rfl,rfl⟩
theorem Q4b:Q5 Tryz.prog 217 L02.c L02.r L02.n:=⟨Tryz.f217,(Tryz.f217.body).getD .skip,Tryz.func217,rfl,by kernel_rfl,by kernel_rfl,rfl⟩
theorem Q0q:Q5 Tryz.prog 163 (L00.c 217) L00.r L00.n:=⟨Tryz.f163,(Tryz.f163.body).getD .skip,Tryz.func163,rfl,by kernel_rfl,by kernel_rfl,rfl⟩
theorem Qd7:Q5 Tryz.prog 205 L01.c L01.r L01.n:=⟨Tryz.f205,(Tryz.f205.body).getD .skip,Tryz.func205,rfl,by kernel_rfl,by kernel_rfl,rfl⟩
theorem Qcl:Q5 Tryz.prog 151 (L43.c 163 205) L43.r L43.n:=⟨Tryz.f151,(Tryz.f151.body).getD .skip,Tryz.func151,rfl,by kernel_rfl,by kernel_rfl,rfl⟩
theorem Q3v:Q5 Tryz.prog 109 (L3y.c 148 149 150 151) L3y.r L3y.n:=⟨Tryz.f109,(Tryz.f109.body).getD .skip,Tryz.func109,rfl,by kernel_rfl,by kernel_rfl,rfl⟩
theorem Q9r:Q5 Tryz.prog 72 (L3z.c 47 109) L3z.r L3z.n:=⟨Tryz.f72,(Tryz.f72.body).getD .skip,Tryz.func72,rfl,by kernel_rfl,by kernel_rfl,rfl⟩
theorem Q9q:Q5 Tryz.prog 112 (L40.c 47 155 156 116) L40.r L40.n:=⟨Tryz.f112,(Tryz.f112.body).getD .skip,Tryz.func112,rfl,by kernel_rfl,by kernel_rfl,rfl⟩
theorem Q75:Q5 Tryz.prog 235 L1h.c L1h.r L1h.n:=⟨Tryz.f235,(Tryz.f235.body).getD .skip,Tryz.func235,rfl,by kernel_rfl,by kernel_rfl,rfl⟩
theorem Qa7:Q5 Tryz.prog 200 (L1k.c 235) L1k.r L1k.n:=⟨Tryz.f200,(Tryz.f200.body).getD .skip,Tryz.func200,rfl,by kernel_rfl,by kernel_rfl,rfl⟩
theorem Q73:Q5 Tryz.prog 193 (L1j.c 200) L1j.r L1j.n:=⟨Tryz.f193,(Tryz.f193.body).getD .skip,Tryz.func193,rfl,by kernel_rfl,by kernel_rfl,rfl⟩
theorem Qd3:Q5 Tryz.prog 234 (L1o.c 200) L1o.r L1o.n:=⟨Tryz.f234,(Tryz.f234.body).getD .skip,Tryz.func234,rfl,by kernel_rfl,by kernel_rfl,rfl⟩
theorem Q29:Q5 Tryz.prog 199 L1e.c L1e.r L1e.n:=⟨Tryz.f199,(Tryz.f199.body).getD .skip,Tryz.func199,rfl,by kernel_rfl,by kernel_rfl,rfl⟩
theorem Q74:Q5 Tryz.prog 192 (L1i.c 199 234 200) L1i.r L1i.n:=⟨Tryz.f192,(Tryz.f192.body).getD .skip,Tryz.func192,rfl,by kernel_rfl,by kernel_rfl,rfl⟩
theorem Bp:Q5 Tryz.prog 201 L1g.c L1g.r L1g.n:=⟨Tryz.f201,(Tryz.f201.body).getD .skip,Tryz.func201,rfl,by kernel_rfl,by kernel_rfl,rfl⟩
theorem Bo:Q5 Tryz.prog 198 (L1n.c 199 201 234) L1n.r L1n.n:=⟨Tryz.f198,(Tryz.f198.body).getD .skip,Tryz.func198,rfl,by kernel_rfl,by kernel_rfl,rfl⟩
theorem Q45:Q5 Tryz.prog 194 L1l.c L1l.r L1l.n:=⟨Tryz.f194,(Tryz.f194.body).getD .skip,Tryz.func194,rfl,by kernel_rfl,by kernel_rfl,rfl⟩
theorem Q2a:Q5 Tryz.prog 142 (L1c.c 59 192 194 193) L1c.r L1c.n:=⟨Tryz.f142,(Tryz.f142.body).getD .skip,Tryz.func142,rfl,by kernel_rfl,by kernel_rfl,rfl⟩
theorem Q77:Q5 Tryz.prog 102 (L1d.c 59 142) L1d.r L1d.n:=⟨Tryz.f102,(Tryz.f102.body).getD .skip,Tryz.func102,rfl,by kernel_rfl,by kernel_rfl,rfl⟩
theorem Q72:Q5 Tryz.prog 146 (L1m.c 198 199 201 200 193) L1m.r L1m.n:=⟨Tryz.f146,(Tryz.f146.body).getD .skip,Tryz.func146,rfl,by kernel_rfl,by kernel_rfl,rfl⟩
theorem Q76:Q5 Tryz.prog 105 (L1f.c 59 146) L1f.r L1f.n:=⟨Tryz.f105,(Tryz.f105.body).getD .skip,Tryz.func105,rfl,by kernel_rfl,by kernel_rfl,rfl⟩
theorem Qmc:Q5 Tryz.prog 157 (L4a.c 206 153 207) L4a.r L4a.n:=⟨Tryz.f157,(Tryz.f157.body).getD .skip,Tryz.func157,rfl,by kernel_rfl,by kernel_rfl,rfl⟩
theorem Q7e:Q5 Tryz.prog 113 (L0g.c 47 157) L0g.r L0g.n:=⟨Tryz.f113,(Tryz.f113.body).getD .skip,Tryz.func113,rfl,by kernel_rfl,by kernel_rfl,rfl⟩
theorem Qge:Q5 Tryz.prog 147 (L0z.c 202 196 203) L0z.r L0z.n:=⟨Tryz.f147,(Tryz.f147.body).getD .skip,Tryz.func147,rfl,by kernel_rfl,by kernel_rfl,rfl⟩
theorem Q46:Q5 Tryz.prog 106 (L1a.c 59 147) L1a.r L1a.n:=⟨Tryz.f106,(Tryz.f106.body).getD .skip,Tryz.func106,rfl,by kernel_rfl,by kernel_rfl,rfl⟩
theorem Q0l:Q5 Tryz.prog 75 (L33.c 112 113) L33.r L33.n:=⟨Tryz.f75,(Tryz.f75.body).getD .skip,Tryz.func75,rfl,by kernel_rfl,by kernel_rfl,rfl⟩
theorem Q6q:Q5 Tryz.prog 43 (L32.c 47 72 73 74 75) L32.r L32.n:=⟨Tryz.f43,(Tryz.f43.body).getD .skip,Tryz.func43,rfl,by kernel_rfl,by kernel_rfl,rfl⟩
theorem Qd1:Q5 Tryz.prog 107 L1u.c L1u.r L1u.n:=⟨Tryz.f107,(Tryz.f107.body).getD .skip,Tryz.func107,rfl,by kernel_rfl,by kernel_rfl,rfl⟩
theorem Qa6:Q5 Tryz.prog 69 (L1t.c 59 102 103 104 105 107 106) L1t.r L1t.n:=⟨Tryz.f69,(Tryz.f69.body).getD .skip,Tryz.func69,rfl,by kernel_rfl,by kernel_rfl,rfl⟩
theorem Qgf:Q5 Tryz.prog 168 (L0i.c 88) L0i.r L0i.n:=⟨Tryz.f168,(Tryz.f168.body).getD .skip,Tryz.func168,rfl,by kernel_rfl,by kernel_rfl,rfl⟩
theorem Q3y:Q5 Tryz.prog 82 (L3h.c 71 122) L3h.r L3h.n:=⟨Tryz.f82,(Tryz.f82.body).getD .skip,Tryz.func82,rfl,by kernel_rfl,by kernel_rfl,rfl⟩
theorem Qa5:Q5 Tryz.prog 60 (L1w.c 94 95) L1w.r L1w.n:=⟨Tryz.f60,(Tryz.f60.body).getD .skip,Tryz.func60,rfl,by kernel_rfl,by kernel_rfl,rfl⟩
theorem Q9x:Q5 Tryz.prog 30 (L3g.c 47 48 49) L3g.r L3g.n:=⟨Tryz.f30,(Tryz.f30.body).getD .skip,Tryz.func30,rfl,by kernel_rfl,by kernel_rfl,rfl⟩
theorem Qgb:Q5 Tryz.prog 33 (L1v.c 59 60) L1v.r L1v.n:=⟨Tryz.f33,(Tryz.f33.body).getD .skip,Tryz.func33,rfl,by kernel_rfl,by kernel_rfl,rfl⟩
theorem Q7c:Q5 Tryz.prog 50 L0n.c L0n.r L0n.n:=⟨Tryz.f50,(Tryz.f50.body).getD .skip,Tryz.func50,rfl,by kernel_rfl,by kernel_rfl,rfl⟩
theorem Qa9:Q5 Tryz.prog 61 L17.c L17.r L17.n:=⟨Tryz.f61,(Tryz.f61.body).getD .skip,Tryz.func61,rfl,by kernel_rfl,by kernel_rfl,rfl⟩
theorem Br:Q5 Tryz.prog 51 L03.c L03.r L03.n:=⟨Tryz.f51,(Tryz.f51.body).getD .skip,Tryz.func51,rfl,by kernel_rfl,by kernel_rfl,rfl⟩
theorem Q2c:Q5 Tryz.prog 53 L05.c L05.r L05.n:=⟨Tryz.f53,(Tryz.f53.body).getD .skip,Tryz.func53,rfl,by kernel_rfl,by kernel_rfl,rfl⟩
theorem Eu:Q5 Tryz.prog 85 L07.c L07.r L07.n:=⟨Tryz.f85,(Tryz.f85.body).getD .skip,Tryz.func85,rfl,by kernel_rfl,by kernel_rfl,rfl⟩
theorem Wz:Q5 Tryz.prog 54 (L06.c 85) L06.r L06.n:=⟨Tryz.f54,(Tryz.f54.body).getD .skip,Tryz.func54,rfl,by kernel_rfl,by kernel_rfl,rfl⟩
theorem Q4a:Q5 Tryz.prog 31 (L04.c 50 51 52 53 54) L04.r L04.n:=⟨Tryz.f31,(Tryz.f31.body).getD .skip,Tryz.func31,rfl,by kernel_rfl,by kernel_rfl,rfl⟩
theorem Q43:Q5 Tryz.prog 96 L20.c L20.r L20.n:=⟨Tryz.f96,(Tryz.f96.body).getD .skip,Tryz.func96,rfl,by kernel_rfl,by kernel_rfl,rfl⟩
theorem Q26:Q5 Tryz.prog 62 (L1y.c 96) L1y.r L1y.n:=⟨Tryz.f62,(Tryz.f62.body).getD .skip,Tryz.func62,rfl,by kernel_rfl,by kernel_rfl,rfl⟩
theorem Qd0:Q5 Tryz.prog 97 L22.c L22.r L22.n:=⟨Tryz.f97,(Tryz.f97.body).getD .skip,Tryz.func97,rfl,by kernel_rfl,by kernel_rfl,rfl⟩
theorem Qa3:Q5 Tryz.prog 63 (L21.c 97) L21.r L21.n:=⟨Tryz.f63,(Tryz.f63.body).getD .skip,Tryz.func63,rfl,by kernel_rfl,by kernel_rfl,rfl⟩
theorem Qa4:Q5 Tryz.prog 34 (L1z.c 61 62 63) L1z.r L1z.n:=⟨Tryz.f34,(Tryz.f34.body).getD .skip,Tryz.func34,rfl,by kernel_rfl,by kernel_rfl,rfl⟩
theorem Qg6:Q5 Tryz.prog 135 L3d.c L3d.r L3d.n:=⟨Tryz.f135,(Tryz.f135.body).getD .skip,Tryz.func135,rfl,by kernel_rfl,by kernel_rfl,rfl⟩
theorem Q9y:Q5 Tryz.prog 137 L35.c L35.r L35.n:=⟨Tryz.f137,(Tryz.f137.body).getD .skip,Tryz.func137,rfl,by kernel_rfl,by kernel_rfl,rfl⟩
theorem Qg5:Q5 Tryz.prog 138 L3e.c L3e.r L3e.n:=⟨Tryz.f138,(Tryz.f138.body).getD .skip,Tryz.func138,rfl,by kernel_rfl,by kernel_rfl,rfl⟩
theorem Qg7:Q5 Tryz.prog 93 (L34.c 135 136 137 138) L34.r L34.n:=⟨Tryz.f93,(Tryz.f93.body).getD .skip,Tryz.func93,rfl,by kernel_rfl,by kernel_rfl,rfl⟩
theorem Q48:Q5 Tryz.prog 89 L0p.c L0p.r L0p.n:=⟨Tryz.f89,(Tryz.f89.body).getD .skip,Tryz.func89,rfl,by kernel_rfl,by kernel_rfl,rfl⟩
theorem Et:Q5 Tryz.prog 90 (L0r.c 88) L0r.r L0r.n:=⟨Tryz.f90,(Tryz.f90.body).getD .skip,Tryz.func90,rfl,by kernel_rfl,by kernel_rfl,rfl⟩
theorem Q2b:Q5 Tryz.prog 87 L0t.c L0t.r L0t.n:=⟨Tryz.f87,(Tryz.f87.body).getD .skip,Tryz.func87,rfl,by kernel_rfl,by kernel_rfl,rfl⟩
theorem Q79:Q5 Tryz.prog 92 L0v.c L0v.r L0v.n:=⟨Tryz.f92,(Tryz.f92.body).getD .skip,Tryz.func92,rfl,by kernel_rfl,by kernel_rfl,rfl⟩
theorem Q7b:Q5 Tryz.prog 55 L0q.c L0q.r L0q.n:=⟨Tryz.f55,(Tryz.f55.body).getD .skip,Tryz.func55,rfl,by kernel_rfl,by kernel_rfl,rfl⟩
theorem Q7a:Q5 Tryz.prog 56 (L0s.c 86 87) L0s.r L0s.n:=⟨Tryz.f56,(Tryz.f56.body).getD .skip,Tryz.func56,rfl,by kernel_rfl,by kernel_rfl,rfl⟩
theorem Qd5:Q5 Tryz.prog 58 (L0u.c 89 90 91 92 93) L0u.r L0u.n:=⟨Tryz.f58,(Tryz.f58.body).getD .skip,Tryz.func58,rfl,by kernel_rfl,by kernel_rfl,rfl⟩
theorem Qac:Q5 Tryz.prog 57 (L0w.c 88) L0w.r L0w.n:=⟨Tryz.f57,(Tryz.f57.body).getD .skip,Tryz.func57,rfl,by kernel_rfl,by kernel_rfl,rfl⟩
theorem Q49:Q5 Tryz.prog 32 (L0o.c 55 56 57 58) L0o.r L0o.n:=⟨Tryz.f32,(Tryz.f32.body).getD .skip,Tryz.func32,rfl,by kernel_rfl,by kernel_rfl,rfl⟩
theorem Q6w:Q5 Tryz.prog 67 L2k.c L2k.r L2k.n:=⟨Tryz.f67,(Tryz.f67.body).getD .skip,Tryz.func67,rfl,by kernel_rfl,by kernel_rfl,rfl⟩
theorem Q41:Q5 Tryz.prog 140 (L25.c 61 191) L25.r L25.n:=⟨Tryz.f140,(Tryz.f140.body).getD .skip,Tryz.func140,rfl,by kernel_rfl,by kernel_rfl,rfl⟩
theorem Q42:Q5 Tryz.prog 98 (L24.c 61 140) L24.r L24.n:=⟨Tryz.f98,(Tryz.f98.body).getD .skip,Tryz.func98,rfl,by kernel_rfl,by kernel_rfl,rfl⟩
theorem Q71:Q5 Tryz.prog 66 (L23.c 98) L23.r L23.n:=⟨Tryz.f66,(Tryz.f66.body).getD .skip,Tryz.func66,rfl,by kernel_rfl,by kernel_rfl,rfl⟩
theorem Q40:Q5 Tryz.prog 99 L2e.c L2e.r L2e.n:=⟨Tryz.f99,(Tryz.f99.body).getD .skip,Tryz.func99,rfl,by kernel_rfl,by kernel_rfl,rfl⟩
theorem Q70:Q5 Tryz.prog 141 L2a.c L2a.r L2a.n:=⟨Tryz.f141,(Tryz.f141.body).getD .skip,Tryz.func141,rfl,by kernel_rfl,by kernel_rfl,rfl⟩
theorem Qcw:Q5 Tryz.prog 101 L2j.c L2j.r L2j.n:=⟨Tryz.f101,(Tryz.f101.body).getD .skip,Tryz.func101,rfl,by kernel_rfl,by kernel_rfl,rfl⟩
theorem Q6x:Q5 Tryz.prog 100 (L2i.c 141) L2i.r L2i.n:=⟨Tryz.f100,(Tryz.f100.body).getD .skip,Tryz.func100,rfl,by kernel_rfl,by kernel_rfl,rfl⟩
theorem Qjl:Q5 Tryz.prog 68 (L26.c 99 100 101) L26.r L26.n:=⟨Tryz.f68,(Tryz.f68.body).getD .skip,Tryz.func68,rfl,by kernel_rfl,by kernel_rfl,rfl⟩
theorem Qa0:Q5 Tryz.prog 64 L2m.c L2m.r L2m.n:=⟨Tryz.f64,(Tryz.f64.body).getD .skip,Tryz.func64,rfl,by kernel_rfl,by kernel_rfl,rfl⟩
theorem Qga:Q5 Tryz.prog 65 L2n.c L2n.r L2n.n:=⟨Tryz.f65,(Tryz.f65.body).getD .skip,Tryz.func65,rfl,by kernel_rfl,by kernel_rfl,rfl⟩
theorem Q6v:Q5 Tryz.prog 35 (L2l.c 64 65 67 66 68) L2l.r L2l.n:=⟨Tryz.f35,(Tryz.f35.body).getD .skip,Tryz.func35,rfl,by kernel_rfl,by kernel_rfl,rfl⟩
theorem Qcy:Q5 Tryz.prog 42 L2d.c L2d.r L2d.n:=⟨Tryz.f42,(Tryz.f42.body).getD .skip,Tryz.func42,rfl,by kernel_rfl,by kernel_rfl,rfl⟩
theorem Qa1:Q5 Tryz.prog 24 (L29.c 42) L29.r L29.n:=⟨Tryz.f24,(Tryz.f24.body).getD .skip,Tryz.func24,rfl,by kernel_rfl,by kernel_rfl,rfl⟩
theorem Q6y:Q5 Tryz.prog 81 L2f.c L2f.r L2f.n:=⟨Tryz.f81,(Tryz.f81.body).getD .skip,Tryz.func81,rfl,by kernel_rfl,by kernel_rfl,rfl⟩
theorem Qcx:Q5 Tryz.prog 80 L2g.c L2g.r L2g.n:=⟨Tryz.f80,(Tryz.f80.body).getD .skip,Tryz.func80,rfl,by kernel_rfl,by kernel_rfl,rfl⟩
theorem Q6z:Q5 Tryz.prog 79 L2b.c L2b.r L2b.n:=⟨Tryz.f79,(Tryz.f79.body).getD .skip,Tryz.func79,rfl,by kernel_rfl,by kernel_rfl,rfl⟩
theorem Q25:Q5 Tryz.prog 46 (L2c.c 79 81 80) L2c.r L2c.n:=⟨Tryz.f46,(Tryz.f46.body).getD .skip,Tryz.func46,rfl,by kernel_rfl,by kernel_rfl,rfl⟩
theorem Q24:Q5 Tryz.prog 28 (L2h.c 24 46) L2h.r L2h.n:=⟨Tryz.f28,(Tryz.f28.body).getD .skip,Tryz.func28,rfl,by kernel_rfl,by kernel_rfl,rfl⟩
theorem Qa2:Q5 Tryz.prog 12 (L28.c 28) L28.r L28.n:=⟨Tryz.f12,(Tryz.f12.body).getD .skip,Tryz.func12,rfl,by kernel_rfl,by kernel_rfl,rfl⟩
theorem Qcz:Q5 Tryz.prog 20 L27.c L27.r L27.n:=⟨Tryz.f20,(Tryz.f20.body).getD .skip,Tryz.func20,rfl,by kernel_rfl,by kernel_rfl,rfl⟩
theorem Q6p:Q5 Tryz.prog 121 L37.c L37.r L37.n:=⟨Tryz.f121,(Tryz.f121.body).getD .skip,Tryz.func121,rfl,by kernel_rfl,by kernel_rfl,rfl⟩
theorem Qcq:Q5 Tryz.prog 159 (L38.c 135) L38.r L38.n:=⟨Tryz.f159,(Tryz.f159.body).getD .skip,Tryz.func159,rfl,by kernel_rfl,by kernel_rfl,rfl⟩
theorem Bm:Q5 Tryz.prog 164 L3b.c L3b.r L3b.n:=⟨Tryz.f164,(Tryz.f164.body).getD .skip,Tryz.func164,rfl,by kernel_rfl,by kernel_rfl,rfl⟩
theorem Ed:Q5 Tryz.prog 167 L39.c L39.r L39.n:=⟨Tryz.f167,(Tryz.f167.body).getD .skip,Tryz.func167,rfl,by kernel_rfl,by kernel_rfl,rfl⟩
theorem Bn:Q5 Tryz.prog 165 (L3a.c 164 167) L3a.r L3a.n:=⟨Tryz.f165,(Tryz.f165.body).getD .skip,Tryz.func165,rfl,by kernel_rfl,by kernel_rfl,rfl⟩
theorem Bl:Q5 Tryz.prog 166 (L3c.c 165) L3c.r L3c.n:=⟨Tryz.f166,(Tryz.f166.body).getD .skip,Tryz.func166,rfl,by kernel_rfl,by kernel_rfl,rfl⟩
theorem Yi:Q5 Tryz.prog 120 (L3f.c 159 164 165 166 167) L3f.r L3f.n:=⟨Tryz.f120,(Tryz.f120.body).getD .skip,Tryz.func120,rfl,by kernel_rfl,by kernel_rfl,rfl⟩
theorem Qcr:Q5 Tryz.prog 78 (L36.c 120 121) L36.r L36.n:=⟨Tryz.f78,(Tryz.f78.body).getD .skip,Tryz.func78,rfl,by kernel_rfl,by kernel_rfl,rfl⟩
theorem Qg8:Q5 Tryz.prog 158 L2z.c L2z.r L2z.n:=⟨Tryz.f158,(Tryz.f158.body).getD .skip,Tryz.func158,rfl,by kernel_rfl,by kernel_rfl,rfl⟩
theorem Q6r:Q5 Tryz.prog 162 (L31.c 163) L31.r L31.n:=⟨Tryz.f162,(Tryz.f162.body).getD .skip,Tryz.func162,rfl,by kernel_rfl,by kernel_rfl,rfl⟩
theorem Zz:Q5 Tryz.prog 161 L3p.c L3p.r L3p.n:=⟨Tryz.f161,(Tryz.f161.body).getD .skip,Tryz.func161,rfl,by kernel_rfl,by kernel_rfl,rfl⟩
theorem Qcs:Q5 Tryz.prog 118 (L30.c 161 162) L30.r L30.n:=⟨Tryz.f118,(Tryz.f118.body).getD .skip,Tryz.func118,rfl,by kernel_rfl,by kernel_rfl,rfl⟩
theorem Q6s:Q5 Tryz.prog 115 (L2x.c 158 159) L2x.r L2x.n:=⟨Tryz.f115,(Tryz.f115.body).getD .skip,Tryz.func115,rfl,by kernel_rfl,by kernel_rfl,rfl⟩
theorem Xz:Q5 Tryz.prog 119 L3q.c L3q.r L3q.n:=⟨Tryz.f119,(Tryz.f119.body).getD .skip,Tryz.func119,rfl,by kernel_rfl,by kernel_rfl,rfl⟩
theorem Q23:Q5 Tryz.prog 77 (L2y.c 115 116 117 118 119) L2y.r L2y.n:=⟨Tryz.f77,(Tryz.f77.body).getD .skip,Tryz.func77,rfl,by kernel_rfl,by kernel_rfl,rfl⟩
theorem Q6t:Q5 Tryz.prog 45 (L2w.c 77 78) L2w.r L2w.n:=⟨Tryz.f45,(Tryz.f45.body).getD .skip,Tryz.func45,rfl,by kernel_rfl,by kernel_rfl,rfl⟩
theorem Qco:Q5 Tryz.prog 25 L3v.c L3v.r L3v.n:=⟨Tryz.f25,(Tryz.f25.body).getD .skip,Tryz.func25,rfl,by kernel_rfl,by kernel_rfl,rfl⟩
theorem Qcu:Q5 Tryz.prog 29 L2t.c L2t.r L2t.n:=⟨Tryz.f29,(Tryz.f29.body).getD .skip,Tryz.func29,rfl,by kernel_rfl,by kernel_rfl,rfl⟩
theorem Q3w:Q5 Tryz.prog 15 (L3s.c 25) L3s.r L3s.n:=⟨Tryz.f15,(Tryz.f15.body).getD .skip,Tryz.func15,rfl,by kernel_rfl,by kernel_rfl,rfl⟩
theorem Q3z:Q5 Tryz.prog 16 (L2p.c 29) L2p.r L2p.n:=⟨Tryz.f16,(Tryz.f16.body).getD .skip,Tryz.func16,rfl,by kernel_rfl,by kernel_rfl,rfl⟩
theorem Q6k:Q5 Tryz.prog 114 L47.c L47.r L47.n:=⟨Tryz.f114,(Tryz.f114.body).getD .skip,Tryz.func114,rfl,by kernel_rfl,by kernel_rfl,rfl⟩
theorem Qck:Q5 Tryz.prog 76 (L46.c 114) L46.r L46.n:=⟨Tryz.f76,(Tryz.f76.body).getD .skip,Tryz.func76,rfl,by kernel_rfl,by kernel_rfl,rfl⟩
theorem Qjm:Q5 Tryz.prog 44 (L0d.c 47 76) L0d.r L0d.n:=⟨Tryz.f44,(Tryz.f44.body).getD .skip,Tryz.func44,rfl,by kernel_rfl,by kernel_rfl,rfl⟩
theorem Qg9:Q5 Tryz.prog 70 L2v.c L2v.r L2v.n:=⟨Tryz.f70,(Tryz.f70.body).getD .skip,Tryz.func70,rfl,by kernel_rfl,by kernel_rfl,rfl⟩
theorem Q5c:Q5 Tryz.prog 13 L2o.c L2o.r L2o.n:=⟨Tryz.f13,(Tryz.f13.body).getD .skip,Tryz.func13,rfl,by kernel_rfl,by kernel_rfl,rfl⟩
theorem Qcv:Q5 Tryz.prog 14 (L2q.c 20) L2q.r L2q.n:=⟨Tryz.f14,(Tryz.f14.body).getD .skip,Tryz.func14,rfl,by kernel_rfl,by kernel_rfl,rfl⟩
theorem Q9s:Q5 Tryz.prog 18 (L3t.c 25 30 31 32) L3t.r L3t.n:=⟨Tryz.f18,(Tryz.f18.body).getD .skip,Tryz.func18,rfl,by kernel_rfl,by kernel_rfl,rfl⟩
theorem Q9z:Q5 Tryz.prog 19 (L2r.c 29 33 34 35) L2r.r L2r.n:=⟨Tryz.f19,(Tryz.f19.body).getD .skip,Tryz.func19,rfl,by kernel_rfl,by kernel_rfl,rfl⟩
theorem Qcn:Q5 Tryz.prog 26 (L3w.c 43 44 15 18) L3w.r L3w.n:=⟨Tryz.f26,(Tryz.f26.body).getD .skip,Tryz.func26,rfl,by kernel_rfl,by kernel_rfl,rfl⟩
theorem Qct:Q5 Tryz.prog 36 (L2u.c 69 70 16 19) L2u.r L2u.n:=⟨Tryz.f36,(Tryz.f36.body).getD .skip,Tryz.func36,rfl,by kernel_rfl,by kernel_rfl,rfl⟩
theorem Q6n:Q5 Tryz.prog 27 (L3x.c 45) L3x.r L3x.n:=⟨Tryz.f27,(Tryz.f27.body).getD .skip,Tryz.func27,rfl,by kernel_rfl,by kernel_rfl,rfl⟩
theorem Q6o:Q5 Tryz.prog 11 (L3u.c 25 26 27) L3u.r L3u.n:=⟨Tryz.f11,(Tryz.f11.body).getD .skip,Tryz.func11,rfl,by kernel_rfl,by kernel_rfl,rfl⟩
theorem Q6u:Q5 Tryz.prog 21 (L2s.c 29 36 13 12) L2s.r L2s.n:=⟨Tryz.f21,(Tryz.f21.body).getD .skip,Tryz.func21,rfl,by kernel_rfl,by kernel_rfl,rfl⟩
theorem Q9v:Q5 Tryz.prog 37 (L3m.c 71) L3m.r L3m.n:=⟨Tryz.f37,(Tryz.f37.body).getD .skip,Tryz.func37,rfl,by kernel_rfl,by kernel_rfl,rfl⟩
theorem Q9u:Q5 Tryz.prog 38 L3n.c L3n.r L3n.n:=⟨Tryz.f38,(Tryz.f38.body).getD .skip,Tryz.func38,rfl,by kernel_rfl,by kernel_rfl,rfl⟩
theorem Q9t:Q5 Tryz.prog 39 L3o.c L3o.r L3o.n:=⟨Tryz.f39,(Tryz.f39.body).getD .skip,Tryz.func39,rfl,by kernel_rfl,by kernel_rfl,rfl⟩
theorem Q22:Q5 Tryz.prog 40 (L3l.c 39) L3l.r L3l.n:=⟨Tryz.f40,(Tryz.f40.body).getD .skip,Tryz.func40,rfl,by kernel_rfl,by kernel_rfl,rfl⟩
theorem Xy:Q5 Tryz.prog 41 L3r.c L3r.r L3r.n:=⟨Tryz.f41,(Tryz.f41.body).getD .skip,Tryz.func41,rfl,by kernel_rfl,by kernel_rfl,rfl⟩
theorem Qcp:Q5 Tryz.prog 22 (L3k.c 37 38 39 40 41) L3k.r L3k.n:=⟨Tryz.f22,(Tryz.f22.body).getD .skip,Tryz.func22,rfl,by kernel_rfl,by kernel_rfl,rfl⟩
theorem Qgh:Q5 Tryz.prog 17 L09.c L09.r L09.n:=⟨Tryz.f17,(Tryz.f17.body).getD .skip,Tryz.func17,rfl,by kernel_rfl,by kernel_rfl,rfl⟩
theorem Qgg:Q5 Tryz.prog 9 (L0a.c 17) L0a.r L0a.n:=⟨Tryz.f9,(Tryz.f9.body).getD .skip,Tryz.func9,rfl,by kernel_rfl,by kernel_rfl,rfl⟩
theorem Q0p:Q5 Tryz.prog 23 L0b.c L0b.r L0b.n:=⟨Tryz.f23,(Tryz.f23.body).getD .skip,Tryz.func23,rfl,by kernel_rfl,by kernel_rfl,rfl⟩
theorem Qad:Q5 Tryz.prog 10 (L0c.c 15 22 11 23 14) L0c.r L0c.n:=⟨Tryz.f10,(Tryz.f10.body).getD .skip,Tryz.func10,rfl,by kernel_rfl,by kernel_rfl,rfl⟩
theorem Q21:Q5 Tryz.prog 153 (L49.c 206) L49.r L49.n:=⟨Tryz.f153,(Tryz.f153.body).getD .skip,Tryz.func153,rfl,by kernel_rfl,by kernel_rfl,rfl⟩
theorem Qmb:Q5 Tryz.prog 207 (L4b.c 206 108) L4b.r L4b.n:=⟨Tryz.f207,(Tryz.f207.body).getD .skip,Tryz.func207,rfl,by kernel_rfl,by kernel_rfl,rfl⟩
theorem Es:Q5 Tryz.prog 196 (L0y.c 202) L0y.r L0y.n:=⟨Tryz.f196,(Tryz.f196.body).getD .skip,Tryz.func196,rfl,by kernel_rfl,by kernel_rfl,rfl⟩
theorem Qgd:Q5 Tryz.prog 203 (L10.c 202 139) L10.r L10.n:=⟨Tryz.f203,(Tryz.f203.body).getD .skip,Tryz.func203,rfl,by kernel_rfl,by kernel_rfl,rfl⟩
theorem Un:Q5 Tryz.prog 88 L0h.c L0h.r L0h.n:=⟨Tryz.f88,(Tryz.f88.body).getD .skip,Tryz.func88,rfl,by kernel_rfl,by kernel_rfl,rfl⟩
theorem Q3x:Q5 Tryz.prog 122 (L3i.c 168) L3i.r L3i.n:=⟨Tryz.f122,(Tryz.f122.body).getD .skip,Tryz.func122,rfl,by kernel_rfl,by kernel_rfl,rfl⟩
theorem Q44:Q5 Tryz.prog 95 L1x.c L1x.r L1x.n:=⟨Tryz.f95,(Tryz.f95.body).getD .skip,Tryz.func95,rfl,by kernel_rfl,by kernel_rfl,rfl⟩
theorem Q9w:Q5 Tryz.prog 49 (L3j.c 82) L3j.r L3j.n:=⟨Tryz.f49,(Tryz.f49.body).getD .skip,Tryz.func49,rfl,by kernel_rfl,by kernel_rfl,rfl⟩
theorem Qd4:Q5 Tryz.prog 191 (L16.c 233) L16.r L16.n:=⟨Tryz.f191,(Tryz.f191.body).getD .skip,Tryz.func191,rfl,by kernel_rfl,by kernel_rfl,rfl⟩
theorem Qaa:Q5 Tryz.prog 233 (L15.c 61) L15.r L15.n:=⟨Tryz.f233,(Tryz.f233.body).getD .skip,Tryz.func233,rfl,by kernel_rfl,by kernel_rfl,rfl⟩
theorem ok_law26_StackSlices:Q5 Tryz.prog 6 (L08.c 9 10 11 21 14) L08.r L08.n:=⟨Tryz.f6,(Tryz.f6.body).getD .skip,Tryz.func6,rfl,by kernel_rfl,by kernel_rfl,rfl⟩
end Go.Proofs.YtnaehggpjfdenaaGreat
