/- The program's functions are those whose code the library's texts hold. -/
import Derived.Test.YtjggbpiapinceaaGreatRows
import Derived.Test.YtjggbpiapinceaaGreatGoUpS
import Derived.Test.YtjggbpiapinceaaGreatGoSkJ
import Derived.Test.YtjggbpiapinceaaGreatGoCtF
import Derived.Test.YtjggbpiapinceaaGreatGoShpD
import Derived.Test.YtjggbpiapinceaaGreatGoCsA
import Derived.Test.YtjggbpiapinceaaGreatGoCtI
import Derived.Test.YtjggbpiapinceaaGreatGoCtJ
import Derived.Test.YtjggbpiapinceaaGreatGoBl
import Derived.Test.YtjggbpiapinceaaGreatGoSp
import Derived.Test.YtjggbpiapinceaaGreatGoShpO
import Derived.Test.YtjggbpiapinceaaGreatGoRevC
import Derived.Test.YtjggbpiapinceaaGreatGoOriB
import Derived.Test.YtjggbpiapinceaaGreatGoOy
import Derived.Test.YtjggbpiapinceaaGreatGoRsA
import Derived.Test.YtjggbpiapinceaaGreatGoRsD
import Derived.Test.YtjggbpiapinceaaGreatGoCh
import Derived.Test.YtjggbpiapinceaaGreatGoSkC
import Derived.Test.YtjggbpiapinceaaGreatGoDet
set_option linter.unusedVariables false
set_option linter.unusedSimpArgs false
namespace Go.Proofs.YtjggbpiapinceaaGreat
open Go.Abs
theorem Q3w:Qa Tryz.prog 76 L21.c L21.r L21.n:=⟨Tryz.f76,(Tryz.f76.body).getD .skip,Tryz.func76,rfl,by kernel_rfl,by kernel_rfl,rfl⟩
theorem Q68:Qa Tryz.prog 51 (L1z.c 76) L1z.r L1z.n:=⟨Tryz.f51,(Tryz.f51.body).getD .skip,Tryz.func51,rfl,by kernel_rfl,by kernel_rfl,rfl⟩
theorem Q44:Qa Tryz.prog 23 (L0c.c 51) L0c.r L0c.n:=⟨Tryz.f23,(Tryz.f23.body).getD .skip,Tryz.func23,rfl,by kernel_rfl,by kernel_rfl,rfl⟩
theorem Q14:Qa Tryz.prog 52 (L0d.c 23) L0d.r L0d.n:=⟨Tryz.f52,(Tryz.f52.body).getD .skip,Tryz.func52,rfl,by kernel_rfl,by kernel_rfl,rfl⟩
theorem I0:Qa Tryz.prog 138 (L20.c 76) L20.r L20.n:=⟨Tryz.f138,(Tryz.f138.body).getD .skip,Tryz.func138,rfl,by kernel_rfl,by kernel_rfl,rfl⟩
theorem Qbm:Qa Tryz.prog 110 (L1y.c 51) L1y.r L1y.n:=⟨Tryz.f110,(Tryz.f110.body).getD .skip,Tryz.func110,rfl,by kernel_rfl,by kernel_rfl,rfl⟩
theorem Bd:Qa Tryz.prog 74 (L1u.c 51 110 109) L1u.r L1u.n:=⟨Tryz.f74,(Tryz.f74.body).getD .skip,Tryz.func74,rfl,by kernel_rfl,by kernel_rfl,rfl⟩
theorem Ut:Qa Tryz.prog 49 (L22.c 52 74) L22.r L22.n:=⟨Tryz.f49,(Tryz.f49.body).getD .skip,Tryz.func49,rfl,by kernel_rfl,by kernel_rfl,rfl⟩
theorem Yr:Qa Tryz.prog 46 L1j.c L1j.r L1j.n:=⟨Tryz.f46,(Tryz.f46.body).getD .skip,Tryz.func46,rfl,by kernel_rfl,by kernel_rfl,rfl⟩
theorem Ys:Qa Tryz.prog 64 L1i.c L1i.r L1i.n:=⟨Tryz.f64,(Tryz.f64.body).getD .skip,Tryz.func64,rfl,by kernel_rfl,by kernel_rfl,rfl⟩
theorem Q12:Qa Tryz.prog 94 L0j.c L0j.r L0j.n:=⟨Tryz.f94,(Tryz.f94.body).getD .skip,Tryz.func94,rfl,by kernel_rfl,by kernel_rfl,rfl⟩
theorem Uw:Qa Tryz.prog 73 (L0i.c 94) L0i.r L0i.n:=⟨Tryz.f73,(Tryz.f73.body).getD .skip,Tryz.func73,rfl,by kernel_rfl,by kernel_rfl,rfl⟩
theorem Ux:Qa Tryz.prog 48 (L0h.c 23 73) L0h.r L0h.n:=⟨Tryz.f48,(Tryz.f48.body).getD .skip,Tryz.func48,rfl,by kernel_rfl,by kernel_rfl,rfl⟩
theorem Q3y:Qa Tryz.prog 102 L1q.c L1q.r L1q.n:=⟨Tryz.f102,(Tryz.f102.body).getD .skip,Tryz.func102,rfl,by kernel_rfl,by kernel_rfl,rfl⟩
theorem Q0w:Qa Tryz.prog 105 (L1p.c 23 102) L1p.r L1p.n:=⟨Tryz.f105,(Tryz.f105.body).getD .skip,Tryz.func105,rfl,by kernel_rfl,by kernel_rfl,rfl⟩
theorem Q0v:Qa Tryz.prog 106 L1s.c L1s.r L1s.n:=⟨Tryz.f106,(Tryz.f106.body).getD .skip,Tryz.func106,rfl,by kernel_rfl,by kernel_rfl,rfl⟩
theorem Uu:Qa Tryz.prog 103 L1t.c L1t.r L1t.n:=⟨Tryz.f103,(Tryz.f103.body).getD .skip,Tryz.func103,rfl,by kernel_rfl,by kernel_rfl,rfl⟩
theorem Bn:Qa Tryz.prog 181 L06.c L06.r L06.n:=⟨Tryz.f181,(Tryz.f181.body).getD .skip,Tryz.func181,rfl,by kernel_rfl,by kernel_rfl,rfl⟩
theorem Uy:Qa Tryz.prog 137 (L04.c 181) L04.r L04.n:=⟨Tryz.f137,(Tryz.f137.body).getD .skip,Tryz.func137,rfl,by kernel_rfl,by kernel_rfl,rfl⟩
theorem Q45:Qa Tryz.prog 136 L05.c L05.r L05.n:=⟨Tryz.f136,(Tryz.f136.body).getD .skip,Tryz.func136,rfl,by kernel_rfl,by kernel_rfl,rfl⟩
theorem Q3x:Qa Tryz.prog 108 (L1r.c 137 136) L1r.r L1r.n:=⟨Tryz.f108,(Tryz.f108.body).getD .skip,Tryz.func108,rfl,by kernel_rfl,by kernel_rfl,rfl⟩
theorem Be:Qa Tryz.prog 72 (L1m.c 105 106 107 108) L1m.r L1m.n:=⟨Tryz.f72,(Tryz.f72.body).getD .skip,Tryz.func72,rfl,by kernel_rfl,by kernel_rfl,rfl⟩
theorem Q2h:Qa Tryz.prog 47 (L1n.c 23 72) L1n.r L1n.n:=⟨Tryz.f47,(Tryz.f47.body).getD .skip,Tryz.func47,rfl,by kernel_rfl,by kernel_rfl,rfl⟩
theorem Q2g:Qa Tryz.prog 70 (L1o.c 23 102 103 104) L1o.r L1o.n:=⟨Tryz.f70,(Tryz.f70.body).getD .skip,Tryz.func70,rfl,by kernel_rfl,by kernel_rfl,rfl⟩
theorem Qbo:Qa Tryz.prog 111 (L1w.c 138 109 139) L1w.r L1w.n:=⟨Tryz.f111,(Tryz.f111.body).getD .skip,Tryz.func111,rfl,by kernel_rfl,by kernel_rfl,rfl⟩
theorem Q13:Qa Tryz.prog 75 (L0e.c 23 111) L0e.r L0e.n:=⟨Tryz.f75,(Tryz.f75.body).getD .skip,Tryz.func75,rfl,by kernel_rfl,by kernel_rfl,rfl⟩
theorem Uv:Qa Tryz.prog 50 (L10.c 70 75) L10.r L10.n:=⟨Tryz.f50,(Tryz.f50.body).getD .skip,Tryz.func50,rfl,by kernel_rfl,by kernel_rfl,rfl⟩
theorem Q0x:Qa Tryz.prog 22 (L0z.c 23 47 48 49 50) L0z.r L0z.n:=⟨Tryz.f22,(Tryz.f22.body).getD .skip,Tryz.func22,rfl,by kernel_rfl,by kernel_rfl,rfl⟩
theorem Q2l:Qa Tryz.prog 44 (L1f.c 51) L1f.r L1f.n:=⟨Tryz.f44,(Tryz.f44.body).getD .skip,Tryz.func44,rfl,by kernel_rfl,by kernel_rfl,rfl⟩
theorem Q2k:Qa Tryz.prog 30 L1g.c L1g.r L1g.n:=⟨Tryz.f30,(Tryz.f30.body).getD .skip,Tryz.func30,rfl,by kernel_rfl,by kernel_rfl,rfl⟩
theorem Q2j:Qa Tryz.prog 34 L1h.c L1h.r L1h.n:=⟨Tryz.f34,(Tryz.f34.body).getD .skip,Tryz.func34,rfl,by kernel_rfl,by kernel_rfl,rfl⟩
theorem I3:Qa Tryz.prog 31 (L1d.c 44) L1d.r L1d.n:=⟨Tryz.f31,(Tryz.f31.body).getD .skip,Tryz.func31,rfl,by kernel_rfl,by kernel_rfl,rfl⟩
theorem Q2m:Qa Tryz.prog 13 (L1a.c 23 30 33 32 31) L1a.r L1a.n:=⟨Tryz.f13,(Tryz.f13.body).getD .skip,Tryz.func13,rfl,by kernel_rfl,by kernel_rfl,rfl⟩
theorem I2:Qa Tryz.prog 45 (L1e.c 34) L1e.r L1e.n:=⟨Tryz.f45,(Tryz.f45.body).getD .skip,Tryz.func45,rfl,by kernel_rfl,by kernel_rfl,rfl⟩
theorem Q40:Qa Tryz.prog 20 (L19.c 44 30 34 45 46) L19.r L19.n:=⟨Tryz.f20,(Tryz.f20.body).getD .skip,Tryz.func20,rfl,by kernel_rfl,by kernel_rfl,rfl⟩
theorem Q6d:Qa Tryz.prog 140 (L0g.c 83) L0g.r L0g.n:=⟨Tryz.f140,(Tryz.f140.body).getD .skip,Tryz.func140,rfl,by kernel_rfl,by kernel_rfl,rfl⟩
theorem Bi:Qa Tryz.prog 77 (L16.c 51 112) L16.r L16.n:=⟨Tryz.f77,(Tryz.f77.body).getD .skip,Tryz.func77,rfl,by kernel_rfl,by kernel_rfl,rfl⟩
theorem Q2o:Qa Tryz.prog 25 (L15.c 23 52 53) L15.r L15.n:=⟨Tryz.f25,(Tryz.f25.body).getD .skip,Tryz.func25,rfl,by kernel_rfl,by kernel_rfl,rfl⟩
theorem Q11:Qa Tryz.prog 54 L0k.c L0k.r L0k.n:=⟨Tryz.f54,(Tryz.f54.body).getD .skip,Tryz.func54,rfl,by kernel_rfl,by kernel_rfl,rfl⟩
theorem U6:Qa Tryz.prog 55 L07.c L07.r L07.n:=⟨Tryz.f55,(Tryz.f55.body).getD .skip,Tryz.func55,rfl,by kernel_rfl,by kernel_rfl,rfl⟩
theorem I5:Qa Tryz.prog 57 L09.c L09.r L09.n:=⟨Tryz.f57,(Tryz.f57.body).getD .skip,Tryz.func57,rfl,by kernel_rfl,by kernel_rfl,rfl⟩
theorem W9:Qa Tryz.prog 80 L0b.c L0b.r L0b.n:=⟨Tryz.f80,(Tryz.f80.body).getD .skip,Tryz.func80,rfl,by kernel_rfl,by kernel_rfl,rfl⟩
theorem K0:Qa Tryz.prog 58 (L0a.c 80) L0a.r L0a.n:=⟨Tryz.f58,(Tryz.f58.body).getD .skip,Tryz.func58,rfl,by kernel_rfl,by kernel_rfl,rfl⟩
theorem Bm:Qa Tryz.prog 26 (L08.c 54 55 56 57 58) L08.r L08.n:=⟨Tryz.f26,(Tryz.f26.body).getD .skip,Tryz.func26,rfl,by kernel_rfl,by kernel_rfl,rfl⟩
theorem Q6a:Qa Tryz.prog 125 L13.c L13.r L13.n:=⟨Tryz.f125,(Tryz.f125.body).getD .skip,Tryz.func125,rfl,by kernel_rfl,by kernel_rfl,rfl⟩
theorem Q2p:Qa Tryz.prog 127 L12.c L12.r L12.n:=⟨Tryz.f127,(Tryz.f127.body).getD .skip,Tryz.func127,rfl,by kernel_rfl,by kernel_rfl,rfl⟩
theorem Q69:Qa Tryz.prog 128 L14.c L14.r L14.n:=⟨Tryz.f128,(Tryz.f128.body).getD .skip,Tryz.func128,rfl,by kernel_rfl,by kernel_rfl,rfl⟩
theorem Q6b:Qa Tryz.prog 88 (L11.c 125 126 127 128) L11.r L11.n:=⟨Tryz.f88,(Tryz.f88.body).getD .skip,Tryz.func88,rfl,by kernel_rfl,by kernel_rfl,rfl⟩
theorem Bj:Qa Tryz.prog 84 L0m.c L0m.r L0m.n:=⟨Tryz.f84,(Tryz.f84.body).getD .skip,Tryz.func84,rfl,by kernel_rfl,by kernel_rfl,rfl⟩
theorem W8:Qa Tryz.prog 85 (L0o.c 83) L0o.r L0o.n:=⟨Tryz.f85,(Tryz.f85.body).getD .skip,Tryz.func85,rfl,by kernel_rfl,by kernel_rfl,rfl⟩
theorem I4:Qa Tryz.prog 82 L0q.c L0q.r L0q.n:=⟨Tryz.f82,(Tryz.f82.body).getD .skip,Tryz.func82,rfl,by kernel_rfl,by kernel_rfl,rfl⟩
theorem Q0y:Qa Tryz.prog 87 L0s.c L0s.r L0s.n:=⟨Tryz.f87,(Tryz.f87.body).getD .skip,Tryz.func87,rfl,by kernel_rfl,by kernel_rfl,rfl⟩
theorem Q10:Qa Tryz.prog 59 L0n.c L0n.r L0n.n:=⟨Tryz.f59,(Tryz.f59.body).getD .skip,Tryz.func59,rfl,by kernel_rfl,by kernel_rfl,rfl⟩
theorem Q0z:Qa Tryz.prog 60 (L0p.c 81 82) L0p.r L0p.n:=⟨Tryz.f60,(Tryz.f60.body).getD .skip,Tryz.func60,rfl,by kernel_rfl,by kernel_rfl,rfl⟩
theorem Q43:Qa Tryz.prog 62 (L0r.c 84 85 86 87 88) L0r.r L0r.n:=⟨Tryz.f62,(Tryz.f62.body).getD .skip,Tryz.func62,rfl,by kernel_rfl,by kernel_rfl,rfl⟩
theorem Q2s:Qa Tryz.prog 61 (L0t.c 83) L0t.r L0t.n:=⟨Tryz.f61,(Tryz.f61.body).getD .skip,Tryz.func61,rfl,by kernel_rfl,by kernel_rfl,rfl⟩
theorem Bl:Qa Tryz.prog 27 (L0l.c 59 60 61 62) L0l.r L0l.n:=⟨Tryz.f27,(Tryz.f27.body).getD .skip,Tryz.func27,rfl,by kernel_rfl,by kernel_rfl,rfl⟩
theorem Q41:Qa Tryz.prog 42 L0y.c L0y.r L0y.n:=⟨Tryz.f42,(Tryz.f42.body).getD .skip,Tryz.func42,rfl,by kernel_rfl,by kernel_rfl,rfl⟩
theorem Q2q:Qa Tryz.prog 17 (L0x.c 42) L0x.r L0x.n:=⟨Tryz.f17,(Tryz.f17.body).getD .skip,Tryz.func17,rfl,by kernel_rfl,by kernel_rfl,rfl⟩
theorem Q42:Qa Tryz.prog 15 L0v.c L0v.r L0v.n:=⟨Tryz.f15,(Tryz.f15.body).getD .skip,Tryz.func15,rfl,by kernel_rfl,by kernel_rfl,rfl⟩
theorem Q3z:Qa Tryz.prog 24 L1l.c L1l.r L1l.n:=⟨Tryz.f24,(Tryz.f24.body).getD .skip,Tryz.func24,rfl,by kernel_rfl,by kernel_rfl,rfl⟩
theorem Q2i:Qa Tryz.prog 9 (L1k.c 24 25 26 27) L1k.r L1k.n:=⟨Tryz.f9,(Tryz.f9.body).getD .skip,Tryz.func9,rfl,by kernel_rfl,by kernel_rfl,rfl⟩
theorem Q6c:Qa Tryz.prog 35 (L0u.c 17) L0u.r L0u.n:=⟨Tryz.f35,(Tryz.f35.body).getD .skip,Tryz.func35,rfl,by kernel_rfl,by kernel_rfl,rfl⟩
theorem Q2r:Qa Tryz.prog 14 (L0w.c 17 35) L0w.r L0w.n:=⟨Tryz.f14,(Tryz.f14.body).getD .skip,Tryz.func14,rfl,by kernel_rfl,by kernel_rfl,rfl⟩
theorem Ku:Qa Tryz.prog 21 L03.c L03.r L03.n:=⟨Tryz.f21,(Tryz.f21.body).getD .skip,Tryz.func21,rfl,by kernel_rfl,by kernel_rfl,rfl⟩
theorem U7:Qa Tryz.prog 6 L02.c L02.r L02.n:=⟨Tryz.f6,(Tryz.f6.body).getD .skip,Tryz.func6,rfl,by kernel_rfl,by kernel_rfl,rfl⟩
theorem Kw:Qa Tryz.prog 7 (L01.c 20 9 21 15 22) L01.r L01.n:=⟨Tryz.f7,(Tryz.f7.body).getD .skip,Tryz.func7,rfl,by kernel_rfl,by kernel_rfl,rfl⟩
theorem Ke:Qa Tryz.prog 83 L0f.c L0f.r L0f.n:=⟨Tryz.f83,(Tryz.f83.body).getD .skip,Tryz.func83,rfl,by kernel_rfl,by kernel_rfl,rfl⟩
theorem Bh:Qa Tryz.prog 112 (L17.c 140) L17.r L17.n:=⟨Tryz.f112,(Tryz.f112.body).getD .skip,Tryz.func112,rfl,by kernel_rfl,by kernel_rfl,rfl⟩
theorem Q2n:Qa Tryz.prog 53 (L18.c 77) L18.r L18.n:=⟨Tryz.f53,(Tryz.f53.body).getD .skip,Tryz.func53,rfl,by kernel_rfl,by kernel_rfl,rfl⟩
theorem Bg:Qa Tryz.prog 33 (L1b.c 34) L1b.r L1b.n:=⟨Tryz.f33,(Tryz.f33.body).getD .skip,Tryz.func33,rfl,by kernel_rfl,by kernel_rfl,rfl⟩
theorem Bf:Qa Tryz.prog 32 (L1c.c 46 64) L1c.r L1c.n:=⟨Tryz.f32,(Tryz.f32.body).getD .skip,Tryz.func32,rfl,by kernel_rfl,by kernel_rfl,rfl⟩
theorem I1:Qa Tryz.prog 109 (L1v.c 138) L1v.r L1v.n:=⟨Tryz.f109,(Tryz.f109.body).getD .skip,Tryz.func109,rfl,by kernel_rfl,by kernel_rfl,rfl⟩
theorem Qbn:Qa Tryz.prog 139 (L1x.c 138 76) L1x.r L1x.n:=⟨Tryz.f139,(Tryz.f139.body).getD .skip,Tryz.func139,rfl,by kernel_rfl,by kernel_rfl,rfl⟩
theorem ok_additivetop_TopShifts:Qa Tryz.prog 4 (L00.c 6 7 13 9 14 15) L00.r L00.n:=⟨Tryz.f4,(Tryz.f4.body).getD .skip,Tryz.func4,rfl,by kernel_rfl,by kernel_rfl,rfl⟩
end Go.Proofs.YtjggbpiapinceaaGreat
