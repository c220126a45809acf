/- The program's functions are those whose code the library's texts hold. -/
import Derived.Test.YtjggbpiapinceaaGreatRows
import Derived.Test.YtjggbpiapinceaaGreatGoCtD
import Derived.Test.YtjggbpiapinceaaGreatGoSc
import Derived.Test.YtjggbpiapinceaaGreatGoRw
import Derived.Test.YtjggbpiapinceaaGreatGoTpD
import Derived.Test.YtjggbpiapinceaaGreatGoCtG
import Derived.Test.YtjggbpiapinceaaGreatGoCtI
import Derived.Test.YtjggbpiapinceaaGreatGoCtJ
import Derived.Test.YtjggbpiapinceaaGreatGoSet
import Derived.Test.YtjggbpiapinceaaGreatGoUpX
import Derived.Test.YtjggbpiapinceaaGreatGoRevC
import Derived.Test.YtjggbpiapinceaaGreatGoTo
import Derived.Test.YtjggbpiapinceaaGreatGoMap
import Derived.Test.YtjggbpiapinceaaGreatGoSecD
import Derived.Test.YtjggbpiapinceaaGreatGoRsF
import Derived.Test.YtjggbpiapinceaaGreatGoHG
import Derived.Test.YtjggbpiapinceaaGreatGoDet
import Derived.Test.YtjggbpiapinceaaGreatGoUnB
import Derived.Test.YtjggbpiapinceaaGreatGoUnL
import Derived.Test.YtjggbpiapinceaaGreatGoUnF
set_option linter.unusedVariables false
set_option linter.unusedSimpArgs false
namespace Go.Proofs.YtjggbpiapinceaaGreat
open Go.Abs
theorem Q40:Q9 Tryz.prog 76 L24.c L24.r L24.n:=⟨Tryz.f76,(Tryz.f76.body).getD .skip,Tryz.func76,rfl,by kernel_rfl,by kernel_rfl,rfl⟩
theorem Q6h:Q9 Tryz.prog 51 (L22.c 76) L22.r L22.n:=⟨Tryz.f51,(Tryz.f51.body).getD .skip,Tryz.func51,rfl,by kernel_rfl,by kernel_rfl,rfl⟩
theorem Q49:Q9 Tryz.prog 23 (L0c.c 51) L0c.r L0c.n:=⟨Tryz.f23,(Tryz.f23.body).getD .skip,Tryz.func23,rfl,by kernel_rfl,by kernel_rfl,rfl⟩
theorem Q16:Q9 Tryz.prog 52 (L0d.c 23) L0d.r L0d.n:=⟨Tryz.f52,(Tryz.f52.body).getD .skip,Tryz.func52,rfl,by kernel_rfl,by kernel_rfl,rfl⟩
theorem Es:Q9 Tryz.prog 138 (L23.c 76) L23.r L23.n:=⟨Tryz.f138,(Tryz.f138.body).getD .skip,Tryz.func138,rfl,by kernel_rfl,by kernel_rfl,rfl⟩
theorem Qbr:Q9 Tryz.prog 110 (L21.c 51) L21.r L21.n:=⟨Tryz.f110,(Tryz.f110.body).getD .skip,Tryz.func110,rfl,by kernel_rfl,by kernel_rfl,rfl⟩
theorem B8:Q9 Tryz.prog 74 (L1x.c 51 110 109) L1x.r L1x.n:=⟨Tryz.f74,(Tryz.f74.body).getD .skip,Tryz.func74,rfl,by kernel_rfl,by kernel_rfl,rfl⟩
theorem Un:Q9 Tryz.prog 49 (L25.c 52 74) L25.r L25.n:=⟨Tryz.f49,(Tryz.f49.body).getD .skip,Tryz.func49,rfl,by kernel_rfl,by kernel_rfl,rfl⟩
theorem Yw:Q9 Tryz.prog 46 L1m.c L1m.r L1m.n:=⟨Tryz.f46,(Tryz.f46.body).getD .skip,Tryz.func46,rfl,by kernel_rfl,by kernel_rfl,rfl⟩
theorem Q14:Q9 Tryz.prog 94 L0k.c L0k.r L0k.n:=⟨Tryz.f94,(Tryz.f94.body).getD .skip,Tryz.func94,rfl,by kernel_rfl,by kernel_rfl,rfl⟩
theorem Ur:Q9 Tryz.prog 73 (L0j.c 94) L0j.r L0j.n:=⟨Tryz.f73,(Tryz.f73.body).getD .skip,Tryz.func73,rfl,by kernel_rfl,by kernel_rfl,rfl⟩
theorem Us:Q9 Tryz.prog 48 (L0i.c 23 73) L0i.r L0i.n:=⟨Tryz.f48,(Tryz.f48.body).getD .skip,Tryz.func48,rfl,by kernel_rfl,by kernel_rfl,rfl⟩
theorem Q42:Q9 Tryz.prog 102 L1t.c L1t.r L1t.n:=⟨Tryz.f102,(Tryz.f102.body).getD .skip,Tryz.func102,rfl,by kernel_rfl,by kernel_rfl,rfl⟩
theorem Q0v:Q9 Tryz.prog 105 (L1s.c 23 102) L1s.r L1s.n:=⟨Tryz.f105,(Tryz.f105.body).getD .skip,Tryz.func105,rfl,by kernel_rfl,by kernel_rfl,rfl⟩
theorem Q0u:Q9 Tryz.prog 106 L1v.c L1v.r L1v.n:=⟨Tryz.f106,(Tryz.f106.body).getD .skip,Tryz.func106,rfl,by kernel_rfl,by kernel_rfl,rfl⟩
theorem Uo:Q9 Tryz.prog 103 L1w.c L1w.r L1w.n:=⟨Tryz.f103,(Tryz.f103.body).getD .skip,Tryz.func103,rfl,by kernel_rfl,by kernel_rfl,rfl⟩
theorem Bf:Q9 Tryz.prog 181 L06.c L06.r L06.n:=⟨Tryz.f181,(Tryz.f181.body).getD .skip,Tryz.func181,rfl,by kernel_rfl,by kernel_rfl,rfl⟩
theorem Ut:Q9 Tryz.prog 137 (L04.c 181) L04.r L04.n:=⟨Tryz.f137,(Tryz.f137.body).getD .skip,Tryz.func137,rfl,by kernel_rfl,by kernel_rfl,rfl⟩
theorem Q4a:Q9 Tryz.prog 136 L05.c L05.r L05.n:=⟨Tryz.f136,(Tryz.f136.body).getD .skip,Tryz.func136,rfl,by kernel_rfl,by kernel_rfl,rfl⟩
theorem Q41:Q9 Tryz.prog 108 (L1u.c 137 136) L1u.r L1u.n:=⟨Tryz.f108,(Tryz.f108.body).getD .skip,Tryz.func108,rfl,by kernel_rfl,by kernel_rfl,rfl⟩
theorem B9:Q9 Tryz.prog 72 (L1p.c 105 106 107 108) L1p.r L1p.n:=⟨Tryz.f72,(Tryz.f72.body).getD .skip,Tryz.func72,rfl,by kernel_rfl,by kernel_rfl,rfl⟩
theorem Q2l:Q9 Tryz.prog 47 (L1q.c 23 72) L1q.r L1q.n:=⟨Tryz.f47,(Tryz.f47.body).getD .skip,Tryz.func47,rfl,by kernel_rfl,by kernel_rfl,rfl⟩
theorem Q2k:Q9 Tryz.prog 70 (L1r.c 23 102 103 104) L1r.r L1r.n:=⟨Tryz.f70,(Tryz.f70.body).getD .skip,Tryz.func70,rfl,by kernel_rfl,by kernel_rfl,rfl⟩
theorem Qbt:Q9 Tryz.prog 111 (L1z.c 138 109 139) L1z.r L1z.n:=⟨Tryz.f111,(Tryz.f111.body).getD .skip,Tryz.func111,rfl,by kernel_rfl,by kernel_rfl,rfl⟩
theorem Q15:Q9 Tryz.prog 75 (L0f.c 23 111) L0f.r L0f.n:=⟨Tryz.f75,(Tryz.f75.body).getD .skip,Tryz.func75,rfl,by kernel_rfl,by kernel_rfl,rfl⟩
theorem Up:Q9 Tryz.prog 50 (L18.c 70 75) L18.r L18.n:=⟨Tryz.f50,(Tryz.f50.body).getD .skip,Tryz.func50,rfl,by kernel_rfl,by kernel_rfl,rfl⟩
theorem Q0w:Q9 Tryz.prog 22 (L17.c 23 47 48 49 50) L17.r L17.n:=⟨Tryz.f22,(Tryz.f22.body).getD .skip,Tryz.func22,rfl,by kernel_rfl,by kernel_rfl,rfl⟩
theorem Q2p:Q9 Tryz.prog 44 (L1j.c 51) L1j.r L1j.n:=⟨Tryz.f44,(Tryz.f44.body).getD .skip,Tryz.func44,rfl,by kernel_rfl,by kernel_rfl,rfl⟩
theorem Q2o:Q9 Tryz.prog 30 L1k.c L1k.r L1k.n:=⟨Tryz.f30,(Tryz.f30.body).getD .skip,Tryz.func30,rfl,by kernel_rfl,by kernel_rfl,rfl⟩
theorem Q2n:Q9 Tryz.prog 34 L1l.c L1l.r L1l.n:=⟨Tryz.f34,(Tryz.f34.body).getD .skip,Tryz.func34,rfl,by kernel_rfl,by kernel_rfl,rfl⟩
theorem Q6l:Q9 Tryz.prog 140 (L0h.c 83) L0h.r L0h.n:=⟨Tryz.f140,(Tryz.f140.body).getD .skip,Tryz.func140,rfl,by kernel_rfl,by kernel_rfl,rfl⟩
theorem Bb:Q9 Tryz.prog 77 (L1e.c 51 112) L1e.r L1e.n:=⟨Tryz.f77,(Tryz.f77.body).getD .skip,Tryz.func77,rfl,by kernel_rfl,by kernel_rfl,rfl⟩
theorem Q2r:Q9 Tryz.prog 25 (L1d.c 23 52 53) L1d.r L1d.n:=⟨Tryz.f25,(Tryz.f25.body).getD .skip,Tryz.func25,rfl,by kernel_rfl,by kernel_rfl,rfl⟩
theorem Q13:Q9 Tryz.prog 54 L0l.c L0l.r L0l.n:=⟨Tryz.f54,(Tryz.f54.body).getD .skip,Tryz.func54,rfl,by kernel_rfl,by kernel_rfl,rfl⟩
theorem U1:Q9 Tryz.prog 55 L07.c L07.r L07.n:=⟨Tryz.f55,(Tryz.f55.body).getD .skip,Tryz.func55,rfl,by kernel_rfl,by kernel_rfl,rfl⟩
theorem I1:Q9 Tryz.prog 57 L09.c L09.r L09.n:=⟨Tryz.f57,(Tryz.f57.body).getD .skip,Tryz.func57,rfl,by kernel_rfl,by kernel_rfl,rfl⟩
theorem W5:Q9 Tryz.prog 80 L0b.c L0b.r L0b.n:=⟨Tryz.f80,(Tryz.f80.body).getD .skip,Tryz.func80,rfl,by kernel_rfl,by kernel_rfl,rfl⟩
theorem K0:Q9 Tryz.prog 58 (L0a.c 80) L0a.r L0a.n:=⟨Tryz.f58,(Tryz.f58.body).getD .skip,Tryz.func58,rfl,by kernel_rfl,by kernel_rfl,rfl⟩
theorem Be:Q9 Tryz.prog 26 (L08.c 54 55 56 57 58) L08.r L08.n:=⟨Tryz.f26,(Tryz.f26.body).getD .skip,Tryz.func26,rfl,by kernel_rfl,by kernel_rfl,rfl⟩
theorem Q6j:Q9 Tryz.prog 125 L1b.c L1b.r L1b.n:=⟨Tryz.f125,(Tryz.f125.body).getD .skip,Tryz.func125,rfl,by kernel_rfl,by kernel_rfl,rfl⟩
theorem Q2s:Q9 Tryz.prog 127 L1a.c L1a.r L1a.n:=⟨Tryz.f127,(Tryz.f127.body).getD .skip,Tryz.func127,rfl,by kernel_rfl,by kernel_rfl,rfl⟩
theorem Q6i:Q9 Tryz.prog 128 L1c.c L1c.r L1c.n:=⟨Tryz.f128,(Tryz.f128.body).getD .skip,Tryz.func128,rfl,by kernel_rfl,by kernel_rfl,rfl⟩
theorem Q6k:Q9 Tryz.prog 88 (L19.c 125 126 127 128) L19.r L19.n:=⟨Tryz.f88,(Tryz.f88.body).getD .skip,Tryz.func88,rfl,by kernel_rfl,by kernel_rfl,rfl⟩
theorem Bc:Q9 Tryz.prog 84 L0n.c L0n.r L0n.n:=⟨Tryz.f84,(Tryz.f84.body).getD .skip,Tryz.func84,rfl,by kernel_rfl,by kernel_rfl,rfl⟩
theorem W4:Q9 Tryz.prog 85 (L0p.c 83) L0p.r L0p.n:=⟨Tryz.f85,(Tryz.f85.body).getD .skip,Tryz.func85,rfl,by kernel_rfl,by kernel_rfl,rfl⟩
theorem I0:Q9 Tryz.prog 82 L0r.c L0r.r L0r.n:=⟨Tryz.f82,(Tryz.f82.body).getD .skip,Tryz.func82,rfl,by kernel_rfl,by kernel_rfl,rfl⟩
theorem Q10:Q9 Tryz.prog 87 L0t.c L0t.r L0t.n:=⟨Tryz.f87,(Tryz.f87.body).getD .skip,Tryz.func87,rfl,by kernel_rfl,by kernel_rfl,rfl⟩
theorem Q12:Q9 Tryz.prog 59 L0o.c L0o.r L0o.n:=⟨Tryz.f59,(Tryz.f59.body).getD .skip,Tryz.func59,rfl,by kernel_rfl,by kernel_rfl,rfl⟩
theorem Q11:Q9 Tryz.prog 60 (L0q.c 81 82) L0q.r L0q.n:=⟨Tryz.f60,(Tryz.f60.body).getD .skip,Tryz.func60,rfl,by kernel_rfl,by kernel_rfl,rfl⟩
theorem Q48:Q9 Tryz.prog 62 (L0s.c 84 85 86 87 88) L0s.r L0s.n:=⟨Tryz.f62,(Tryz.f62.body).getD .skip,Tryz.func62,rfl,by kernel_rfl,by kernel_rfl,rfl⟩
theorem Q2v:Q9 Tryz.prog 61 (L0u.c 83) L0u.r L0u.n:=⟨Tryz.f61,(Tryz.f61.body).getD .skip,Tryz.func61,rfl,by kernel_rfl,by kernel_rfl,rfl⟩
theorem Bd:Q9 Tryz.prog 27 (L0m.c 59 60 61 62) L0m.r L0m.n:=⟨Tryz.f27,(Tryz.f27.body).getD .skip,Tryz.func27,rfl,by kernel_rfl,by kernel_rfl,rfl⟩
theorem Q46:Q9 Tryz.prog 42 L13.c L13.r L13.n:=⟨Tryz.f42,(Tryz.f42.body).getD .skip,Tryz.func42,rfl,by kernel_rfl,by kernel_rfl,rfl⟩
theorem Q2t:Q9 Tryz.prog 17 (L0z.c 42) L0z.r L0z.n:=⟨Tryz.f17,(Tryz.f17.body).getD .skip,Tryz.func17,rfl,by kernel_rfl,by kernel_rfl,rfl⟩
theorem Q0x:Q9 Tryz.prog 91 L14.c L14.r L14.n:=⟨Tryz.f91,(Tryz.f91.body).getD .skip,Tryz.func91,rfl,by kernel_rfl,by kernel_rfl,rfl⟩
theorem Q45:Q9 Tryz.prog 90 L15.c L15.r L15.n:=⟨Tryz.f90,(Tryz.f90.body).getD .skip,Tryz.func90,rfl,by kernel_rfl,by kernel_rfl,rfl⟩
theorem Q0y:Q9 Tryz.prog 89 L11.c L11.r L11.n:=⟨Tryz.f89,(Tryz.f89.body).getD .skip,Tryz.func89,rfl,by kernel_rfl,by kernel_rfl,rfl⟩
theorem Ey:Q9 Tryz.prog 63 (L12.c 89 91 90) L12.r L12.n:=⟨Tryz.f63,(Tryz.f63.body).getD .skip,Tryz.func63,rfl,by kernel_rfl,by kernel_rfl,rfl⟩
theorem Ew:Q9 Tryz.prog 29 (L16.c 17 63) L16.r L16.n:=⟨Tryz.f29,(Tryz.f29.body).getD .skip,Tryz.func29,rfl,by kernel_rfl,by kernel_rfl,rfl⟩
theorem Q2u:Q9 Tryz.prog 12 (L0y.c 29) L0y.r L0y.n:=⟨Tryz.f12,(Tryz.f12.body).getD .skip,Tryz.func12,rfl,by kernel_rfl,by kernel_rfl,rfl⟩
theorem Q47:Q9 Tryz.prog 15 L0w.c L0w.r L0w.n:=⟨Tryz.f15,(Tryz.f15.body).getD .skip,Tryz.func15,rfl,by kernel_rfl,by kernel_rfl,rfl⟩
theorem Q43:Q9 Tryz.prog 24 L1o.c L1o.r L1o.n:=⟨Tryz.f24,(Tryz.f24.body).getD .skip,Tryz.func24,rfl,by kernel_rfl,by kernel_rfl,rfl⟩
theorem Q2m:Q9 Tryz.prog 9 (L1n.c 24 25 26 27) L1n.r L1n.n:=⟨Tryz.f9,(Tryz.f9.body).getD .skip,Tryz.func9,rfl,by kernel_rfl,by kernel_rfl,rfl⟩
theorem Eu:Q9 Tryz.prog 45 (L1i.c 34) L1i.r L1i.n:=⟨Tryz.f45,(Tryz.f45.body).getD .skip,Tryz.func45,rfl,by kernel_rfl,by kernel_rfl,rfl⟩
theorem Q44:Q9 Tryz.prog 20 (L1h.c 44 30 34 45 46) L1h.r L1h.n:=⟨Tryz.f20,(Tryz.f20.body).getD .skip,Tryz.func20,rfl,by kernel_rfl,by kernel_rfl,rfl⟩
theorem Uq:Q9 Tryz.prog 11 (L0v.c 29) L0v.r L0v.n:=⟨Tryz.f11,(Tryz.f11.body).getD .skip,Tryz.func11,rfl,by kernel_rfl,by kernel_rfl,rfl⟩
theorem Ez:Q9 Tryz.prog 28 (L0x.c 29) L0x.r L0x.n:=⟨Tryz.f28,(Tryz.f28.body).getD .skip,Tryz.func28,rfl,by kernel_rfl,by kernel_rfl,rfl⟩
theorem Q0z:Q9 Tryz.prog 10 (L10.c 17 28) L10.r L10.n:=⟨Tryz.f10,(Tryz.f10.body).getD .skip,Tryz.func10,rfl,by kernel_rfl,by kernel_rfl,rfl⟩
theorem Ks:Q9 Tryz.prog 21 L03.c L03.r L03.n:=⟨Tryz.f21,(Tryz.f21.body).getD .skip,Tryz.func21,rfl,by kernel_rfl,by kernel_rfl,rfl⟩
theorem U2:Q9 Tryz.prog 6 L02.c L02.r L02.n:=⟨Tryz.f6,(Tryz.f6.body).getD .skip,Tryz.func6,rfl,by kernel_rfl,by kernel_rfl,rfl⟩
theorem Q6m:Q9 Tryz.prog 8 (L0e.c 23) L0e.r L0e.n:=⟨Tryz.f8,(Tryz.f8.body).getD .skip,Tryz.func8,rfl,by kernel_rfl,by kernel_rfl,rfl⟩
theorem Kt:Q9 Tryz.prog 7 (L01.c 20 9 21 15 22) L01.r L01.n:=⟨Tryz.f7,(Tryz.f7.body).getD .skip,Tryz.func7,rfl,by kernel_rfl,by kernel_rfl,rfl⟩
theorem Kd:Q9 Tryz.prog 83 L0g.c L0g.r L0g.n:=⟨Tryz.f83,(Tryz.f83.body).getD .skip,Tryz.func83,rfl,by kernel_rfl,by kernel_rfl,rfl⟩
theorem Ba:Q9 Tryz.prog 112 (L1f.c 140) L1f.r L1f.n:=⟨Tryz.f112,(Tryz.f112.body).getD .skip,Tryz.func112,rfl,by kernel_rfl,by kernel_rfl,rfl⟩
theorem Q2q:Q9 Tryz.prog 53 (L1g.c 77) L1g.r L1g.n:=⟨Tryz.f53,(Tryz.f53.body).getD .skip,Tryz.func53,rfl,by kernel_rfl,by kernel_rfl,rfl⟩
theorem Et:Q9 Tryz.prog 109 (L1y.c 138) L1y.r L1y.n:=⟨Tryz.f109,(Tryz.f109.body).getD .skip,Tryz.func109,rfl,by kernel_rfl,by kernel_rfl,rfl⟩
theorem Qbs:Q9 Tryz.prog 139 (L20.c 138 76) L20.r L20.n:=⟨Tryz.f139,(Tryz.f139.body).getD .skip,Tryz.func139,rfl,by kernel_rfl,by kernel_rfl,rfl⟩
theorem ok_additivetop_TopJoins:Q9 Tryz.prog 3 (L00.c 6 7 8 9 11 10 12) L00.r L00.n:=⟨Tryz.f3,(Tryz.f3.body).getD .skip,Tryz.func3,rfl,by kernel_rfl,by kernel_rfl,rfl⟩
end Go.Proofs.YtjggbpiapinceaaGreat
