/- The program's functions are those whose code the library's texts hold. -/
import Derived.Test.YtjggbpiapinceaaGreatRows
import Derived.Test.YtjggbpiapinceaaGreatGoCtE
import Derived.Test.YtjggbpiapinceaaGreatGoSkJ
import Derived.Test.YtjggbpiapinceaaGreatGoSkN
import Derived.Test.YtjggbpiapinceaaGreatGoSkB
import Derived.Test.YtjggbpiapinceaaGreatGoRw
import Derived.Test.YtjggbpiapinceaaGreatGoToA
import Derived.Test.YtjggbpiapinceaaGreatGoCtI
import Derived.Test.YtjggbpiapinceaaGreatGoHr
import Derived.Test.YtjggbpiapinceaaGreatGoSet
import Derived.Test.YtjggbpiapinceaaGreatGoSl
import Derived.Test.YtjggbpiapinceaaGreatGoRevC
import Derived.Test.YtjggbpiapinceaaGreatGoOriB
import Derived.Test.YtjggbpiapinceaaGreatGoSecH
import Derived.Test.YtjggbpiapinceaaGreatGoQd
import Derived.Test.YtjggbpiapinceaaGreatGoQe
import Derived.Test.YtjggbpiapinceaaGreatGoRpG
import Derived.Test.YtjggbpiapinceaaGreatGoSecE
import Derived.Test.YtjggbpiapinceaaGreatGoSkA
import Derived.Test.YtjggbpiapinceaaGreatGoRsD
import Derived.Test.YtjggbpiapinceaaGreatGoTpE
import Derived.Test.YtjggbpiapinceaaGreatGoSkC
import Derived.Test.YtjggbpiapinceaaGreatGoSkE
import Derived.Test.YtjggbpiapinceaaGreatGoDet
import Derived.Test.YtjggbpiapinceaaGreatGoWeB
set_option linter.unusedVariables false
set_option linter.unusedSimpArgs false
namespace Go.Proofs.YtjggbpiapinceaaGreat
open Go.Abs
theorem Q7g:Qa Tryz.prog 76 L2i.c L2i.r L2i.n:=⟨Tryz.f76,(Tryz.f76.body).getD .skip,Tryz.func76,rfl,by kernel_rfl,by kernel_rfl,rfl⟩
theorem Qaf:Qa Tryz.prog 51 (L2g.c 76) L2g.r L2g.n:=⟨Tryz.f51,(Tryz.f51.body).getD .skip,Tryz.func51,rfl,by kernel_rfl,by kernel_rfl,rfl⟩
theorem Q7q:Qa Tryz.prog 23 (L0g.c 51) L0g.r L0g.n:=⟨Tryz.f23,(Tryz.f23.body).getD .skip,Tryz.func23,rfl,by kernel_rfl,by kernel_rfl,rfl⟩
theorem Qdd:Qa Tryz.prog 131 L2e.c L2e.r L2e.n:=⟨Tryz.f131,(Tryz.f131.body).getD .skip,Tryz.func131,rfl,by kernel_rfl,by kernel_rfl,rfl⟩
theorem Q5c:Qa Tryz.prog 130 (L2p.c 131) L2p.r L2p.n:=⟨Tryz.f130,(Tryz.f130.body).getD .skip,Tryz.func130,rfl,by kernel_rfl,by kernel_rfl,rfl⟩
theorem Qad:Qa Tryz.prog 92 (L2o.c 129 130) L2o.r L2o.n:=⟨Tryz.f92,(Tryz.f92.body).getD .skip,Tryz.func92,rfl,by kernel_rfl,by kernel_rfl,rfl⟩
theorem Qae:Qa Tryz.prog 65 (L2l.c 23 92) L2l.r L2l.n:=⟨Tryz.f65,(Tryz.f65.body).getD .skip,Tryz.func65,rfl,by kernel_rfl,by kernel_rfl,rfl⟩
theorem Q3n:Qa Tryz.prog 52 (L0h.c 23) L0h.r L0h.n:=⟨Tryz.f52,(Tryz.f52.body).getD .skip,Tryz.func52,rfl,by kernel_rfl,by kernel_rfl,rfl⟩
theorem Q0a:Qa Tryz.prog 138 (L2h.c 76) L2h.r L2h.n:=⟨Tryz.f138,(Tryz.f138.body).getD .skip,Tryz.func138,rfl,by kernel_rfl,by kernel_rfl,rfl⟩
theorem Qgc:Qa Tryz.prog 110 (L2f.c 51) L2f.r L2f.n:=⟨Tryz.f110,(Tryz.f110.body).getD .skip,Tryz.func110,rfl,by kernel_rfl,by kernel_rfl,rfl⟩
theorem Q1r:Qa Tryz.prog 74 (L2a.c 51 110 109) L2a.r L2a.n:=⟨Tryz.f74,(Tryz.f74.body).getD .skip,Tryz.func74,rfl,by kernel_rfl,by kernel_rfl,rfl⟩
theorem B4:Qa Tryz.prog 49 (L2k.c 52 74) L2k.r L2k.n:=⟨Tryz.f49,(Tryz.f49.body).getD .skip,Tryz.func49,rfl,by kernel_rfl,by kernel_rfl,rfl⟩
theorem Q5e:Qa Tryz.prog 132 L2m.c L2m.r L2m.n:=⟨Tryz.f132,(Tryz.f132.body).getD .skip,Tryz.func132,rfl,by kernel_rfl,by kernel_rfl,rfl⟩
theorem Q5d:Qa Tryz.prog 93 (L2n.c 132) L2n.r L2n.n:=⟨Tryz.f93,(Tryz.f93.body).getD .skip,Tryz.func93,rfl,by kernel_rfl,by kernel_rfl,rfl⟩
theorem Xr:Qa Tryz.prog 46 L1u.c L1u.r L1u.n:=⟨Tryz.f46,(Tryz.f46.body).getD .skip,Tryz.func46,rfl,by kernel_rfl,by kernel_rfl,rfl⟩
theorem Xs:Qa Tryz.prog 64 L1t.c L1t.r L1t.n:=⟨Tryz.f64,(Tryz.f64.body).getD .skip,Tryz.func64,rfl,by kernel_rfl,by kernel_rfl,rfl⟩
theorem Q7f:Qa Tryz.prog 66 (L2j.c 23 46 93 74) L2j.r L2j.n:=⟨Tryz.f66,(Tryz.f66.body).getD .skip,Tryz.func66,rfl,by kernel_rfl,by kernel_rfl,rfl⟩
theorem Q3l:Qa Tryz.prog 94 L0r.c L0r.r L0r.n:=⟨Tryz.f94,(Tryz.f94.body).getD .skip,Tryz.func94,rfl,by kernel_rfl,by kernel_rfl,rfl⟩
theorem Ba:Qa Tryz.prog 73 (L0q.c 94) L0q.r L0q.n:=⟨Tryz.f73,(Tryz.f73.body).getD .skip,Tryz.func73,rfl,by kernel_rfl,by kernel_rfl,rfl⟩
theorem Bc:Qa Tryz.prog 48 (L0l.c 23 73) L0l.r L0l.n:=⟨Tryz.f48,(Tryz.f48.body).getD .skip,Tryz.func48,rfl,by kernel_rfl,by kernel_rfl,rfl⟩
theorem Q7j:Qa Tryz.prog 102 L24.c L24.r L24.n:=⟨Tryz.f102,(Tryz.f102.body).getD .skip,Tryz.func102,rfl,by kernel_rfl,by kernel_rfl,rfl⟩
theorem Q3f:Qa Tryz.prog 105 (L23.c 23 102) L23.r L23.n:=⟨Tryz.f105,(Tryz.f105.body).getD .skip,Tryz.func105,rfl,by kernel_rfl,by kernel_rfl,rfl⟩
theorem Q3e:Qa Tryz.prog 106 L26.c L26.r L26.n:=⟨Tryz.f106,(Tryz.f106.body).getD .skip,Tryz.func106,rfl,by kernel_rfl,by kernel_rfl,rfl⟩
theorem B5:Qa Tryz.prog 103 L27.c L27.r L27.n:=⟨Tryz.f103,(Tryz.f103.body).getD .skip,Tryz.func103,rfl,by kernel_rfl,by kernel_rfl,rfl⟩
theorem Q20:Qa Tryz.prog 181 L06.c L06.r L06.n:=⟨Tryz.f181,(Tryz.f181.body).getD .skip,Tryz.func181,rfl,by kernel_rfl,by kernel_rfl,rfl⟩
theorem Bd:Qa Tryz.prog 137 (L04.c 181) L04.r L04.n:=⟨Tryz.f137,(Tryz.f137.body).getD .skip,Tryz.func137,rfl,by kernel_rfl,by kernel_rfl,rfl⟩
theorem Q7s:Qa Tryz.prog 136 L05.c L05.r L05.n:=⟨Tryz.f136,(Tryz.f136.body).getD .skip,Tryz.func136,rfl,by kernel_rfl,by kernel_rfl,rfl⟩
theorem Q7i:Qa Tryz.prog 108 (L25.c 137 136) L25.r L25.n:=⟨Tryz.f108,(Tryz.f108.body).getD .skip,Tryz.func108,rfl,by kernel_rfl,by kernel_rfl,rfl⟩
theorem Q1s:Qa Tryz.prog 72 (L1z.c 105 106 107 108) L1z.r L1z.n:=⟨Tryz.f72,(Tryz.f72.body).getD .skip,Tryz.func72,rfl,by kernel_rfl,by kernel_rfl,rfl⟩
theorem Q5g:Qa Tryz.prog 47 (L20.c 23 72) L20.r L20.n:=⟨Tryz.f47,(Tryz.f47.body).getD .skip,Tryz.func47,rfl,by kernel_rfl,by kernel_rfl,rfl⟩
theorem Q5f:Qa Tryz.prog 70 (L22.c 23 102 103 104) L22.r L22.n:=⟨Tryz.f70,(Tryz.f70.body).getD .skip,Tryz.func70,rfl,by kernel_rfl,by kernel_rfl,rfl⟩
theorem Qge:Qa Tryz.prog 111 (L2c.c 138 109 139) L2c.r L2c.n:=⟨Tryz.f111,(Tryz.f111.body).getD .skip,Tryz.func111,rfl,by kernel_rfl,by kernel_rfl,rfl⟩
theorem Q3m:Qa Tryz.prog 75 (L0i.c 23 111) L0i.r L0i.n:=⟨Tryz.f75,(Tryz.f75.body).getD .skip,Tryz.func75,rfl,by kernel_rfl,by kernel_rfl,rfl⟩
theorem B9:Qa Tryz.prog 98 L0s.c L0s.r L0s.n:=⟨Tryz.f98,(Tryz.f98.body).getD .skip,Tryz.func98,rfl,by kernel_rfl,by kernel_rfl,rfl⟩
theorem Q0e:Qa Tryz.prog 69 (L0o.c 23 47 73 46 64 70 75 98) L0o.r L0o.n:=⟨Tryz.f69,(Tryz.f69.body).getD .skip,Tryz.func69,rfl,by kernel_rfl,by kernel_rfl,rfl⟩
theorem Q5r:Qa Tryz.prog 95 L0p.c L0p.r L0p.n:=⟨Tryz.f95,(Tryz.f95.body).getD .skip,Tryz.func95,rfl,by kernel_rfl,by kernel_rfl,rfl⟩
theorem Xf:Qa Tryz.prog 133 L1w.c L1w.r L1w.n:=⟨Tryz.f133,(Tryz.f133.body).getD .skip,Tryz.func133,rfl,by kernel_rfl,by kernel_rfl,rfl⟩
theorem Yz:Qa Tryz.prog 97 (L1v.c 133) L1v.r L1v.n:=⟨Tryz.f97,(Tryz.f97.body).getD .skip,Tryz.func97,rfl,by kernel_rfl,by kernel_rfl,rfl⟩
theorem Bb:Qa Tryz.prog 96 (L0n.c 94 97 98) L0n.r L0n.n:=⟨Tryz.f96,(Tryz.f96.body).getD .skip,Tryz.func96,rfl,by kernel_rfl,by kernel_rfl,rfl⟩
theorem Q1y:Qa Tryz.prog 67 (L0m.c 23 64 94 95 96 73 46) L0m.r L0m.n:=⟨Tryz.f67,(Tryz.f67.body).getD .skip,Tryz.func67,rfl,by kernel_rfl,by kernel_rfl,rfl⟩
theorem Qak:Qa Tryz.prog 101 L0c.c L0c.r L0c.n:=⟨Tryz.f101,(Tryz.f101.body).getD .skip,Tryz.func101,rfl,by kernel_rfl,by kernel_rfl,rfl⟩
theorem Q7k:Qa Tryz.prog 99 (L21.c 23 105 72 106) L21.r L21.n:=⟨Tryz.f99,(Tryz.f99.body).getD .skip,Tryz.func99,rfl,by kernel_rfl,by kernel_rfl,rfl⟩
theorem Q3o:Qa Tryz.prog 100 L0e.c L0e.r L0e.n:=⟨Tryz.f100,(Tryz.f100.body).getD .skip,Tryz.func100,rfl,by kernel_rfl,by kernel_rfl,rfl⟩
theorem Q7r:Qa Tryz.prog 68 (L0d.c 23 99 46 64 101 100) L0d.r L0d.n:=⟨Tryz.f68,(Tryz.f68.body).getD .skip,Tryz.func68,rfl,by kernel_rfl,by kernel_rfl,rfl⟩
theorem B8:Qa Tryz.prog 50 (L19.c 70 75) L19.r L19.n:=⟨Tryz.f50,(Tryz.f50.body).getD .skip,Tryz.func50,rfl,by kernel_rfl,by kernel_rfl,rfl⟩
theorem Q3g:Qa Tryz.prog 22 (L17.c 23 47 48 49 50) L17.r L17.n:=⟨Tryz.f22,(Tryz.f22.body).getD .skip,Tryz.func22,rfl,by kernel_rfl,by kernel_rfl,rfl⟩
theorem B6:Qa Tryz.prog 36 (L1f.c 65) L1f.r L1f.n:=⟨Tryz.f36,(Tryz.f36.body).getD .skip,Tryz.func36,rfl,by kernel_rfl,by kernel_rfl,rfl⟩
theorem I6:Qa Tryz.prog 37 (L1b.c 66) L1b.r L1b.n:=⟨Tryz.f37,(Tryz.f37.body).getD .skip,Tryz.func37,rfl,by kernel_rfl,by kernel_rfl,rfl⟩
theorem Ul:Qa Tryz.prog 38 (L1d.c 67) L1d.r L1d.n:=⟨Tryz.f38,(Tryz.f38.body).getD .skip,Tryz.func38,rfl,by kernel_rfl,by kernel_rfl,rfl⟩
theorem B7:Qa Tryz.prog 39 (L1c.c 68) L1c.r L1c.n:=⟨Tryz.f39,(Tryz.f39.body).getD .skip,Tryz.func39,rfl,by kernel_rfl,by kernel_rfl,rfl⟩
theorem Ua:Qa Tryz.prog 40 (L1e.c 69) L1e.r L1e.n:=⟨Tryz.f40,(Tryz.f40.body).getD .skip,Tryz.func40,rfl,by kernel_rfl,by kernel_rfl,rfl⟩
theorem I7:Qa Tryz.prog 41 (L1a.c 70 22) L1a.r L1a.n:=⟨Tryz.f41,(Tryz.f41.body).getD .skip,Tryz.func41,rfl,by kernel_rfl,by kernel_rfl,rfl⟩
theorem Q1v:Qa Tryz.prog 16 (L18.c 36 37 38 39 40 41) L18.r L18.n:=⟨Tryz.f16,(Tryz.f16.body).getD .skip,Tryz.func16,rfl,by kernel_rfl,by kernel_rfl,rfl⟩
theorem Q5k:Qa Tryz.prog 44 (L1q.c 51) L1q.r L1q.n:=⟨Tryz.f44,(Tryz.f44.body).getD .skip,Tryz.func44,rfl,by kernel_rfl,by kernel_rfl,rfl⟩
theorem Q5j:Qa Tryz.prog 30 L1r.c L1r.r L1r.n:=⟨Tryz.f30,(Tryz.f30.body).getD .skip,Tryz.func30,rfl,by kernel_rfl,by kernel_rfl,rfl⟩
theorem Q5i:Qa Tryz.prog 34 L1s.c L1s.r L1s.n:=⟨Tryz.f34,(Tryz.f34.body).getD .skip,Tryz.func34,rfl,by kernel_rfl,by kernel_rfl,rfl⟩
theorem Q0c:Qa Tryz.prog 45 (L1p.c 34) L1p.r L1p.n:=⟨Tryz.f45,(Tryz.f45.body).getD .skip,Tryz.func45,rfl,by kernel_rfl,by kernel_rfl,rfl⟩
theorem Q7m:Qa Tryz.prog 20 (L1o.c 44 30 34 45 46) L1o.r L1o.n:=⟨Tryz.f20,(Tryz.f20.body).getD .skip,Tryz.func20,rfl,by kernel_rfl,by kernel_rfl,rfl⟩
theorem Qaj:Qa Tryz.prog 140 (L0k.c 83) L0k.r L0k.n:=⟨Tryz.f140,(Tryz.f140.body).getD .skip,Tryz.func140,rfl,by kernel_rfl,by kernel_rfl,rfl⟩
theorem Q1u:Qa Tryz.prog 77 (L1l.c 51 112) L1l.r L1l.n:=⟨Tryz.f77,(Tryz.f77.body).getD .skip,Tryz.func77,rfl,by kernel_rfl,by kernel_rfl,rfl⟩
theorem Q5m:Qa Tryz.prog 25 (L1k.c 23 52 53) L1k.r L1k.n:=⟨Tryz.f25,(Tryz.f25.body).getD .skip,Tryz.func25,rfl,by kernel_rfl,by kernel_rfl,rfl⟩
theorem Q3k:Qa Tryz.prog 54 L0t.c L0t.r L0t.n:=⟨Tryz.f54,(Tryz.f54.body).getD .skip,Tryz.func54,rfl,by kernel_rfl,by kernel_rfl,rfl⟩
theorem I8:Qa Tryz.prog 55 L07.c L07.r L07.n:=⟨Tryz.f55,(Tryz.f55.body).getD .skip,Tryz.func55,rfl,by kernel_rfl,by kernel_rfl,rfl⟩
theorem Q0f:Qa Tryz.prog 57 L09.c L09.r L09.n:=⟨Tryz.f57,(Tryz.f57.body).getD .skip,Tryz.func57,rfl,by kernel_rfl,by kernel_rfl,rfl⟩
theorem Un:Qa Tryz.prog 80 L0b.c L0b.r L0b.n:=⟨Tryz.f80,(Tryz.f80.body).getD .skip,Tryz.func80,rfl,by kernel_rfl,by kernel_rfl,rfl⟩
theorem W3:Qa Tryz.prog 58 (L0a.c 80) L0a.r L0a.n:=⟨Tryz.f58,(Tryz.f58.body).getD .skip,Tryz.func58,rfl,by kernel_rfl,by kernel_rfl,rfl⟩
theorem Q1z:Qa Tryz.prog 26 (L08.c 54 55 56 57 58) L08.r L08.n:=⟨Tryz.f26,(Tryz.f26.body).getD .skip,Tryz.func26,rfl,by kernel_rfl,by kernel_rfl,rfl⟩
theorem Qah:Qa Tryz.prog 125 L1i.c L1i.r L1i.n:=⟨Tryz.f125,(Tryz.f125.body).getD .skip,Tryz.func125,rfl,by kernel_rfl,by kernel_rfl,rfl⟩
theorem Q5n:Qa Tryz.prog 127 L1h.c L1h.r L1h.n:=⟨Tryz.f127,(Tryz.f127.body).getD .skip,Tryz.func127,rfl,by kernel_rfl,by kernel_rfl,rfl⟩
theorem Qag:Qa Tryz.prog 128 L1j.c L1j.r L1j.n:=⟨Tryz.f128,(Tryz.f128.body).getD .skip,Tryz.func128,rfl,by kernel_rfl,by kernel_rfl,rfl⟩
theorem Qai:Qa Tryz.prog 88 (L1g.c 125 126 127 128) L1g.r L1g.n:=⟨Tryz.f88,(Tryz.f88.body).getD .skip,Tryz.func88,rfl,by kernel_rfl,by kernel_rfl,rfl⟩
theorem Q1w:Qa Tryz.prog 84 L0v.c L0v.r L0v.n:=⟨Tryz.f84,(Tryz.f84.body).getD .skip,Tryz.func84,rfl,by kernel_rfl,by kernel_rfl,rfl⟩
theorem Um:Qa Tryz.prog 85 (L0x.c 83) L0x.r L0x.n:=⟨Tryz.f85,(Tryz.f85.body).getD .skip,Tryz.func85,rfl,by kernel_rfl,by kernel_rfl,rfl⟩
theorem Q0d:Qa Tryz.prog 82 L0z.c L0z.r L0z.n:=⟨Tryz.f82,(Tryz.f82.body).getD .skip,Tryz.func82,rfl,by kernel_rfl,by kernel_rfl,rfl⟩
theorem Q3h:Qa Tryz.prog 87 L11.c L11.r L11.n:=⟨Tryz.f87,(Tryz.f87.body).getD .skip,Tryz.func87,rfl,by kernel_rfl,by kernel_rfl,rfl⟩
theorem Q3j:Qa Tryz.prog 59 L0w.c L0w.r L0w.n:=⟨Tryz.f59,(Tryz.f59.body).getD .skip,Tryz.func59,rfl,by kernel_rfl,by kernel_rfl,rfl⟩
theorem Q3i:Qa Tryz.prog 60 (L0y.c 81 82) L0y.r L0y.n:=⟨Tryz.f60,(Tryz.f60.body).getD .skip,Tryz.func60,rfl,by kernel_rfl,by kernel_rfl,rfl⟩
theorem Q7p:Qa Tryz.prog 62 (L10.c 84 85 86 87 88) L10.r L10.n:=⟨Tryz.f62,(Tryz.f62.body).getD .skip,Tryz.func62,rfl,by kernel_rfl,by kernel_rfl,rfl⟩
theorem Q5q:Qa Tryz.prog 61 (L12.c 83) L12.r L12.n:=⟨Tryz.f61,(Tryz.f61.body).getD .skip,Tryz.func61,rfl,by kernel_rfl,by kernel_rfl,rfl⟩
theorem Q1x:Qa Tryz.prog 27 (L0u.c 59 60 61 62) L0u.r L0u.n:=⟨Tryz.f27,(Tryz.f27.body).getD .skip,Tryz.func27,rfl,by kernel_rfl,by kernel_rfl,rfl⟩
theorem Q7n:Qa Tryz.prog 42 L16.c L16.r L16.n:=⟨Tryz.f42,(Tryz.f42.body).getD .skip,Tryz.func42,rfl,by kernel_rfl,by kernel_rfl,rfl⟩
theorem Q5o:Qa Tryz.prog 17 (L15.c 42) L15.r L15.n:=⟨Tryz.f17,(Tryz.f17.body).getD .skip,Tryz.func17,rfl,by kernel_rfl,by kernel_rfl,rfl⟩
theorem Q7o:Qa Tryz.prog 15 L14.c L14.r L14.n:=⟨Tryz.f15,(Tryz.f15.body).getD .skip,Tryz.func15,rfl,by kernel_rfl,by kernel_rfl,rfl⟩
theorem Q7l:Qa Tryz.prog 24 L1y.c L1y.r L1y.n:=⟨Tryz.f24,(Tryz.f24.body).getD .skip,Tryz.func24,rfl,by kernel_rfl,by kernel_rfl,rfl⟩
theorem Q3d:Qa Tryz.prog 71 L29.c L29.r L29.n:=⟨Tryz.f71,(Tryz.f71.body).getD .skip,Tryz.func71,rfl,by kernel_rfl,by kernel_rfl,rfl⟩
theorem Q7h:Qa Tryz.prog 43 (L28.c 71) L28.r L28.n:=⟨Tryz.f43,(Tryz.f43.body).getD .skip,Tryz.func43,rfl,by kernel_rfl,by kernel_rfl,rfl⟩
theorem Qde:Qa Tryz.prog 18 (L0f.c 23 43) L0f.r L0f.n:=⟨Tryz.f18,(Tryz.f18.body).getD .skip,Tryz.func18,rfl,by kernel_rfl,by kernel_rfl,rfl⟩
theorem Q5h:Qa Tryz.prog 9 (L1x.c 24 25 26 27) L1x.r L1x.n:=⟨Tryz.f9,(Tryz.f9.body).getD .skip,Tryz.func9,rfl,by kernel_rfl,by kernel_rfl,rfl⟩
theorem Q5p:Qa Tryz.prog 19 (L13.c 17) L13.r L13.n:=⟨Tryz.f19,(Tryz.f19.body).getD .skip,Tryz.func19,rfl,by kernel_rfl,by kernel_rfl,rfl⟩
theorem Ub:Qa Tryz.prog 21 L03.c L03.r L03.n:=⟨Tryz.f21,(Tryz.f21.body).getD .skip,Tryz.func21,rfl,by kernel_rfl,by kernel_rfl,rfl⟩
theorem I9:Qa Tryz.prog 6 L02.c L02.r L02.n:=⟨Tryz.f6,(Tryz.f6.body).getD .skip,Tryz.func6,rfl,by kernel_rfl,by kernel_rfl,rfl⟩
theorem Uc:Qa Tryz.prog 7 (L01.c 20 9 21 15 22) L01.r L01.n:=⟨Tryz.f7,(Tryz.f7.body).getD .skip,Tryz.func7,rfl,by kernel_rfl,by kernel_rfl,rfl⟩
theorem Wq:Qa Tryz.prog 83 L0j.c L0j.r L0j.n:=⟨Tryz.f83,(Tryz.f83.body).getD .skip,Tryz.func83,rfl,by kernel_rfl,by kernel_rfl,rfl⟩
theorem Q1t:Qa Tryz.prog 112 (L1m.c 140) L1m.r L1m.n:=⟨Tryz.f112,(Tryz.f112.body).getD .skip,Tryz.func112,rfl,by kernel_rfl,by kernel_rfl,rfl⟩
theorem Q5l:Qa Tryz.prog 53 (L1n.c 77) L1n.r L1n.n:=⟨Tryz.f53,(Tryz.f53.body).getD .skip,Tryz.func53,rfl,by kernel_rfl,by kernel_rfl,rfl⟩
theorem Q0b:Qa Tryz.prog 109 (L2b.c 138) L2b.r L2b.n:=⟨Tryz.f109,(Tryz.f109.body).getD .skip,Tryz.func109,rfl,by kernel_rfl,by kernel_rfl,rfl⟩
theorem Qgd:Qa Tryz.prog 139 (L2d.c 138 76) L2d.r L2d.n:=⟨Tryz.f139,(Tryz.f139.body).getD .skip,Tryz.func139,rfl,by kernel_rfl,by kernel_rfl,rfl⟩
theorem ok_additivetop_TopSlices:Qa Tryz.prog 5 (L00.c 6 7 16 9 17 18 19) L00.r L00.n:=⟨Tryz.f5,(Tryz.f5.body).getD .skip,Tryz.func5,rfl,by kernel_rfl,by kernel_rfl,rfl⟩
end Go.Proofs.YtjggbpiapinceaaGreat
