/- The program's functions are those whose code the library's texts hold. -/
import Derived.Test.YtcdjgldeiaiaoaaGreatRows
import Derived.Test.YtcdjgldeiaiaoaaGreatGoQd
import Derived.Test.YtcdjgldeiaiaoaaGreatGoOu
import Derived.Test.YtcdjgldeiaiaoaaGreatGoRpH
import Derived.Test.YtcdjgldeiaiaoaaGreatGoTpE
import Derived.Test.YtcdjgldeiaiaoaaGreatGoLq
import Derived.Test.YtcdjgldeiaiaoaaGreatGoVs
import Derived.Test.YtcdjgldeiaiaoaaGreatGoSch
import Derived.Test.YtcdjgldeiaiaoaaGreatGoRevC
import Derived.Test.YtcdjgldeiaiaoaaGreatGoSet
import Derived.Test.YtcdjgldeiaiaoaaGreatGoHeap
import Derived.Test.YtcdjgldeiaiaoaaGreatGoOriB
import Derived.Test.YtcdjgldeiaiaoaaGreatGoOriD
import Derived.Test.YtcdjgldeiaiaoaaGreatGoRpA
import Derived.Test.YtcdjgldeiaiaoaaGreatGoQe
import Derived.Test.YtcdjgldeiaiaoaaGreatGoWeA
import Derived.Test.YtcdjgldeiaiaoaaGreatGoShpN
import Derived.Test.YtcdjgldeiaiaoaaGreatGoSo
import Derived.Test.YtcdjgldeiaiaoaaGreatGoOv
import Derived.Test.YtcdjgldeiaiaoaaGreatGoWeB
set_option linter.unusedVariables false
set_option linter.unusedSimpArgs false
namespace Go.Proofs.YtcdjgldeiaiaoaaGreat
open Go.Abs
theorem Q3v:Qb Tryz.prog 103 L1q.c L1q.r L1q.n:=⟨Tryz.f103,(Tryz.f103.body).getD .skip,Tryz.func103,rfl,by kernel_rfl,by kernel_rfl,rfl⟩
theorem Q0k:Qb Tryz.prog 86 L0o.c L0o.r L0o.n:=⟨Tryz.f86,(Tryz.f86.body).getD .skip,Tryz.func86,rfl,by kernel_rfl,by kernel_rfl,rfl⟩
theorem Q5z:Qb Tryz.prog 61 (L1o.c 103) L1o.r L1o.n:=⟨Tryz.f61,(Tryz.f61.body).getD .skip,Tryz.func61,rfl,by kernel_rfl,by kernel_rfl,rfl⟩
theorem Q2d:Qb Tryz.prog 49 (L0m.c 86) L0m.r L0m.n:=⟨Tryz.f49,(Tryz.f49.body).getD .skip,Tryz.func49,rfl,by kernel_rfl,by kernel_rfl,rfl⟩
theorem Q40:Qb Tryz.prog 29 (L08.c 61) L08.r L08.n:=⟨Tryz.f29,(Tryz.f29.body).getD .skip,Tryz.func29,rfl,by kernel_rfl,by kernel_rfl,rfl⟩
theorem Q2b:Qb Tryz.prog 18 (L0p.c 49) L0p.r L0p.n:=⟨Tryz.f18,(Tryz.f18.body).getD .skip,Tryz.func18,rfl,by kernel_rfl,by kernel_rfl,rfl⟩
theorem Q89:Qb Tryz.prog 123 L1m.c L1m.r L1m.n:=⟨Tryz.f123,(Tryz.f123.body).getD .skip,Tryz.func123,rfl,by kernel_rfl,by kernel_rfl,rfl⟩
theorem Q23:Qb Tryz.prog 122 (L1x.c 123) L1x.r L1x.n:=⟨Tryz.f122,(Tryz.f122.body).getD .skip,Tryz.func122,rfl,by kernel_rfl,by kernel_rfl,rfl⟩
theorem Q5x:Qb Tryz.prog 90 (L1w.c 121 122) L1w.r L1w.n:=⟨Tryz.f90,(Tryz.f90.body).getD .skip,Tryz.func90,rfl,by kernel_rfl,by kernel_rfl,rfl⟩
theorem Q5y:Qb Tryz.prog 55 (L1t.c 29 90) L1t.r L1t.n:=⟨Tryz.f55,(Tryz.f55.body).getD .skip,Tryz.func55,rfl,by kernel_rfl,by kernel_rfl,rfl⟩
theorem Q0n:Qb Tryz.prog 64 (L09.c 29) L09.r L09.n:=⟨Tryz.f64,(Tryz.f64.body).getD .skip,Tryz.func64,rfl,by kernel_rfl,by kernel_rfl,rfl⟩
theorem Ey:Qb Tryz.prog 131 (L1p.c 103) L1p.r L1p.n:=⟨Tryz.f131,(Tryz.f131.body).getD .skip,Tryz.func131,rfl,by kernel_rfl,by kernel_rfl,rfl⟩
theorem Q2c:Qb Tryz.prog 87 (L0n.c 86) L0n.r L0n.n:=⟨Tryz.f87,(Tryz.f87.body).getD .skip,Tryz.func87,rfl,by kernel_rfl,by kernel_rfl,rfl⟩
theorem Qap:Qb Tryz.prog 109 (L1n.c 61) L1n.r L1n.n:=⟨Tryz.f109,(Tryz.f109.body).getD .skip,Tryz.func109,rfl,by kernel_rfl,by kernel_rfl,rfl⟩
theorem B9:Qb Tryz.prog 65 (L1i.c 61 109 108) L1i.r L1i.n:=⟨Tryz.f65,(Tryz.f65.body).getD .skip,Tryz.func65,rfl,by kernel_rfl,by kernel_rfl,rfl⟩
theorem Uu:Qb Tryz.prog 32 (L1s.c 64 65) L1s.r L1s.n:=⟨Tryz.f32,(Tryz.f32.body).getD .skip,Tryz.func32,rfl,by kernel_rfl,by kernel_rfl,rfl⟩
theorem Q25:Qb Tryz.prog 124 L1u.c L1u.r L1u.n:=⟨Tryz.f124,(Tryz.f124.body).getD .skip,Tryz.func124,rfl,by kernel_rfl,by kernel_rfl,rfl⟩
theorem Q24:Qb Tryz.prog 91 (L1v.c 124) L1v.r L1v.n:=⟨Tryz.f91,(Tryz.f91.body).getD .skip,Tryz.func91,rfl,by kernel_rfl,by kernel_rfl,rfl⟩
theorem X9:Qb Tryz.prog 54 L16.c L16.r L16.n:=⟨Tryz.f54,(Tryz.f54.body).getD .skip,Tryz.func54,rfl,by kernel_rfl,by kernel_rfl,rfl⟩
theorem Xa:Qb Tryz.prog 85 L15.c L15.r L15.n:=⟨Tryz.f85,(Tryz.f85.body).getD .skip,Tryz.func85,rfl,by kernel_rfl,by kernel_rfl,rfl⟩
theorem Q3u:Qb Tryz.prog 56 (L1r.c 29 54 91 65) L1r.r L1r.n:=⟨Tryz.f56,(Tryz.f56.body).getD .skip,Tryz.func56,rfl,by kernel_rfl,by kernel_rfl,rfl⟩
theorem Q0l:Qb Tryz.prog 92 L0h.c L0h.r L0h.n:=⟨Tryz.f92,(Tryz.f92.body).getD .skip,Tryz.func92,rfl,by kernel_rfl,by kernel_rfl,rfl⟩
theorem E1:Qb Tryz.prog 63 (L0g.c 92) L0g.r L0g.n:=⟨Tryz.f63,(Tryz.f63.body).getD .skip,Tryz.func63,rfl,by kernel_rfl,by kernel_rfl,rfl⟩
theorem E4:Qb Tryz.prog 31 (L0b.c 29 63) L0b.r L0b.n:=⟨Tryz.f31,(Tryz.f31.body).getD .skip,Tryz.func31,rfl,by kernel_rfl,by kernel_rfl,rfl⟩
theorem Q3x:Qb Tryz.prog 100 L1e.c L1e.r L1e.n:=⟨Tryz.f100,(Tryz.f100.body).getD .skip,Tryz.func100,rfl,by kernel_rfl,by kernel_rfl,rfl⟩
theorem Q0i:Qb Tryz.prog 104 (L1d.c 29 100) L1d.r L1d.n:=⟨Tryz.f104,(Tryz.f104.body).getD .skip,Tryz.func104,rfl,by kernel_rfl,by kernel_rfl,rfl⟩
theorem Q0h:Qb Tryz.prog 105 L1g.c L1g.r L1g.n:=⟨Tryz.f105,(Tryz.f105.body).getD .skip,Tryz.func105,rfl,by kernel_rfl,by kernel_rfl,rfl⟩
theorem Uv:Qb Tryz.prog 101 L1h.c L1h.r L1h.n:=⟨Tryz.f101,(Tryz.f101.body).getD .skip,Tryz.func101,rfl,by kernel_rfl,by kernel_rfl,rfl⟩
theorem Be:Qb Tryz.prog 153 L02.c L02.r L02.n:=⟨Tryz.f153,(Tryz.f153.body).getD .skip,Tryz.func153,rfl,by kernel_rfl,by kernel_rfl,rfl⟩
theorem E5:Qb Tryz.prog 130 (L00.c 153) L00.r L00.n:=⟨Tryz.f130,(Tryz.f130.body).getD .skip,Tryz.func130,rfl,by kernel_rfl,by kernel_rfl,rfl⟩
theorem Q42:Qb Tryz.prog 129 L01.c L01.r L01.n:=⟨Tryz.f129,(Tryz.f129.body).getD .skip,Tryz.func129,rfl,by kernel_rfl,by kernel_rfl,rfl⟩
theorem Q3w:Qb Tryz.prog 107 (L1f.c 130 129) L1f.r L1f.n:=⟨Tryz.f107,(Tryz.f107.body).getD .skip,Tryz.func107,rfl,by kernel_rfl,by kernel_rfl,rfl⟩
theorem Ba:Qb Tryz.prog 62 (L19.c 104 105 106 107) L19.r L19.n:=⟨Tryz.f62,(Tryz.f62.body).getD .skip,Tryz.func62,rfl,by kernel_rfl,by kernel_rfl,rfl⟩
theorem Q27:Qb Tryz.prog 30 (L1a.c 29 62) L1a.r L1a.n:=⟨Tryz.f30,(Tryz.f30.body).getD .skip,Tryz.func30,rfl,by kernel_rfl,by kernel_rfl,rfl⟩
theorem Q26:Qb Tryz.prog 60 (L1c.c 29 100 101 102) L1c.r L1c.n:=⟨Tryz.f60,(Tryz.f60.body).getD .skip,Tryz.func60,rfl,by kernel_rfl,by kernel_rfl,rfl⟩
theorem Qar:Qb Tryz.prog 110 (L1k.c 131 108 132) L1k.r L1k.n:=⟨Tryz.f110,(Tryz.f110.body).getD .skip,Tryz.func110,rfl,by kernel_rfl,by kernel_rfl,rfl⟩
theorem Q0m:Qb Tryz.prog 66 (L0a.c 29 110) L0a.r L0a.n:=⟨Tryz.f66,(Tryz.f66.body).getD .skip,Tryz.func66,rfl,by kernel_rfl,by kernel_rfl,rfl⟩
theorem Q61:Qb Tryz.prog 51 (L0k.c 87 89 88) L0k.r L0k.n:=⟨Tryz.f51,(Tryz.f51.body).getD .skip,Tryz.func51,rfl,by kernel_rfl,by kernel_rfl,rfl⟩
theorem Bc:Qb Tryz.prog 21 (L0q.c 18 51) L0q.r L0q.n:=⟨Tryz.f21,(Tryz.f21.body).getD .skip,Tryz.func21,rfl,by kernel_rfl,by kernel_rfl,rfl⟩
theorem Uz:Qb Tryz.prog 96 L0i.c L0i.r L0i.n:=⟨Tryz.f96,(Tryz.f96.body).getD .skip,Tryz.func96,rfl,by kernel_rfl,by kernel_rfl,rfl⟩
theorem I1:Qb Tryz.prog 59 (L0e.c 29 30 63 54 85 60 66 96) L0e.r L0e.n:=⟨Tryz.f59,(Tryz.f59.body).getD .skip,Tryz.func59,rfl,by kernel_rfl,by kernel_rfl,rfl⟩
theorem Q2f:Qb Tryz.prog 93 L0f.c L0f.r L0f.n:=⟨Tryz.f93,(Tryz.f93.body).getD .skip,Tryz.func93,rfl,by kernel_rfl,by kernel_rfl,rfl⟩
theorem Yw:Qb Tryz.prog 125 L18.c L18.r L18.n:=⟨Tryz.f125,(Tryz.f125.body).getD .skip,Tryz.func125,rfl,by kernel_rfl,by kernel_rfl,rfl⟩
theorem Yh:Qb Tryz.prog 95 (L17.c 125) L17.r L17.n:=⟨Tryz.f95,(Tryz.f95.body).getD .skip,Tryz.func95,rfl,by kernel_rfl,by kernel_rfl,rfl⟩
theorem E3:Qb Tryz.prog 94 (L0d.c 92 95 96) L0d.r L0d.n:=⟨Tryz.f94,(Tryz.f94.body).getD .skip,Tryz.func94,rfl,by kernel_rfl,by kernel_rfl,rfl⟩
theorem Bd:Qb Tryz.prog 57 (L0c.c 29 85 92 93 94 63 54) L0c.r L0c.n:=⟨Tryz.f57,(Tryz.f57.body).getD .skip,Tryz.func57,rfl,by kernel_rfl,by kernel_rfl,rfl⟩
theorem Q62:Qb Tryz.prog 99 L03.c L03.r L03.n:=⟨Tryz.f99,(Tryz.f99.body).getD .skip,Tryz.func99,rfl,by kernel_rfl,by kernel_rfl,rfl⟩
theorem Q3y:Qb Tryz.prog 97 (L1b.c 29 104 62 105) L1b.r L1b.n:=⟨Tryz.f97,(Tryz.f97.body).getD .skip,Tryz.func97,rfl,by kernel_rfl,by kernel_rfl,rfl⟩
theorem Q0o:Qb Tryz.prog 98 L05.c L05.r L05.n:=⟨Tryz.f98,(Tryz.f98.body).getD .skip,Tryz.func98,rfl,by kernel_rfl,by kernel_rfl,rfl⟩
theorem Q41:Qb Tryz.prog 58 (L04.c 29 97 54 85 99 98) L04.r L04.n:=⟨Tryz.f58,(Tryz.f58.body).getD .skip,Tryz.func58,rfl,by kernel_rfl,by kernel_rfl,rfl⟩
theorem Uy:Qb Tryz.prog 33 (L0t.c 60 66) L0t.r L0t.n:=⟨Tryz.f33,(Tryz.f33.body).getD .skip,Tryz.func33,rfl,by kernel_rfl,by kernel_rfl,rfl⟩
theorem Q0j:Qb Tryz.prog 12 (L0r.c 29 30 31 32 33) L0r.r L0r.n:=⟨Tryz.f12,(Tryz.f12.body).getD .skip,Tryz.func12,rfl,by kernel_rfl,by kernel_rfl,rfl⟩
theorem Uw:Qb Tryz.prog 23 (L0z.c 55) L0z.r L0z.n:=⟨Tryz.f23,(Tryz.f23.body).getD .skip,Tryz.func23,rfl,by kernel_rfl,by kernel_rfl,rfl⟩
theorem Ub:Qb Tryz.prog 24 (L0v.c 56) L0v.r L0v.n:=⟨Tryz.f24,(Tryz.f24.body).getD .skip,Tryz.func24,rfl,by kernel_rfl,by kernel_rfl,rfl⟩
theorem W7:Qb Tryz.prog 25 (L0x.c 57) L0x.r L0x.n:=⟨Tryz.f25,(Tryz.f25.body).getD .skip,Tryz.func25,rfl,by kernel_rfl,by kernel_rfl,rfl⟩
theorem Ux:Qb Tryz.prog 26 (L0w.c 58) L0w.r L0w.n:=⟨Tryz.f26,(Tryz.f26.body).getD .skip,Tryz.func26,rfl,by kernel_rfl,by kernel_rfl,rfl⟩
theorem Ky:Qb Tryz.prog 27 (L0y.c 59) L0y.r L0y.n:=⟨Tryz.f27,(Tryz.f27.body).getD .skip,Tryz.func27,rfl,by kernel_rfl,by kernel_rfl,rfl⟩
theorem Uc:Qb Tryz.prog 28 (L0u.c 60 12) L0u.r L0u.n:=⟨Tryz.f28,(Tryz.f28.body).getD .skip,Tryz.func28,rfl,by kernel_rfl,by kernel_rfl,rfl⟩
theorem Bb:Qb Tryz.prog 11 (L0s.c 23 24 25 26 27 28) L0s.r L0s.n:=⟨Tryz.f11,(Tryz.f11.body).getD .skip,Tryz.func11,rfl,by kernel_rfl,by kernel_rfl,rfl⟩
theorem Q2g:Qb Tryz.prog 10 (L07.c 11 12) L07.r L07.n:=⟨Tryz.f10,(Tryz.f10.body).getD .skip,Tryz.func10,rfl,by kernel_rfl,by kernel_rfl,rfl⟩
theorem Q2a:Qb Tryz.prog 52 (L12.c 61) L12.r L12.n:=⟨Tryz.f52,(Tryz.f52.body).getD .skip,Tryz.func52,rfl,by kernel_rfl,by kernel_rfl,rfl⟩
theorem Q29:Qb Tryz.prog 44 L13.c L13.r L13.n:=⟨Tryz.f44,(Tryz.f44.body).getD .skip,Tryz.func44,rfl,by kernel_rfl,by kernel_rfl,rfl⟩
theorem Q28:Qb Tryz.prog 48 L14.c L14.r L14.n:=⟨Tryz.f48,(Tryz.f48.body).getD .skip,Tryz.func48,rfl,by kernel_rfl,by kernel_rfl,rfl⟩
theorem I0:Qb Tryz.prog 53 (L11.c 48) L11.r L11.n:=⟨Tryz.f53,(Tryz.f53.body).getD .skip,Tryz.func53,rfl,by kernel_rfl,by kernel_rfl,rfl⟩
theorem Q3z:Qb Tryz.prog 22 (L10.c 52 44 48 53 54) L10.r L10.n:=⟨Tryz.f22,(Tryz.f22.body).getD .skip,Tryz.func22,rfl,by kernel_rfl,by kernel_rfl,rfl⟩
theorem Ez:Qb Tryz.prog 108 (L1j.c 131) L1j.r L1j.n:=⟨Tryz.f108,(Tryz.f108.body).getD .skip,Tryz.func108,rfl,by kernel_rfl,by kernel_rfl,rfl⟩
theorem Qaq:Qb Tryz.prog 132 (L1l.c 131 103) L1l.r L1l.n:=⟨Tryz.f132,(Tryz.f132.body).getD .skip,Tryz.func132,rfl,by kernel_rfl,by kernel_rfl,rfl⟩
theorem Q2e:Qb Tryz.prog 89 (L0j.c 87) L0j.r L0j.n:=⟨Tryz.f89,(Tryz.f89.body).getD .skip,Tryz.func89,rfl,by kernel_rfl,by kernel_rfl,rfl⟩
theorem Q60:Qb Tryz.prog 88 (L0l.c 87 86) L0l.r L0l.n:=⟨Tryz.f88,(Tryz.f88.body).getD .skip,Tryz.func88,rfl,by kernel_rfl,by kernel_rfl,rfl⟩
theorem ok_law14_RepairRestores:Qb Tryz.prog 8 (L06.c 22 10 11 21) L06.r L06.n:=⟨Tryz.f8,(Tryz.f8.body).getD .skip,Tryz.func8,rfl,by kernel_rfl,by kernel_rfl,rfl⟩
end Go.Proofs.YtcdjgldeiaiaoaaGreat
