/- Texts that the law leans on. -/
import Derived.Test.YtejfkphoeffpeaaGreatDoorQQ6
import Derived.Test.YtejfkphoeffpeaaGreatDoorQQ3
import Derived.Test.YtejfkphoeffpeaaGreatDoorQQ4
import Derived.Deep.Slices
import GoSem.ClaimFn
import Derived.KernelRfl
import Derived.Test.YtejfkphoeffpeaaGreatDoorRows
import Derived.WalkKit
import Derived.ProofKit
import Derived.OpenShut
import Derived.ChangeOld
import Derived.Below
import GoSem.ClaimGoes
set_option linter.unusedVariables false
set_option linter.unusedSimpArgs false
section
namespace Go.Proofs.YtejfkphoeffpeaaGreatDoor
open Go Go.Eng Go.RowKit Go.Eng.Exe
noncomputable section
def qQ426:Mm:=(.nd (.nd (.nd (.nd .lf (some qQ31) .lf) none (.nd (.nd (.nd (.nd .lf (some qQ229) .lf) none .lf) none .lf) none (.nd .lf none (.nd (.nd .lf (some (.cells 224 qQ159)) .lf) none .lf)))) none (.nd (.nd (.nd (.nd (.nd .lf (some (.cells 464 qQ230)) .lf) none (.nd .lf (some (.row 5 1 1 [(sU 104)])) .lf)) none .lf) none .lf) (some qQ30) .lf)) none (.nd (.nd (.nd .lf (some qQ111) .lf) none (.nd (.nd (.nd .lf none (.nd .lf (some qQ213) .lf)) none .lf) none .lf)) none (.nd (.nd (.nd (.nd (.nd .lf (some (.row 5 1 0 [])) .lf) none (.nd .lf (some (.row 9 1 1 [qQ223])) .lf)) none .lf) none .lf) (some qQ30) (.nd .lf none (.nd .lf (some qQ162) .lf)))))
def qQ427:Mm:=(.nd (.nd (.nd (.nd (.nd qQ405 none qQ406) none (.nd qQ426 none qQ352)) (some (.cells 28 qQ3)) qQ409) (some (.row 53 16 1 (rp 1 qQ8 []))) (.nd qQ410 none (.nd qQ412 none (.nd qQ413 none qQ415)))) (some qQ9) (.nd qQ420 (some qQ9) (.nd (.nd (.nd (.nd qQ390 none (.nd (.nd .lf (some qQ9) .lf) (some qQ22) (.nd (.nd (.nd (.nd (.nd .lf (some (.cells 362 qQ246)) .lf) none .lf) none .lf) none .lf) (some qQ30) (.nd .lf none (.nd .lf (some qQ181) .lf))))) none qQ421) none (.nd qQ422 none (.nd qQ395 none qQ396))) none qQ424)))
def qQ428:SV:=.agg [(.own 3988),(sI 0),(sI 7),sY]
def qQ429:Mm:=(.nd (.nd (.nd .lf (some (.row 5 1 1 [(sU 24)])) .lf) none (.nd .lf none (.nd .lf none (.nd (.nd .lf (some qQ181) .lf) none (.nd .lf (some (.row 224 7 20 qQ304)) .lf))))) none (.nd (.nd (.nd (.nd (.nd .lf (some (.cells 25 [(.own 2124)])) .lf) none (.nd .lf (some (.row 5 1 1 [(sU 104)])) .lf)) none .lf) none .lf) (some (.cells 542 (rp 5 [sN] []))) (.nd .lf none (.nd .lf (some qQ167) (.nd .lf (some (.row 224 7 20 qQ137)) .lf)))))
def qQ430:Mm:=(.nd (.nd (.nd (.nd qQ405 none qQ406) none (.nd qQ426 none qQ352)) (some (.cells 28 qQ3)) qQ409) (some (.row 53 16 1 (rp 1 qQ8 []))) (.nd qQ410 none (.nd qQ412 none (.nd (.nd qQ429 none (.nd (.nd (.nd (.nd (.nd (.nd .lf (some qQ241) .lf) none .lf) none .lf) none .lf) (some qQ30) .lf) none (.nd (.nd (.nd (.nd (.nd .lf (some qQ235) .lf) none (.nd .lf (some (.cells 154 [(.own 3197)])) .lf)) none .lf) none .lf) (some (.cells 542 (rp 5 [sN] []))) (.nd .lf none (.nd .lf (some (.cells 224 qQ159)) .lf))))) none qQ415))))
def qQ431:LB:=(.row 209 1 2 [(.own 3981),(.own 3986)])
def qQ432:Mm:=(.nd (.nd .lf none (.nd (.nd (.nd .lf none (.nd .lf (some qQ236) .lf)) none .lf) none (.nd .lf none (.nd (.nd .lf (some (.cells 224 qQ159)) .lf) none (.nd .lf (some qQ431) .lf))))) none (.nd (.nd (.nd (.nd (.nd .lf (some (.row 9 1 1 [qQ223])) .lf) none (.nd .lf (some (.cells 76 qQ245)) .lf)) none .lf) none .lf) (some qQ30) (.nd .lf none (.nd .lf (some (.cells 224 qQ159)) (.nd .lf (some qQ217) .lf)))))
def qQ433:Mm:=(.nd (.nd qQ382 none (.nd (.nd .lf (some (.cells 35 [(sI 0)])) .lf) none (.nd (.nd (.nd (.nd (.nd .lf (some (.row 5 1 1 [(sU 105)])) .lf) none (.nd .lf (some (.row 5 1 1 [(sU 104)])) .lf)) none .lf) none .lf) (some qQ82) (.nd .lf none (.nd .lf (some qQ162) .lf))))) (some qQ9) (.nd qQ432 none (.nd (.nd (.nd (.nd (.nd (.nd .lf (some (.row 5 1 1 [(sU 104)])) .lf) none .lf) none .lf) none .lf) (some (.cells 542 (rp 5 [sN] []))) .lf) none (.nd (.nd (.nd (.nd .lf none (.nd .lf (some (.cells 362 qQ246)) .lf)) none .lf) none .lf) (some qQ94) (.nd .lf none (.nd .lf (some (.cells 224 qQ178)) .lf))))))
def qQ434:Mm:=(.nd (.nd (.nd .lf none (.nd .lf none (.nd .lf none (.nd (.nd .lf (some qQ162) .lf) none (.nd .lf (some (.row 224 7 20 qQ153)) .lf))))) none (.nd (.nd (.nd (.nd (.nd .lf (some (.row 5 1 1 [(sU 104)])) .lf) none (.nd .lf (some (.row 76 6 1 (rp 1 qQ224 []))) .lf)) none .lf) none .lf) (some (.cells 398 [(.mr 209)])) (.nd .lf none (.nd .lf (some qQ160) (.nd .lf (some (.row 224 7 20 qQ153)) .lf))))) none (.nd (.nd .lf (some qQ26) .lf) none (.nd (.nd (.nd (.nd (.nd .lf (some qQ278) .lf) none (.nd .lf (some (.row 5 1 1 [(sU 105)])) .lf)) none .lf) none .lf) (some qQ82) (.nd .lf none (.nd .lf (some (.cells 224 qQ159)) .lf)))))
def qQ435:Mm:=(.nd (.nd (.nd (.nd qQ376 (some qQ11) qQ416) none (.nd (.nd qQ378 none (.nd (.nd (.nd .lf (some qQ118) .lf) none .lf) (some qQ267) (.nd (.nd (.nd (.nd (.nd .lf (some (.row 76 6 1 (rp 1 qQ253 []))) .lf) none (.nd .lf (some (.row 9 1 0 [])) .lf)) none .lf) none .lf) (some qQ30) (.nd .lf none (.nd .lf (some (.cells 224 qQ159)) .lf))))) none qQ417)) none (.nd qQ433 none (.nd qQ418 none qQ419))) (some qQ9) (.nd (.nd (.nd (.nd qQ390 none (.nd (.nd .lf (some qQ9) .lf) (some qQ22) (.nd (.nd (.nd (.nd (.nd .lf (some (.cells 362 qQ246)) .lf) none .lf) none .lf) none .lf) (some qQ30) (.nd .lf none (.nd .lf (some qQ181) .lf))))) none qQ434) none (.nd qQ422 none (.nd qQ395 none qQ396))) none qQ424))
def tQ12:Exe.Told:=⟨[qQ212,(.lp 191 0),(sI 20),(sI 2)],3240,qQ427,(.tup [qQ428,(sI 0)]),3989,(.nd qQ430 (some qQ9) qQ435)⟩
def YQ12:XE:={ XX6 with prim:=(.node (.node (.node .nil 14 (pTold [tQ1]) .nil) 29 (pTold [tQ2]) (.node .nil 100 pStr .nil)) 160 pCc (.node (.node .nil 187 pRep .nil) 396 pJoin .nil)) }
end
end Go.Proofs.YtejfkphoeffpeaaGreatDoor
end
section
namespace Go.Proofs.YtejfkphoeffpeaaGreatDoor
open Go Go.Eng Go.RowKit Go.Eng.Exe
noncomputable section
theorem tQ12_run:ranAs YQ12 133 tQ12=true:=by kernel_rfl
end
end Go.Proofs.YtejfkphoeffpeaaGreatDoor
end
section
namespace Go.Proofs.YtejfkphoeffpeaaGreatDoor
open Go Go.Eng Go.RowKit Go.Eng.Exe
noncomputable section
def qQ436:LB:=(.cells 151 [(.own 3988),(sI 0),(sI 7),sY])
def qQ437:Mm:=(.nd (.nd (.nd (.nd .lf (some qQ31) .lf) none (.nd (.nd (.nd (.nd .lf (some qQ229) .lf) none .lf) none .lf) none (.nd .lf none (.nd (.nd .lf (some (.cells 224 qQ159)) .lf) none .lf)))) none (.nd (.nd (.nd (.nd (.nd .lf (some (.cells 464 qQ230)) .lf) none (.nd .lf (some (.row 5 1 1 [(sU 104)])) .lf)) none .lf) none .lf) (some qQ30) .lf)) none (.nd (.nd (.nd .lf (some qQ111) .lf) none (.nd (.nd (.nd .lf none (.nd .lf (some qQ436) .lf)) none .lf) none .lf)) none (.nd (.nd (.nd (.nd (.nd .lf (some (.row 5 1 0 [])) .lf) none (.nd .lf (some (.row 9 1 1 [qQ223])) .lf)) none .lf) none .lf) (some qQ30) (.nd .lf none (.nd .lf (some qQ162) .lf)))))
def qQ438:Mm:=(.nd (.nd (.nd .lf (some qQ118) .lf) none (.nd (.nd (.nd .lf none (.nd .lf (some (.row 5 1 1 [(sU 105)])) .lf)) none .lf) none (.nd .lf none (.nd (.nd .lf (some (.cells 224 qQ159)) .lf) none (.nd .lf (some qQ436) .lf))))) none (.nd (.nd (.nd (.nd (.nd .lf (some (.row 9 1 0 [])) .lf) none (.nd .lf (some (.cells 76 qQ245)) .lf)) none .lf) none .lf) (some qQ86) (.nd .lf none (.nd .lf (some (.cells 224 qQ159)) (.nd .lf (some qQ220) .lf)))))
def qQ439:Mm:=(.nd (.nd qQ411 none (.nd (.nd (.nd .lf (some qQ114) .lf) (some (.cells 177 [(.own 186)])) .lf) none (.nd (.nd (.nd (.nd (.nd .lf (some (.cells 362 qQ246)) .lf) none (.nd .lf (some (.row 5 1 1 [(sU 104)])) .lf)) none .lf) none .lf) (some qQ30) (.nd .lf none (.nd .lf (some qQ172) .lf))))) (some (.cells 28 qQ3)) (.nd qQ438 none (.nd (.nd (.nd (.nd (.nd (.nd .lf (some (.row 5 1 1 [(sU 104)])) .lf) none .lf) none .lf) none .lf) (some (.cells 542 (rp 5 [sN] []))) .lf) none (.nd (.nd (.nd (.nd (.nd .lf (some qQ258) .lf) none (.nd .lf (some (.cells 362 qQ246)) .lf)) none .lf) none (.nd .lf none (.nd (.nd .lf (some qQ294) .lf) none .lf))) (some qQ82) (.nd .lf none (.nd .lf (some (.cells 224 qQ165)) .lf))))))
def qQ440:Mm:=(.nd (.nd (.nd (.nd qQ405 none qQ406) none (.nd qQ437 none qQ352)) (some (.cells 28 qQ3)) qQ409) (some (.row 53 16 1 (rp 1 qQ8 []))) (.nd qQ410 none (.nd qQ439 none (.nd (.nd qQ429 none (.nd (.nd (.nd (.nd (.nd (.nd .lf (some qQ241) .lf) none .lf) none .lf) none .lf) (some qQ30) .lf) none (.nd (.nd (.nd (.nd (.nd .lf (some qQ235) .lf) none (.nd .lf (some (.cells 154 [(.own 3197)])) .lf)) none .lf) none .lf) (some (.cells 542 (rp 5 [sN] []))) (.nd .lf none (.nd .lf (some (.cells 224 qQ159)) .lf))))) none qQ415))))
def tQ13:Exe.Told:=⟨[(.lp 159 0),qQ428],3990,(.nd qQ440 (some qQ9) qQ435),sY,4075,(.nd qQ440 (some qQ9) qQ435)⟩
def XQ13:XE:={ XX6 with prim:=(.node (.node (.node (.node .nil 14 (pTold [tQ1]) .nil) 29 (pTold [tQ2]) .nil) 32 (pTold [tQ3,tQ6,tQ11]) (.node (.node .nil 70 (pTold [tQ8,tQ13]) .nil) 100 pStr .nil)) 133 (pTold [tQ4,tQ7,tQ9,tQ12]) (.node (.node (.node .nil 160 pCc .nil) 187 pRep .nil) 204 (pTold [tQ5,tQ10]) (.node .nil 396 pJoin .nil))) }
def YQ13:XE:={ XX6 with prim:=(.node (.node (.node .nil 14 (pTold [tQ1]) .nil) 29 (pTold [tQ2]) (.node .nil 100 pStr .nil)) 160 pCc (.node (.node .nil 187 pRep .nil) 396 pJoin .nil)) }
end
end Go.Proofs.YtejfkphoeffpeaaGreatDoor
end
section
namespace Go.Proofs.YtejfkphoeffpeaaGreatDoor
open Go Go.Eng Go.RowKit Go.Eng.Exe
noncomputable section
theorem tQ13_run:ranAs YQ13 70 tQ13=true:=by kernel_rfl
end
end Go.Proofs.YtejfkphoeffpeaaGreatDoor
end
section
namespace Go.Proofs.YtejfkphoeffpeaaGreatDoor
open Go Go.Eng Go.RowKit Go.Eng.Exe
noncomputable section
theorem tQ1_ran:Ran Tryz.prog 14 tQ1:=⟨XX6,xx6_ok,xx_prims,xx_bodies,tQ1_run⟩
theorem XQ1_ok:XOk Tryz.prog XQ1:=⟨xx6_ok.e,xx6_ok.z,xx6_ok.x⟩
theorem XQ1_prims:PrimsOk Tryz.prog XQ1:=fun f p hp=>(show TrAll XQ1.prim (fun f p=>PrimOk f p) from (tr_node (tr_node (tr_node tr_nil (told_ok (ran_cons tQ1_ran ran_nil)) tr_nil) pStr_ok tr_nil) pCc_ok (tr_node (tr_node tr_nil pRep_ok tr_nil) pJoin_ok tr_nil))) f p hp
theorem tQ2_ran:Ran Tryz.prog 29 tQ2:=⟨XQ1,XQ1_ok,XQ1_prims,xx_bodies,tQ2_run⟩
theorem XQ2_ok:XOk Tryz.prog XQ2:=⟨xx6_ok.e,xx6_ok.z,xx6_ok.x⟩
theorem XQ2_prims:PrimsOk Tryz.prog XQ2:=fun f p hp=>(show TrAll XQ2.prim (fun f p=>PrimOk f p) from (tr_node (tr_node (tr_node tr_nil (told_ok (ran_cons tQ1_ran ran_nil)) tr_nil) (told_ok (ran_cons tQ2_ran ran_nil)) (tr_node tr_nil pStr_ok tr_nil)) pCc_ok (tr_node (tr_node tr_nil pRep_ok tr_nil) pJoin_ok tr_nil))) f p hp
theorem tQ3_ran:Ran Tryz.prog 32 tQ3:=⟨XQ2,XQ2_ok,XQ2_prims,xx_bodies,tQ3_run⟩
theorem YQ4_ok:XOk Tryz.prog YQ4:=⟨xx6_ok.e,xx6_ok.z,xx6_ok.x⟩
theorem YQ4_prims:PrimsOk Tryz.prog YQ4:=fun f p hp=>(show TrAll YQ4.prim (fun f p=>PrimOk f p) from (tr_node (tr_node (tr_node tr_nil (told_ok (ran_cons tQ1_ran ran_nil)) tr_nil) (told_ok (ran_cons tQ2_ran ran_nil)) (tr_node tr_nil pStr_ok tr_nil)) pCc_ok (tr_node (tr_node tr_nil pRep_ok tr_nil) pJoin_ok tr_nil))) f p hp
theorem tQ4_ran:Ran Tryz.prog 133 tQ4:=⟨YQ4,YQ4_ok,YQ4_prims,xx_bodies,tQ4_run⟩
theorem YQ5_ok:XOk Tryz.prog YQ5:=⟨xx6_ok.e,xx6_ok.z,xx6_ok.x⟩
theorem YQ5_prims:PrimsOk Tryz.prog YQ5:=fun f p hp=>(show TrAll YQ5.prim (fun f p=>PrimOk f p) from (tr_node (tr_node (tr_node tr_nil (told_ok (ran_cons tQ1_ran ran_nil)) tr_nil) (told_ok (ran_cons tQ2_ran ran_nil)) (tr_node tr_nil pStr_ok tr_nil)) pCc_ok (tr_node (tr_node tr_nil pRep_ok tr_nil) pJoin_ok tr_nil))) f p hp
theorem tQ5_ran:Ran Tryz.prog 204 tQ5:=⟨YQ5,YQ5_ok,YQ5_prims,xx_bodies,tQ5_run⟩
theorem YQ6_ok:XOk Tryz.prog YQ6:=⟨xx6_ok.e,xx6_ok.z,xx6_ok.x⟩
theorem YQ6_prims:PrimsOk Tryz.prog YQ6:=fun f p hp=>(show TrAll YQ6.prim (fun f p=>PrimOk f p) from (tr_node (tr_node (tr_node tr_nil (told_ok (ran_cons tQ1_ran ran_nil)) tr_nil) (told_ok (ran_cons tQ2_ran ran_nil)) (tr_node tr_nil pStr_ok tr_nil)) pCc_ok (tr_node (tr_node tr_nil pRep_ok tr_nil) pJoin_ok tr_nil))) f p hp
theorem tQ6_ran:Ran Tryz.prog 32 tQ6:=⟨YQ6,YQ6_ok,YQ6_prims,xx_bodies,tQ6_run⟩
theorem YQ7_ok:XOk Tryz.prog YQ7:=⟨xx6_ok.e,xx6_ok.z,xx6_ok.x⟩
theorem YQ7_prims:PrimsOk Tryz.prog YQ7:=fun f p hp=>(show TrAll YQ7.prim (fun f p=>PrimOk f p) from (tr_node (tr_node (tr_node tr_nil (told_ok (ran_cons tQ1_ran ran_nil)) tr_nil) (told_ok (ran_cons tQ2_ran ran_nil)) (tr_node tr_nil pStr_ok tr_nil)) pCc_ok (tr_node (tr_node tr_nil pRep_ok tr_nil) pJoin_ok tr_nil))) f p hp
theorem tQ7_ran:Ran Tryz.prog 133 tQ7:=⟨YQ7,YQ7_ok,YQ7_prims,xx_bodies,tQ7_run⟩
theorem YQ8_ok:XOk Tryz.prog YQ8:=⟨xx6_ok.e,xx6_ok.z,xx6_ok.x⟩
theorem YQ8_prims:PrimsOk Tryz.prog YQ8:=fun f p hp=>(show TrAll YQ8.prim (fun f p=>PrimOk f p) from (tr_node (tr_node (tr_node tr_nil (told_ok (ran_cons tQ1_ran ran_nil)) tr_nil) (told_ok (ran_cons tQ2_ran ran_nil)) (tr_node tr_nil pStr_ok tr_nil)) pCc_ok (tr_node (tr_node tr_nil pRep_ok tr_nil) pJoin_ok tr_nil))) f p hp
theorem tQ8_ran:Ran Tryz.prog 70 tQ8:=⟨YQ8,YQ8_ok,YQ8_prims,xx_bodies,tQ8_run⟩
theorem YQ9_ok:XOk Tryz.prog YQ9:=⟨xx6_ok.e,xx6_ok.z,xx6_ok.x⟩
theorem YQ9_prims:PrimsOk Tryz.prog YQ9:=fun f p hp=>(show TrAll YQ9.prim (fun f p=>PrimOk f p) from (tr_node (tr_node (tr_node tr_nil (told_ok (ran_cons tQ1_ran ran_nil)) tr_nil) (told_ok (ran_cons tQ2_ran ran_nil)) (tr_node tr_nil pStr_ok tr_nil)) pCc_ok (tr_node (tr_node tr_nil pRep_ok tr_nil) pJoin_ok tr_nil))) f p hp
theorem tQ9_ran:Ran Tryz.prog 133 tQ9:=⟨YQ9,YQ9_ok,YQ9_prims,xx_bodies,tQ9_run⟩
theorem YQ10_ok:XOk Tryz.prog YQ10:=⟨xx6_ok.e,xx6_ok.z,xx6_ok.x⟩
theorem YQ10_prims:PrimsOk Tryz.prog YQ10:=fun f p hp=>(show TrAll YQ10.prim (fun f p=>PrimOk f p) from (tr_node (tr_node (tr_node tr_nil (told_ok (ran_cons tQ1_ran ran_nil)) tr_nil) (told_ok (ran_cons tQ2_ran ran_nil)) (tr_node tr_nil pStr_ok tr_nil)) pCc_ok (tr_node (tr_node tr_nil pRep_ok tr_nil) pJoin_ok tr_nil))) f p hp
theorem tQ10_ran:Ran Tryz.prog 204 tQ10:=⟨YQ10,YQ10_ok,YQ10_prims,xx_bodies,tQ10_run⟩
theorem YQ11_ok:XOk Tryz.prog YQ11:=⟨xx6_ok.e,xx6_ok.z,xx6_ok.x⟩
theorem YQ11_prims:PrimsOk Tryz.prog YQ11:=fun f p hp=>(show TrAll YQ11.prim (fun f p=>PrimOk f p) from (tr_node (tr_node (tr_node tr_nil (told_ok (ran_cons tQ1_ran ran_nil)) tr_nil) (told_ok (ran_cons tQ2_ran ran_nil)) (tr_node tr_nil pStr_ok tr_nil)) pCc_ok (tr_node (tr_node tr_nil pRep_ok tr_nil) pJoin_ok tr_nil))) f p hp
theorem tQ11_ran:Ran Tryz.prog 32 tQ11:=⟨YQ11,YQ11_ok,YQ11_prims,xx_bodies,tQ11_run⟩
theorem YQ12_ok:XOk Tryz.prog YQ12:=⟨xx6_ok.e,xx6_ok.z,xx6_ok.x⟩
theorem YQ12_prims:PrimsOk Tryz.prog YQ12:=fun f p hp=>(show TrAll YQ12.prim (fun f p=>PrimOk f p) from (tr_node (tr_node (tr_node tr_nil (told_ok (ran_cons tQ1_ran ran_nil)) tr_nil) (told_ok (ran_cons tQ2_ran ran_nil)) (tr_node tr_nil pStr_ok tr_nil)) pCc_ok (tr_node (tr_node tr_nil pRep_ok tr_nil) pJoin_ok tr_nil))) f p hp
theorem tQ12_ran:Ran Tryz.prog 133 tQ12:=⟨YQ12,YQ12_ok,YQ12_prims,xx_bodies,tQ12_run⟩
theorem YQ13_ok:XOk Tryz.prog YQ13:=⟨xx6_ok.e,xx6_ok.z,xx6_ok.x⟩
theorem YQ13_prims:PrimsOk Tryz.prog YQ13:=fun f p hp=>(show TrAll YQ13.prim (fun f p=>PrimOk f p) from (tr_node (tr_node (tr_node tr_nil (told_ok (ran_cons tQ1_ran ran_nil)) tr_nil) (told_ok (ran_cons tQ2_ran ran_nil)) (tr_node tr_nil pStr_ok tr_nil)) pCc_ok (tr_node (tr_node tr_nil pRep_ok tr_nil) pJoin_ok tr_nil))) f p hp
theorem tQ13_ran:Ran Tryz.prog 70 tQ13:=⟨YQ13,YQ13_ok,YQ13_prims,xx_bodies,tQ13_run⟩
theorem XQ13_ok:XOk Tryz.prog XQ13:=⟨xx6_ok.e,xx6_ok.z,xx6_ok.x⟩
theorem XQ13_prims:PrimsOk Tryz.prog XQ13:=fun f p hp=>(show TrAll XQ13.prim (fun f p=>PrimOk f p) from (tr_node (tr_node (tr_node (tr_node tr_nil (told_ok (ran_cons tQ1_ran ran_nil)) tr_nil) (told_ok (ran_cons tQ2_ran ran_nil)) tr_nil) (told_ok (ran_cons tQ3_ran (ran_cons tQ6_ran (ran_cons tQ11_ran ran_nil)))) (tr_node (tr_node tr_nil (told_ok (ran_cons tQ8_ran (ran_cons tQ13_ran ran_nil))) tr_nil) pStr_ok tr_nil)) (told_ok (ran_cons tQ4_ran (ran_cons tQ7_ran (ran_cons tQ9_ran (ran_cons tQ12_ran ran_nil))))) (tr_node (tr_node (tr_node tr_nil pCc_ok tr_nil) pRep_ok tr_nil) (told_ok (ran_cons tQ5_ran (ran_cons tQ10_ran ran_nil))) (tr_node tr_nil pJoin_ok tr_nil)))) f p hp
end
end Go.Proofs.YtejfkphoeffpeaaGreatDoor
end
section
namespace Go.Proofs.YtejfkphoeffpeaaGreatDoor
open Go Go.Eng Go.RowKit Go.Eng.Exe
noncomputable section
theorem run6:isTrue (run1 XQ13 1000 40 6 [] 0 .lf)=true:=by kernel_rfl
theorem aw6:(∀args w,(callFunc 6 args).run Tryz.prog w=.ok (.enter 6 args) w)∧∀w,Calls Tryz.prog 6 #[] w fun e w'=>e=.returned (.bool true)∧Below w.heap.size w w':=
 closed_true XQ13_ok XQ13_prims xx_bodies (fast_true run6)
end
end Go.Proofs.YtejfkphoeffpeaaGreatDoor
end
section
namespace Go.Proofs.YtejfkphoeffpeaaGreatDoor
open Go Go.Eng Go.RowKit Go.Eng.Exe
noncomputable def g6:Option Bool:=some true
noncomputable def k6:Eng.CS:={ f:=6,calm:=true,more:=0,ι:=Bool,ok:=fun i=>g6=some i,rds:=fun _=>[],args:=fun i=>[],res:=fun i=>bS i }
theorem k6_ok:CalmOk Tryz.prog k6:=by
 refine ⟨fun args w=>aw6.1 args w,?_⟩
 rintro w q S r vs hok _ hm hargs
 have hr:true=r:=Option.some.inj (show some true=some r from hok)
 subst hr
 match vs,hargs with
 | [],_=>exact aw6.2 w
end Go.Proofs.YtejfkphoeffpeaaGreatDoor
end
section
set_option maxRecDepth 8000
set_option maxHeartbeats 4000000
namespace Go.Proofs.YtejfkphoeffpeaaGreatDoor
open Go Go.Eng
theorem mo1Q3 {p q:Prop} (k:q) (h:p:=by first | exact rfl | exact Iff.rfl | exact ⟨rfl,rfl⟩ | exact decide_eq_true_iff | (constructor<;>first | exact rfl | (simp only [ei,eb,es,ec,c28,c51,gmin,gmax,List.map_append,List.flatMap_append,List.nil_append,List.append_nil,List.append_assoc];done) | omega | (simp only [List.nil_append,List.length_append,List.length_cons,List.length_nil];omega) | (simp [ei,eb,es,ec,c28,c51,gmin,gmax];done)) | exact rfl | (simp only [ei,eb,es,ec,c28,c51,gmin,gmax,List.map_append,List.flatMap_append,List.nil_append,List.append_nil,List.append_assoc];done) | omega | (simp only [List.nil_append,List.length_append,List.length_cons,List.length_nil];omega) | (simp [ei,eb,es,ec,c28,c51,gmin,gmax];done) | simp [ei,eb,es,ec,c28,c51,gmin,gmax]):Ob p∧q:=⟨⟨h⟩,k⟩
noncomputable def g3 (a0:(Int×Int×Int×Int×List Int×Int×List (ByteArray×Int×Bool×((Option Addr×Nat)×List Int)×Nat)×List Int×List ByteArray×Int×Int)):Option (Bool):=
 if 30<((a0.2.2.2.2.2.2.2.2.1.length:Nat):Int) then
  (
   ck (0≤(0:Int)∧(0:Int)≤(30:Int)∧(30:Int)≤((a0.2.2.2.2.2.2.2.2.1.length:Nat):Int)) <|
   (g4 (a0.1,a0.2.1,a0.2.2.1,a0.2.2.2.1,a0.2.2.2.2.1,a0.2.2.2.2.2.1,a0.2.2.2.2.2.2.1,a0.2.2.2.2.2.2.2.1,((a0.2.2.2.2.2.2.2.2.1.drop (0:Int).toNat).take ((30:Int).toNat-(0:Int).toNat)),a0.2.2.2.2.2.2.2.2.2.1,a0.2.2.2.2.2.2.2.2.2.2)).bind fun v11=>
   (g5 (a0.1,a0.2.1,a0.2.2.1,a0.2.2.2.1,a0.2.2.2.2.1,a0.2.2.2.2.2.1,a0.2.2.2.2.2.2.1,a0.2.2.2.2.2.2.2.1,((a0.2.2.2.2.2.2.2.2.1.drop (0:Int).toNat).take ((30:Int).toNat-(0:Int).toNat)),a0.2.2.2.2.2.2.2.2.2.1,a0.2.2.2.2.2.2.2.2.2.2)).bind fun v18=>
   if v11.data.toList=v18.data.toList then
    (
     (g6).bind fun v26=>
     some v26
    )
   else
    some false
  )
 else
  (
   (g4 (a0.1,a0.2.1,a0.2.2.1,a0.2.2.2.1,a0.2.2.2.2.1,a0.2.2.2.2.2.1,a0.2.2.2.2.2.2.1,a0.2.2.2.2.2.2.2.1,a0.2.2.2.2.2.2.2.2.1,a0.2.2.2.2.2.2.2.2.2.1,a0.2.2.2.2.2.2.2.2.2.2)).bind fun v28=>
   (g5 (a0.1,a0.2.1,a0.2.2.1,a0.2.2.2.1,a0.2.2.2.2.1,a0.2.2.2.2.2.1,a0.2.2.2.2.2.2.1,a0.2.2.2.2.2.2.2.1,a0.2.2.2.2.2.2.2.2.1,a0.2.2.2.2.2.2.2.2.2.1,a0.2.2.2.2.2.2.2.2.2.2)).bind fun v35=>
   if v28.data.toList=v35.data.toList then
    (
     (g6).bind fun v43=>
     some v43
    )
   else
    some false
  )
noncomputable def k3:Eng.CS:={ f:=3,calm:=false,more:=0,ι:=(Int×Int×Int×Int×List Int×Int×List (ByteArray×Int×Bool×((Option Addr×Nat)×List Int)×Nat)×List Int×List ByteArray×Int×Int)×Bool×((Option Addr×Nat)×(Option Addr×Nat)×(Option Addr×Nat)×(Option Addr×Nat)),ok:=fun i=>g3 i.1=some i.2.1∧i.1.2.2.2.2.1.length≤i.2.2.1.2∧i.1.2.2.2.2.2.2.1.length≤i.2.2.2.1.2∧i.1.2.2.2.2.2.2.2.1.length≤i.2.2.2.2.1.2∧i.1.2.2.2.2.2.2.2.2.1.length≤i.2.2.2.2.2.2,rds:=fun i=>[(i.2.2.1.1,ei .i64 i.1.2.2.2.2.1),(i.2.2.2.1.1,ec c51 i.1.2.2.2.2.2.2.1),(i.2.2.2.2.1.1,ei .u8 i.1.2.2.2.2.2.2.2.1),(i.2.2.2.2.2.1,es i.1.2.2.2.2.2.2.2.2.1)],args:=fun i=>[.w (.agg [.v (.int .i64 (i.1.1)),.v (.int .i64 (i.1.2.1)),.v (.int .i64 (i.1.2.2.1)),.v (.int .i64 (i.1.2.2.2.1)),.v (.slice i.2.2.1.1 i.1.2.2.2.2.1.length i.2.2.1.2),.v (.int .i64 (i.1.2.2.2.2.2.1)),.v (.slice i.2.2.2.1.1 i.1.2.2.2.2.2.2.1.length i.2.2.2.1.2),.v (.slice i.2.2.2.2.1.1 i.1.2.2.2.2.2.2.2.1.length i.2.2.2.2.1.2),.v (.slice i.2.2.2.2.2.1 i.1.2.2.2.2.2.2.2.2.1.length i.2.2.2.2.2.2),.v (.int .i64 (i.1.2.2.2.2.2.2.2.2.2.1)),.v (.int .i64 (i.1.2.2.2.2.2.2.2.2.2.2))])],res:=fun _=>.bad,rn:=[],gr:=true,γ:=Unit,resG:=fun i _=>bS i.2.1,LG:=fun i _=>[],okG:=fun i _=>True,rdsG:=fun i _=>[],fzr:=[] }
theorem k3_ok:CSOk Tryz.prog k3:=by
 refine R.cspecG Tryz.func3 (nq9 Tryz.func3) rfl rfl (fun _=>rfl) ?_
 rintro ⟨a0,r,⟨⟨A0_4,cp0_4⟩,⟨A0_6,cp0_6⟩,⟨A0_7,cp0_7⟩,⟨A0_8,cp0_8⟩⟩⟩ ⟨hok,hc0_4,hc0_6,hc0_7,hc0_8⟩ q hrds args hargs
 obtain ⟨hR0_4,hR0_6,hR0_7,hR0_8,_⟩:=hrds
 dsimp only at hR0_4 hc0_4 hR0_6 hc0_6 hR0_7 hc0_7 hR0_8 hc0_8
 dsimp only [k3] at hargs ⊢
 match args,hargs with
 | [_],hargs=>
 obtain ⟨rfl,_⟩:=hargs
 refine ⟨envC [k4,k5,k6] false [],6,envC_ok (css_cons ⟨nofun,fun _=>k4_ok⟩ (css_cons ⟨nofun,fun _=>k5_ok⟩ (css_cons ⟨fun _=>k6_ok,nofun⟩ (css_nil)))),?_⟩
 have H:Gives (g3 a0) (fun a=>a=r):=⟨r,hok,rfl⟩
 unfold g3 at H
 clear hok
 refine if_st H ?_ ?_<;>intro h6 H
 ·refine ob_sl hc0_8 H fun h7 H=>?_
  have hs8:=sl_es hR0_8 rfl hc0_8 h7
  intro n9 hn10
  obtain rfl:n9=((a0.2.2.2.2.2.2.2.2.1.drop (0:Int).toNat).take ((30:Int).toNat-(0:Int).toNat)).length:=hn10.trans hs8.2.1.symm
  refine And.intro ⟨by kernel_rfl⟩ ?_
  refine ⟨(Pn.calm 0 (Pn.calm 2 (Pn.eff 1 [0] (Pn.eff 3 [2,1,0] (Pn.calm 4 (Pn.calm 5 (Pn.calm 6 (Pn.calm 7 (Pn.calm 8 Pn.done))))) Pn.no) Pn.no))),⟨by kernel_rfl⟩,?_⟩
  refine And.intro ?_ trivial
  obtain ⟨v11,hv12,H⟩:=call_st H
  refine ⟨((a0.1,a0.2.1,a0.2.2.1,a0.2.2.2.1,a0.2.2.2.2.1,a0.2.2.2.2.2.1,a0.2.2.2.2.2.2.1,a0.2.2.2.2.2.2.2.1,((a0.2.2.2.2.2.2.2.2.1.drop (0:Int).toNat).take ((30:Int).toNat-(0:Int).toNat)),a0.2.2.2.2.2.2.2.2.2.1,a0.2.2.2.2.2.2.2.2.2.2),v11,((A0_4,cp0_4),(A0_6,cp0_6),(A0_7,cp0_7),(if cp0_8=(0:Int).toNat then A0_8 else A0_8.map (·.add ((0:Int).toNat)),cp0_8-(0:Int).toNat))),⟨hv12,hc0_4,hc0_6,hc0_7,(Nat.le_trans (Nat.le_of_eq hs8.2.1) hs8.2.2)⟩,⟨⟨hR0_4,hR0_6,hR0_7,hs8.1,trivial⟩⟩,?_⟩
  iterate 11 refine ⟨⟨rfl⟩,?_⟩
  intro q13 g14 hq15 hok16 hrd17
  refine And.intro ⟨fun _ _ _ h=>(hq15 _ _ _ h)⟩ ?_
  refine And.intro ?_ trivial
  obtain ⟨v18,hv19,H⟩:=call_st H
  refine ⟨((a0.1,a0.2.1,a0.2.2.1,a0.2.2.2.1,a0.2.2.2.2.1,a0.2.2.2.2.2.1,a0.2.2.2.2.2.2.1,a0.2.2.2.2.2.2.2.1,((a0.2.2.2.2.2.2.2.2.1.drop (0:Int).toNat).take ((30:Int).toNat-(0:Int).toNat)),a0.2.2.2.2.2.2.2.2.2.1,a0.2.2.2.2.2.2.2.2.2.2),v18,((A0_4,cp0_4),(A0_6,cp0_6),(A0_7,cp0_7),(if cp0_8=(0:Int).toNat then A0_8 else A0_8.map (·.add ((0:Int).toNat)),cp0_8-(0:Int).toNat))),⟨hv19,hc0_4,hc0_6,hc0_7,(Nat.le_trans (Nat.le_of_eq hs8.2.1) hs8.2.2)⟩,⟨⟨(Reads.mono hq15 hR0_4),(Reads.mono hq15 hR0_6),(Reads.mono hq15 hR0_7),(Reads.mono hq15 hs8.1),trivial⟩⟩,?_⟩
  iterate 11 refine ⟨⟨rfl⟩,?_⟩
  intro q20 g21 hq22 hok23 hrd24
  refine And.intro ⟨fun _ _ _ h=>(hq22 _ _ _ h)⟩ ?_
  refine if_st H ?_ ?_<;>intro h25 H
  ·obtain ⟨v26,hv27,H⟩:=call_st H
   refine ⟨v26,⟨hv27⟩,⟨trivial⟩,?_⟩
   have hfin:=fin_st H
   first | subst hfin | rw [←hfin]
   refine ⟨(),⟨trivial⟩,⟨trivial⟩,?_⟩
   repeat refine mo1Q3 ?_
   trivial
  ·have hfin:=fin_st H
   first | subst hfin | rw [←hfin]
   refine ⟨(),⟨trivial⟩,⟨trivial⟩,?_⟩
   repeat refine mo1Q3 ?_
   trivial
 ·refine And.intro ⟨by kernel_rfl⟩ ?_
  refine ⟨(Pn.calm 0 (Pn.calm 2 (Pn.eff 1 [0] (Pn.eff 3 [2,1,0] (Pn.calm 4 (Pn.calm 5 (Pn.calm 6 (Pn.calm 7 (Pn.calm 8 Pn.done))))) Pn.no) Pn.no))),⟨by kernel_rfl⟩,?_⟩
  refine And.intro ?_ trivial
  obtain ⟨v28,hv29,H⟩:=call_st H
  refine ⟨((a0.1,a0.2.1,a0.2.2.1,a0.2.2.2.1,a0.2.2.2.2.1,a0.2.2.2.2.2.1,a0.2.2.2.2.2.2.1,a0.2.2.2.2.2.2.2.1,a0.2.2.2.2.2.2.2.2.1,a0.2.2.2.2.2.2.2.2.2.1,a0.2.2.2.2.2.2.2.2.2.2),v28,((A0_4,cp0_4),(A0_6,cp0_6),(A0_7,cp0_7),(A0_8,cp0_8))),⟨hv29,hc0_4,hc0_6,hc0_7,hc0_8⟩,⟨⟨hR0_4,hR0_6,hR0_7,hR0_8,trivial⟩⟩,?_⟩
  iterate 11 refine ⟨⟨rfl⟩,?_⟩
  intro q30 g31 hq32 hok33 hrd34
  refine And.intro ⟨fun _ _ _ h=>(hq32 _ _ _ h)⟩ ?_
  refine And.intro ?_ trivial
  obtain ⟨v35,hv36,H⟩:=call_st H
  refine ⟨((a0.1,a0.2.1,a0.2.2.1,a0.2.2.2.1,a0.2.2.2.2.1,a0.2.2.2.2.2.1,a0.2.2.2.2.2.2.1,a0.2.2.2.2.2.2.2.1,a0.2.2.2.2.2.2.2.2.1,a0.2.2.2.2.2.2.2.2.2.1,a0.2.2.2.2.2.2.2.2.2.2),v35,((A0_4,cp0_4),(A0_6,cp0_6),(A0_7,cp0_7),(A0_8,cp0_8))),⟨hv36,hc0_4,hc0_6,hc0_7,hc0_8⟩,⟨⟨(Reads.mono hq32 hR0_4),(Reads.mono hq32 hR0_6),(Reads.mono hq32 hR0_7),(Reads.mono hq32 hR0_8),trivial⟩⟩,?_⟩
  iterate 11 refine ⟨⟨rfl⟩,?_⟩
  intro q37 g38 hq39 hok40 hrd41
  refine And.intro ⟨fun _ _ _ h=>(hq39 _ _ _ h)⟩ ?_
  refine if_st H ?_ ?_<;>intro h42 H
  ·obtain ⟨v43,hv44,H⟩:=call_st H
   refine ⟨v43,⟨hv44⟩,⟨trivial⟩,?_⟩
   have hfin:=fin_st H
   first | subst hfin | rw [←hfin]
   refine ⟨(),⟨trivial⟩,⟨trivial⟩,?_⟩
   repeat refine mo1Q3 ?_
   trivial
  ·have hfin:=fin_st H
   first | subst hfin | rw [←hfin]
   refine ⟨(),⟨trivial⟩,⟨trivial⟩,?_⟩
   repeat refine mo1Q3 ?_
   trivial
end Go.Proofs.YtejfkphoeffpeaaGreatDoor
end
section
namespace Go.Eng
open Go
theorem weightsAll_mem {H:Type} {P:Program} {e:TypeId}:∀{l:List (DataW H)} {d:DataW H},d∈l→∀n∈d.weights P e,n∈DataW.weightsAll P e l
 | a::l,d,h,n,hn=>by
  simp only [DataW.weightsAll,List.mem_append]
  rcases List.mem_cons.1 h with rfl | h
  ·exact Or.inl hn
  ·exact Or.inr (weightsAll_mem h n hn)
theorem lines_small {H:Type} {enc:TypeId×Value→H} {P:Program} {w:World} {sp:Nat→Bool} {held:Bool} {t e:TypeId} {A:Option Addr} {len cap fuel:Nat} {x:DataW H×List MemPlace} {l:List ByteArray} {R:ByteArray→Prop}
  (ht:P.underlying t=some (.slice e)) (hse:P.underlying e=some .string) (hC:P.cellsOf e=1) (h:DataW.trod enc P w 0 sp held fuel t [.slice A len cap]=some x) (hs:SlIn (fun a:ByteArray=>[Value.string a]) R w A len cap l) (hw:(DataW.weights P t x.1).all (·≤reachBytes)=true):∀s∈l,s.size≤140737488355328:=by
 intro s hsm
 obtain ⟨i,hi,rfl⟩:=List.getElem_of_mem hsm
 obtain ⟨e1,h2,h3,_⟩:=hs
 rcases Go.Deep.open_slice1 ht hC h with ⟨h0,_⟩ | ⟨a,len',cap',m,n,V,D,Pl,hcs,hb,hl,hm,hmm,hx,hv⟩
 ·simp only [List.cons.injEq,Value.slice.injEq,and_true] at h0
  obtain ⟨rfl,rfl,rfl⟩:=h0
  omega
 ·simp only [List.cons.injEq,Value.slice.injEq,and_true] at hcs
  obtain ⟨rfl,rfl,rfl⟩:=hcs
  have hml:len≤m:=by rw [hmm];split<;>omega
  obtain ⟨hc,htr⟩:=hv i (by omega)
  obtain ⟨x',hx',hsp,_,hcell⟩:=h3 i (.string l[i]) (by rw [ecS];simp [es,hi])
  obtain rfl:a=x':=by injection hx'
  have hVi:V i=.string l[i]:=by rw [add_off hsp,hcell] at hc;injection hc with hc;exact hc.symm
  rw [hVi] at htr
  obtain ⟨u,eu,gu,_⟩:=DataW.trod_string hse htr
  have hu:u=l[i]:=by injection eu with e;injection e with e;exact e.symm
  subst hu
  rw [List.all_eq_true] at hw
  have hb:=hw (l[i].data.toList.length) (by
   rw [hx]
   unfold DataW.weights
   rw [ht]
   refine List.mem_cons_of_mem _ (List.mem_append_left _ (weightsAll_mem (d:=D i) (List.mem_map.2 ⟨i,List.mem_range.2 (by omega),rfl⟩) _ ?_))
   rw [show D i=.lit (.string l[i].data.toList) from congrArg Prod.fst gu]
   simp [DataW.weights])
  have hb:=of_decide_eq_true hb
  rw [show l[i].size=l[i].data.toList.length from (Array.length_toList).symm]
  exact Nat.le_trans hb (by decide)
theorem slice_len {H:Type} {enc:TypeId×Value→H} {P:Program} {w:World} {sp:Nat→Bool} {held:Bool} {t e:TypeId} {A:Option Addr} {len cap fuel:Nat} {x:DataW H×List MemPlace}
  (ht:P.underlying t=some (.slice e)) (h:DataW.trod enc P w 0 sp held fuel t [.slice A len cap]=some x):len≤maxLen:=by
 rcases Go.Deep.open_slice ht h with ⟨h0,_⟩ | ⟨a,len',cap',m,n,D,Pl,hcs,hb,hl,hm,_⟩
 ·simp only [List.cons.injEq,Value.slice.injEq,and_true] at h0
  obtain ⟨_,rfl,_⟩:=h0
  exact Nat.zero_le _
 ·simp only [List.cons.injEq,Value.slice.injEq,and_true] at hcs
  obtain ⟨_,rfl,rfl⟩:=hcs
  exact Nat.le_trans hl hm
end Go.Eng
end
section
namespace Go.Proofs.YtejfkphoeffpeaaGreatDoor
open Go
def clS (lt:Nat→List Nat):Nat→List Nat→List Nat→Nat→List Nat
 | 0,_,seen,_=>seen.reverse
 | _+1,[],seen,_=>seen.reverse
 | n+1,f::todo,seen,m=>bif m.testBit f then clS lt n todo seen m else clS lt n (lt f++todo) (f::seen) (m ||| 1 <<< f)
theorem clS_eq {P:Program} {lt:Nat→List Nat} (h:∀f:Nat,(P.funcs[f]?).elim [] P.leadsTo=lt f):∀(n:Nat) (todo seen:List Nat) (m:Nat),(∀i,m.testBit i=seen.contains i)→P.closureVia n todo seen=clS lt n todo seen m
 | 0,_,_,_,_=>by simp [Program.closureVia,clS]
 | n+1,[],_,_,_=>by simp [Program.closureVia,clS]
 | n+1,f::todo,seen,m,hm=>by
  unfold Program.closureVia clS
  rw [hm f]
  cases hc:seen.contains f with
  | true=>rw [if_pos rfl,cond_true];exact clS_eq h n todo seen m hm
  | false=>
   rw [if_neg (by simp),cond_false,h f]
   refine clS_eq h n _ _ _ fun i=>?_
   rw [Nat.testBit_or,hm i,List.contains_cons,Nat.one_shiftLeft,Nat.testBit_two_pow,Bool.or_comm]
   congr 1
   rw [Bool.eq_iff_iff,decide_eq_true_eq,beq_iff_eq]
   exact eq_comm
def ld0:List (List Nat):=[[],[],[1],[4,5,6],[7,8,9,9],[10,10,10,10,10,11,10,10],[13,12],[9],[],[],[],[],[14,15],[],[16,16,17],[18,19,20],[21],[23,24,25,26,27,28],[29,30,31,32,33,34,35,32,36],[37,38,39,32,36],[33,34,40,41,42,43,44],[22],[45],[46],[23,47,47],[],[22,22],[48,48,48,48,48,49,50],[51,52,53],[54,55,56,57,58],[59],[56,60,61,58],[62,63,64,65],[62],[62],[66,67,68],[69,69,40,71,70],[66,72,73,75,74,75,74,76,77,78,79,68,80],[81,82,60,83,75,84,75,84,76,82],[62,85,86],[66,87],[66,87,88],[66,89],[90,91],[62],[92],[93],[],[94],[95,97,96],[98,99,99,99,97,99,99,99,99,95,99,100],[101,102,103],[104,105],[106,107,108,109],[110,110,111,112,113,114,115],[116],[54,117,118,119,120],[],[],[121,122],[],[57],[],[]]
def ld1:List (List Nat):=[[123,124,125,126],[],[],[127,128,129,130,131],[132,133,134],[81,87],[135,90,44,136,137,138,139],[82,140,133],[],[141,74,78,89],[142],[],[143],[127,116,144,129,130,128],[87],[146,145],[],[],[81,87],[141,84,82,89],[142],[147,121,122,149,148],[150],[143],[143,151,152,153],[],[62,150],[62,154],[],[45,155,45,156,155,157],[158],[],[],[],[159],[160],[],[104,161],[],[],[125,162],[163],[109],[],[],[164],[],[165],[166],[167,168,115,114,115],[169],[170,171],[],[172,57,172,152],[],[173,174,175],[151],[],[176],[177],[150,178],[179],[180,181,182,162,183],[]]
def ld2:List (List Nat):=[[185,184],[185,186,187,188],[189],[189],[127,185],[190,191,192,194,193,195,197,196,199,193,200,198,201,87,202,203],[127,135,185,204,205],[206],[62,207],[62],[62],[62],[81],[208,209],[143,118,210,210,211,212],[],[188],[127,185,144,186,213,130,131],[66,87,132,214],[],[122,176],[],[147],[215],[],[216,217],[207],[],[],[218],[],[],[219],[220],[221,222,222,222,222,222,222],[93],[223],[224,225,110],[],[169,226,111,227],[],[],[228,229],[229,230],[],[],[167,231,232,233,234,235],[167,236,237,233,238],[],[239,239,239,240],[150,241],[],[242,182,243,245,244],[150,178,162,246],[],[147,247,149],[191,203],[],[],[248,249,249,249,249,249,250,99,251,251,251,100,99,100],[252],[],[253],[59]]
def ld3:List (List Nat):=[[254,254],[255,150,256,224,257,258,246],[224,259,260],[214,198,261,199,262],[],[198],[143],[],[263,264,254,265,194,193,193],[143,266,267,268,269,270,271,272,273,274],[255,150],[255,275],[276],[],[256,277,258],[147,149],[278],[279,280],[281,282],[283,120,284],[285,286],[224,260,99,99,100],[287],[288,289,290],[291,292,293,294,295],[296],[],[],[297],[],[],[298,299,300,301],[302],[303],[110],[304,305],[306,307,308],[229],[230,309,310,311],[],[172,152],[312,313,314],[315],[316,317,9,318,319],[],[172,152],[318],[],[320,321,320,322,323,324,325,326,327],[147,122],[],[328,244],[],[330,329],[147,247,247,149,331,331],[],[332,333],[158],[160,334],[],[335],[143,336],[337,339,338],[]]
def ld4:List (List Nat):=[[],[340],[257,341],[257,341],[257,341,99,100],[194,259,342,194,303,343,344,345],[346,347,194,303,348,349],[190,350,9,198,201,351,201,352],[190,281,198,282,9,9],[337,339,338],[291,353,187,354,187,187,9,9,292],[291,354,22,225,355],[291],[296,292,217,356,356],[271,355],[296],[357],[296],[357],[358],[359,360,361,362,130,99,100],[303],[],[363,364,364],[365,366,367,365],[143,151],[],[368],[281,283,215,288,120],[291,369,370,371],[296,372,373,374,375,376,377,378],[281,201],[379],[227,380],[381,382],[],[383,384],[292,385],[386,387],[388],[],[389],[],[392,391,393],[],[394,395],[303,396],[220,182,397,398],[399,400,110,110,110,110,234],[401,165,110,402,110,403,317],[],[404,405,406,406,404,22,407],[408,409,307,408,410],[411],[],[413,412,413,412,413,412,412,413,412,413,412],[],[],[414,96],[415,415,415,416],[417,100],[418,419,418],[420],[383,421,224,303,422,423,425,424,426,427]]
def ld5:List (List Nat):=[[239],[322],[428],[],[322],[86,86,86,86,86,86],[150,429,430,430,429,430],[150,429,429,429],[431,329],[432],[],[176,176,176],[],[],[433],[434],[435,436],[437],[438,439,439],[438,439],[303,341],[220,180],[],[258],[440,441,442,442,442,442],[440,443],[],[],[445,446,444,447,448],[282],[143],[],[9,9],[383,422],[386,187,387],[383,449],[],[450],[147,207],[452,453],[362,361,99],[454,99],[455,456,99],[297,162],[],[457,125,162],[458],[459],[460,290,288],[461,316,462,372],[372],[463,461,464,372,465,466],[50,467],[],[468],[468,469,470,471,471,472],[468,474,473,469,473,470],[292,468,464,469,465,292,475,472],[],[170,476],[169],[291,216,380,293,477],[296,217,289],[]]
def ld6:List (List Nat):=[[478,99,100],[479,480],[481,481,481,482,482,482,482],[],[315,416],[390],[125],[],[],[],[],[483,484],[250,99,99,99,100],[485,398,162,486,162],[],[],[110,111,172,487],[488,489],[490],[],[],[491,404,491],[],[],[492,409,307,492,410],[],[],[],[],[],[],[],[],[160],[493],[494],[],[],[495,496],[495,496],[],[495,496],[425,449,497],[422,498,499,500],[],[147,149,331],[150,429],[],[],[],[],[291,463],[296,463,373,152,501],[],[439],[502],[],[442],[],[503],[504],[471,303],[445],[506,505]]
def ld7:List (List Nat):=[[],[495],[451],[296],[135,135],[507],[508,508,509,509,335],[510,510,510,510,188,511,512,513,456],[335],[],[514,515,516,459,517],[],[518,519],[],[386],[383,520,497,521],[383,421,522,224,303,423,426,449,523,499],[383,449,422,524,524,525,524,526,524,524,524,527,527,528,528,526,528,525,528,529,530,531,532,527,421],[292,480,353],[],[],[533,472,533,472,472,472],[472,472],[224],[],[],[534],[446,445,444,535,536],[171,537],[538],[539],[],[479],[],[540],[],[],[180],[180,182],[506,541],[],[],[481,481,481,482],[404],[409,307,492,542,543,307,543,410],[],[315,416],[],[],[],[495,544,544,425,500,500,500],[495,277,496,545],[495,544],[467,312],[],[442],[546,547,548,549,548,548],[550,551,552,553,554,555,556,557,558,505,505],[559,392],[560,560],[],[],[],[252]]
def ld8:List (List Nat):=[[252],[252],[],[],[],[],[291,353,293,294],[296,217],[495],[],[449,561,220,180,562],[495,496,277,563],[421,449,500],[449,564,564],[449,422,564,564],[421,422,426,498,500],[425,527,172,172],[421,449,423,426,498,500,499],[421,529],[421,427],[421,449,422,426,498,500,499],[440,440,440],[],[506,565],[],[566,310,537,567,566,568,566,225,566,537,569],[],[425],[],[570,571,572,573,574,575,576,577,578,541,541],[],[579,409,409,307,579,410],[496],[496],[580],[581],[],[],[556],[582,582],[583,584],[585,585,585,586],[],[556,556,556],[587,587],[556,556],[556,556,556,556],[],[],[495,496,588],[486,277,162],[],[561],[589,590,591,592,593,594,595,596,565,565],[],[],[493,538],[567,567,105,567,597,567,597,567,567,567,567,567,566,566,566,566],[576],[598,598],[583,584],[599,599,599,600],[],[576,576,576]]
def ld9:List (List Nat):=[[601,601],[576,576],[576,576,576,576],[602,409,409,307,602,410],[],[],[556,556],[506],[],[586],[603,603,603],[],[563],[],[604,604],[583,584],[605,605,605,606],[],[],[],[],[],[576,576],[600],[607,607,607],[],[409,307,602,542,608],[556],[],[606],[609,609,609],[576],[307,610,307,611,612],[],[],[307,612,542,307,613,308,613,308,613,410,307],[613,308,613],[409,307],[],[],[],[],[],[],[],[],[],[],[],[],[],[],[],[],[],[],[],[],[],[],[],[],[],[]]
def ldT:List (List Nat):=ld0++(ld1++(ld2++(ld3++(ld4++(ld5++(ld6++(ld7++(ld8++(ld9)))))))))
theorem ld0_eq:((Tryz.prog.funcs.toList.drop 0).take 64).map Tryz.prog.leadsTo=ld0:=by kernel_rfl
theorem ld1_eq:((Tryz.prog.funcs.toList.drop 64).take 64).map Tryz.prog.leadsTo=ld1:=by kernel_rfl
theorem ld2_eq:((Tryz.prog.funcs.toList.drop 128).take 64).map Tryz.prog.leadsTo=ld2:=by kernel_rfl
theorem ld3_eq:((Tryz.prog.funcs.toList.drop 192).take 64).map Tryz.prog.leadsTo=ld3:=by kernel_rfl
theorem ld4_eq:((Tryz.prog.funcs.toList.drop 256).take 64).map Tryz.prog.leadsTo=ld4:=by kernel_rfl
theorem ld5_eq:((Tryz.prog.funcs.toList.drop 320).take 64).map Tryz.prog.leadsTo=ld5:=by kernel_rfl
theorem ld6_eq:((Tryz.prog.funcs.toList.drop 384).take 64).map Tryz.prog.leadsTo=ld6:=by kernel_rfl
theorem ld7_eq:((Tryz.prog.funcs.toList.drop 448).take 64).map Tryz.prog.leadsTo=ld7:=by kernel_rfl
theorem ld8_eq:((Tryz.prog.funcs.toList.drop 512).take 64).map Tryz.prog.leadsTo=ld8:=by kernel_rfl
theorem ld9_eq:((Tryz.prog.funcs.toList.drop 576).take 64).map Tryz.prog.leadsTo=ld9:=by kernel_rfl
theorem take_parts {α:Type} (l:List α) (n:Nat):l=l.take n++l.drop n:=(List.take_append_drop n l).symm
theorem ldd9:(Tryz.prog.funcs.toList.drop 576).map Tryz.prog.leadsTo=ld9:=by
 rw [←ld9_eq,List.take_of_length_le (of_decide_eq_true (by kernel_rfl))]
theorem ldd8:(Tryz.prog.funcs.toList.drop 512).map Tryz.prog.leadsTo=ld8++(ld9):=by
 rw [take_parts (Tryz.prog.funcs.toList.drop 512) 64,List.map_append,ld8_eq,List.drop_drop,show 512+64=576 from rfl,ldd9]
theorem ldd7:(Tryz.prog.funcs.toList.drop 448).map Tryz.prog.leadsTo=ld7++(ld8++(ld9)):=by
 rw [take_parts (Tryz.prog.funcs.toList.drop 448) 64,List.map_append,ld7_eq,List.drop_drop,show 448+64=512 from rfl,ldd8]
theorem ldd6:(Tryz.prog.funcs.toList.drop 384).map Tryz.prog.leadsTo=ld6++(ld7++(ld8++(ld9))):=by
 rw [take_parts (Tryz.prog.funcs.toList.drop 384) 64,List.map_append,ld6_eq,List.drop_drop,show 384+64=448 from rfl,ldd7]
theorem ldd5:(Tryz.prog.funcs.toList.drop 320).map Tryz.prog.leadsTo=ld5++(ld6++(ld7++(ld8++(ld9)))):=by
 rw [take_parts (Tryz.prog.funcs.toList.drop 320) 64,List.map_append,ld5_eq,List.drop_drop,show 320+64=384 from rfl,ldd6]
theorem ldd4:(Tryz.prog.funcs.toList.drop 256).map Tryz.prog.leadsTo=ld4++(ld5++(ld6++(ld7++(ld8++(ld9))))):=by
 rw [take_parts (Tryz.prog.funcs.toList.drop 256) 64,List.map_append,ld4_eq,List.drop_drop,show 256+64=320 from rfl,ldd5]
theorem ldd3:(Tryz.prog.funcs.toList.drop 192).map Tryz.prog.leadsTo=ld3++(ld4++(ld5++(ld6++(ld7++(ld8++(ld9)))))):=by
 rw [take_parts (Tryz.prog.funcs.toList.drop 192) 64,List.map_append,ld3_eq,List.drop_drop,show 192+64=256 from rfl,ldd4]
theorem ldd2:(Tryz.prog.funcs.toList.drop 128).map Tryz.prog.leadsTo=ld2++(ld3++(ld4++(ld5++(ld6++(ld7++(ld8++(ld9))))))):=by
 rw [take_parts (Tryz.prog.funcs.toList.drop 128) 64,List.map_append,ld2_eq,List.drop_drop,show 128+64=192 from rfl,ldd3]
theorem ldd1:(Tryz.prog.funcs.toList.drop 64).map Tryz.prog.leadsTo=ld1++(ld2++(ld3++(ld4++(ld5++(ld6++(ld7++(ld8++(ld9)))))))):=by
 rw [take_parts (Tryz.prog.funcs.toList.drop 64) 64,List.map_append,ld1_eq,List.drop_drop,show 64+64=128 from rfl,ldd2]
theorem ldd0:(Tryz.prog.funcs.toList.drop 0).map Tryz.prog.leadsTo=ld0++(ld1++(ld2++(ld3++(ld4++(ld5++(ld6++(ld7++(ld8++(ld9))))))))):=by
 rw [take_parts (Tryz.prog.funcs.toList.drop 0) 64,List.map_append,ld0_eq,List.drop_drop,show 0+64=64 from rfl,ldd1]
theorem ld_eq:Tryz.prog.funcs.toList.map Tryz.prog.leadsTo=ldT:=ldd0
theorem ld_at (f:Nat):(Tryz.prog.funcs[f]?).elim [] Tryz.prog.leadsTo=ldT.getD f []:=by
 rw [←ld_eq,List.getD_eq_getElem?_getD,List.getElem?_map,←Array.getElem?_toList]
 cases Tryz.prog.funcs.toList[f]?<;>rfl
theorem ld_sum:1+(Tryz.prog.funcs.toList.map fun g=>(Tryz.prog.leadsTo g).length+1).sum=1973:=by
 have h:(Tryz.prog.funcs.toList.map fun g=>(Tryz.prog.leadsTo g).length+1)=ldT.map fun l=>l.length+1:=by rw [←ld_eq,List.map_map];rfl
 rw [h]
 exact (show 1+(ldT.map fun l=>l.length+1).sum=1973 by kernel_rfl)
def cloL:List Nat:=[3,4,7,9,8,5,10,11,6,13,12,14,16,21,22,45,92,17,23,46,93,155,156,157,218,24,47,25,26,27,48,94,158,49,95,97,96,50,98,159,99,160,219,100,28,51,101,104,125,179,162,221,222,161,220,297,389,390,102,103,52,105,163,53,106,109,164,223,298,299,392,391,393,300,301,394,395,483,484,107,108,15,18,29,54,110,111,165,224,302,303,182,397,485,180,242,243,328,431,329,432,244,245,330,398,486,396,250,334,433,225,112,166,113,167,169,226,227,304,399,400,172,487,506,559,541,570,576,601,571,598,572,583,584,573,599,600,607,574,575,577,578,234,315,415,416,305,401,488,489,402,490,481,482,540,403,317,418,493,419,494,168,115,170,228,306,307,404,405,491,406,407,308,408,492,409,542,543,579,602,608,610,611,612,613,410,229,171,230,309,411,310,311,413,412,114,55,116,56,117,57,152,118,119,173,174,231,232,233,312,313,314,414,235,316,417,318,420,319,383,421,422,495,496,423,425,424,426,449,497,427,498,544,500,499,277,545,175,236,237,238,120,151,215,288,379,476,537,566,567,568,538,569,597,289,380,290,381,291,216,292,384,478,539,293,385,479,480,294,386,387,295,388,477,382,296,217,58,30,59,121,122,176,31,60,61,32,62,63,64,123,177,239,240,320,321,322,428,323,324,325,86,150,147,326,429,149,331,430,327,124,178,241,126,181,246,247,183,65,33,34,35,66,67,127,128,185,184,191,203,255,275,358,207,129,186,187,248,332,333,249,251,188,252,335,434,130,189,131,68,132,133,190,253,143,336,435,463,520,521,436,373,501,467,192,254,337,437,339,438,439,502,338,194,259,257,340,341,260,193,256,258,195,214,287,281,201,266,353,354,267,355,268,269,356,270,271,272,357,450,451,273,274,198,261,342,343,344,440,441,442,345,443,503,199,262,346,347,348,445,471,446,444,504,546,580,547,581,548,549,447,505,550,556,587,551,582,552,553,585,586,603,554,555,557,558,448,349,282,197,196,200,263,350,351,352,264,265,87,202,134,135,206,204,276,359,452,453,507,560,360,362,455,510,511,512,513,456,361,454,508,509,205,36,69,81,40,71,82,140,70,90,44,136,137,138,139,19,37,72,73,141,208,278,209,279,363,364,280,365,457,366,458,514,515,516,459,517,367,74,142,210,211,283,368,460,518,519,284,212,285,369,461,462,372,370,371,464,522,561,588,563,562,523,465,524,525,564,526,527,528,529,530,531,532,466,286,374,468,375,469,533,472,470,376,474,534,473,377,475,535,565,589,590,604,591,592,605,606,609,593,594,595,596,536,378,78,89,75,76,77,144,79,146,145,213,80,38,83,84,39,85,148,20,41,88,153,42,43,91,154]
theorem clo_eq:Tryz.prog.closure 3=cloL:=by
 unfold Program.closure
 rw [ld_sum,clS_eq ld_at _ _ _ 0 (fun i=>by simp)]
 exact (show clS (fun f=>ldT.getD f []) 1973 [3] [] 0=cloL by kernel_rfl)
end Go.Proofs.YtejfkphoeffpeaaGreatDoor
end
section
namespace Go.Proofs.YtejfkphoeffpeaaGreatDoor.playPrints
theorem jq1:(Rows.playPrintsRow.wf (OpenSpec.ofChange Rows.playPrintsSpec))=true:=by kernel_rfl
theorem jq2:(laidOutB Tryz.prog)=true:=by kernel_rfl
theorem jq3:(mapsRowed Tryz.prog)=true:=by kernel_rfl
theorem jq4:(Tryz.f3.params.all (Tryz.prog.readableRec ·))=true:=by kernel_rfl
theorem jq5:(namedTie Tryz.prog Rows.playPrintsRow.named Rows.playPrintsSpec.vars)=true:=by kernel_rfl
theorem jq6:((Rows.playPrintsRow.stops == []))=true:=by kernel_rfl
theorem jq7:((Tryz.prog.stops == []))=true:=by kernel_rfl
theorem jq8:((Rows.playPrintsRow.knobs == []))=true:=by kernel_rfl
theorem jq9:((Tryz.prog.stopKnobs == []))=true:=by kernel_rfl
theorem jq10:((Rows.playPrintsRow.inPlace == Tryz.prog.inPlace 3))=true:=by
 unfold Program.inPlace
 rw [clo_eq]
 show _=true
 kernel_rfl
end Go.Proofs.YtejfkphoeffpeaaGreatDoor.playPrints
end
section
namespace Go.Proofs.YtejfkphoeffpeaaGreatDoor.playPrints
theorem jand {a b:Bool} (x:a=true) (y:b=true):(a && b)=true:=by rw [x,y];rfl
theorem jq11:((Rows.playPrintsRow.unfollowed == Tryz.prog.unfollowed 3))=true:=by
 unfold Program.unfollowed
 rw [clo_eq]
 show _=true
 kernel_rfl
theorem jq12:((Rows.playPrintsRow.recurses == Tryz.prog.recurses 3))=true:=by
 unfold Program.recurses Program.unfollowed
 rw [clo_eq]
 show _=true
 kernel_rfl
theorem jq13:((Rows.playPrintsRow.named == Tryz.prog.varsNamed 3))=true:=by
 unfold Program.varsNamed
 rw [clo_eq]
 show _=true
 kernel_rfl
theorem jq14:((Rows.playPrintsRow.maps == (Tryz.f3.params.toList++Rows.playPrintsSpec.plain.varTypes Tryz.prog).any (Tryz.prog.mapsRec ·)))=true:=by kernel_rfl
theorem jq15:((Rows.playPrintsRow.ifaces == (Tryz.f3.params.toList++Rows.playPrintsSpec.plain.varTypes Tryz.prog).any (Tryz.prog.ifacesRec ·)))=true:=by kernel_rfl
theorem jq16:((Rows.playPrintsRow.mapsOut == Tryz.prog.mapsAmong Tryz.f3.resultTypes.toList))=true:=by kernel_rfl
theorem jq17:((Rows.playPrintsRow.loops == (Tryz.f3.params.toList++Rows.playPrintsSpec.plain.varTypes Tryz.prog).any (Tryz.prog.loopsFrom ·)))=true:=by kernel_rfl
theorem jq18:((Rows.playPrintsRow.wideKeys == (Tryz.f3.params.toList++Rows.playPrintsSpec.plain.varTypes Tryz.prog++Tryz.f3.resultTypes.toList).any (Tryz.prog.wideKeysFrom ·)))=true:=by kernel_rfl
theorem jq19:(Rows.playPrintsSpec.vars.all (Tryz.prog.varReadable ·))=true:=by kernel_rfl
theorem jq20:(Tryz.f3.resultTypes.all (fun t=>Tryz.prog.readableRec t && decide (t<Tryz.prog.types.size)))=true:=by kernel_rfl
theorem jq21:((Rows.playPrintsRow.ifacesOut == Tryz.f3.resultTypes.toList.any (Tryz.prog.ifacesRec ·)))=true:=by kernel_rfl
theorem jq22:((Rows.playPrintsRow.loopsOut == Tryz.f3.resultTypes.toList.any (Tryz.prog.loopsFrom ·)))=true:=by kernel_rfl
theorem jq23:((Rows.playPrintsRow.plainKeys == Tryz.prog.plainKeys))=true:=by kernel_rfl
theorem jq24:(Rows.playPrintsRow.shortTexts.isNone)=true:=by kernel_rfl
theorem jq25:(Tryz.prog.stopsHeard)=true:=by kernel_rfl
theorem jq26:(Tryz.prog.mayEnter)=true:=by kernel_rfl
theorem jq27:((Rows.playPrintsRow.lifted == Tryz.prog.liftsFinal))=true:=by kernel_rfl
theorem jq28:((Tryz.prog.make == some Rows.playPrintsRow.make))=true:=by kernel_rfl
theorem jq29:((Rows.playPrintsRow.kinds == (if Rows.playPrintsRow.domain.isEmpty then [] else Tryz.f3.params.toList.map fun t=>match Tryz.prog.underlying t with | some (.int k)=>some k | _=>none)))=true:=by kernel_rfl
theorem jq30:((Rows.playPrintsRow.pinned == Rows.playPrintsRow.pinnedBy))=true:=by kernel_rfl
theorem jq31:((Rows.playPrintsRow.veiled == (Tryz.f3.params.toList++Rows.playPrintsSpec.plain.varTypes Tryz.prog++Tryz.f3.resultTypes.toList).any (Tryz.prog.veiledRec ·)))=true:=by kernel_rfl
theorem jq32:(Rows.playPrintsRow.veiledFits Tryz.prog Tryz.f3.params.toList (Tryz.f3.params.toList++Rows.playPrintsSpec.plain.varTypes Tryz.prog++Tryz.f3.resultTypes.toList))=true:=by kernel_rfl
set_option maxRecDepth 100000 in
theorem jnr:joinedFacts Tryz.prog 3 Tryz.f3 Rows.playPrintsSpec Rows.playPrintsRow=true:=by unfold joinedFacts;exact (jand (jand (jand (jand (jand (jand (jand (jand (jand (jand (jand (jand (jand (jand (jand (jand (jand (jand (jand (jand (jand (jand (jand (jand (jand (jand (jand (jand (jand (jand (jand jq1 jq2) jq3) jq4) jq5) jq6) jq7) jq8) jq9) jq10) jq11) jq12) jq13) jq14) jq15) jq16) jq17) jq18) jq19) jq20) jq21) jq22) jq23) jq24) jq25) jq26) jq27) jq28) jq29) jq30) jq31) jq32)
end Go.Proofs.YtejfkphoeffpeaaGreatDoor.playPrints
end
section
namespace Go.Proofs.YtejfkphoeffpeaaGreatDoor
open Go Go.Proofs
theorem goes_none {P:Program} (h:P.funcs.any Func.goes=false) (f:FuncId):P.goes f=false:=by
 have hf:∀g:Nat,(P.funcs[g]?).any Func.goes=false:=fun g=>by
  cases hg:P.funcs[g]? with
  | none=>rfl
  | some fn=>
   obtain ⟨hlt,he⟩:=Array.getElem?_eq_some_iff.1 hg
   have:=Array.any_eq_false.1 h g hlt
   rw [he] at this
   simpa using this
 unfold Program.goes
 rw [h,Bool.and_false,Bool.or_false]
 induction P.closure f with
 | nil=>rfl
 | cons x l ih=>rw [List.any_cons,hf,ih];rfl
theorem goesFrom_none {P:Program} (h:P.funcs.any Func.goes=false) (n:String):P.goesFrom n=false:=by
 unfold Program.goesFrom
 cases P.funcNamed n with
 | none=>rfl
 | some f=>exact goes_none h f
theorem anyQ:Tryz.prog.funcs.any Func.goes=false:=by kernel_rfl
theorem goesBy_none {P:Program} (h:P.funcs.any Func.goes=false) (c:OpenClaim):false=c.goesBy P:=by
 unfold OpenClaim.goesBy Program.goesAt
 rw [goesFrom_none h,Bool.false_or]
 split
 ·rfl
 ·symm
  rw [List.any_eq_false]
  intro f _
  rw [goes_none h f]
  simp
end Go.Proofs.YtejfkphoeffpeaaGreatDoor
end
