/- Proved: the law 'PlayPrints' answers true whatever it is called with, and leaves what it is called with as it was. Conditions: none beyond the row's own. -/
import Derived.Test.YtejfkphoeffpeaaGreatDoorRows
import Derived.Test.YtejfkphoeffpeaaGreatDoorCards
import Derived.Test.YtejfkphoeffpeaaGreatDoorQQ8
import Derived.Test.YtejfkphoeffpeaaGreatDoorQQ7
import Derived.Shelf.Vars
import Derived.WalkKit
import Derived.ProofKit
import Derived.OpenShut
import Derived.ShutString
import Derived.ChangeOld
import Derived.Below
import Derived.Deep.Slices
import Derived.LaidMore
import Derived.Lay
import Derived.MakeChecks
import Derived.Stop.Joined
import Derived.SevenTiedAt
namespace Go.Proofs.YtejfkphoeffpeaaGreatDoor.playPrints
open Go.Eng
open Go.ChangeShapes Go.WideShapes Go.ChangeAt Go.RowKit
open Go.ChangeMaps (open_string shut_string)
set_option linter.unusedVariables false


theorem cq1:(Rows.playPrintsRow).wfByText (OpenSpec.ofChange Rows.playPrintsSpec)=true:=by kernel_rfl
theorem cq3:false=Tryz.prog.looks []:=by kernel_rfl
theorem cq2 : Tryz.prog.mainIs = some (true, "80dfc90316f174d6f87eeb78c0ae3316e5d752a46c6dd81de8b96d4e17c97745".toList) := by kernel_rfl
theorem proved:Rows.PlayPrintsCardSaid:=
  Claim7.holds_tied_plain_at .later [] [.data, .data, .data] true (true, "80dfc90316f174d6f87eeb78c0ae3316e5d752a46c6dd81de8b96d4e17c97745") false
    over (fun _ h=>by cases h) cq1 (fun _ h=>by cases h) row_tieQ rfl ⟨rfl,rfl⟩ cq2 rfl
    (fun f fn hf hfn=>by
      obtain rfl:f=3:=Option.some.inj (jnf.symm.trans hf) |>.symm
      obtain rfl:fn=Tryz.f3:=(Option.some.inj (Tryz.func3.symm.trans hfn)).symm
      exact ⟨cq3,fun j t ht=>by
        rw [Tryz.params3] at ht
        have hm:t∈[28]:=by simpa using Array.mem_of_getElem? ht
        have hall:([28].all fun u=>!Tryz.prog.wantsStandIn u)=true:=by kernel_rfl
        exact (show Tryz.prog.wantsStandIn t=false by simpa using List.all_eq_true.1 hall t hm)⟩)
    (goesBy_none anyQ _)
end Go.Proofs.YtejfkphoeffpeaaGreatDoor.playPrints
