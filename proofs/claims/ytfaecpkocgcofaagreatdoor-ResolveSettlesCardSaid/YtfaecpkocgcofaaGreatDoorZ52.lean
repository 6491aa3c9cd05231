/- ResolveSettles: for every list of numbers the law returns true and leaves its argument as it was; the card ties the two listed tables to the program's text. -/
import Derived.Test.YtfaecpkocgcofaaGreatDoorZ51
set_option linter.all false
set_option maxRecDepth 100000
set_option maxHeartbeats 8000000
open Go.Proofs.Tryz
namespace Go.Proofs.YtfaecpkocgcofaaGreatDoor
section
open Go.ChangeShapes Go.WideShapes Go.ChangeAt Go.RowKit
theorem settles_card:Rows.ResolveSettlesCardSaid:=
 Claim7.holds_tied_plain_at .later [] [.listed,.data] true (true, "0b6301ff082788cca727cf2f7822ef65a6959b7b7cb1796682618ca0c609887b") false settles_holds (fun _ h=>by cases h) (by kernel_rfl) (fun _ h=>by cases h) resolveSettles_row_tie rfl ⟨rfl,rfl⟩ (by kernel_rfl) rfl
  (fun f fn hf hfn=>by
   obtain rfl:f=3:=Option.some.inj ((show prog.funcNamed "ceiling/ceilinglaw09.ResolveSettles" =some 3 by kernel_rfl).symm.trans hf) |>.symm
   obtain rfl:fn=Tryz.f3:=(Option.some.inj (func3.symm.trans hfn)).symm
   exact⟨by kernel_rfl,fun j t ht=>by
    rw[params3]at ht
    have hm:t∈ [22]:=by simpa using Array.mem_of_getElem? ht
    have hall:([22].all fun u=>!prog.wantsStandIn u)=true:=by kernel_rfl
    exact(show prog.wantsStandIn t=false by simpa using List.all_eq_true.1 hall t hm)⟩)
  (by kernel_rfl)
#print axioms settles_card
end
end Go.Proofs.YtfaecpkocgcofaaGreatDoor
