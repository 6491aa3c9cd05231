/- Lemmas for ResolveSettles, printed small: Row2. -/
import Derived.Test.YtfaecpkocgcofaaGreatDoorZ50
set_option linter.all false
set_option maxRecDepth 100000
set_option maxHeartbeats 8000000
open Go.Proofs.Tryz
namespace Go.Proofs.YtfaecpkocgcofaaGreatDoor
section
open Go.ChangeShapes Go.WideShapes Go.ChangeAt Go.RowKit
theorem QV {a b:Bool} (h:a=true) (k:b=true):(a && b)=true:=by rw[h,k];rfl
theorem ZiG:mapsRowed prog=true:=by kernel_rfl
theorem ZgC:(Rows.resolveSettlesRow.inPlace == prog.inPlace 3)=true:=by kernel_rfl
theorem ZgB:(Rows.resolveSettlesRow.unfollowed == prog.unfollowed 3)=true:=by kernel_rfl
theorem ZgA:(Rows.resolveSettlesRow.recurses == prog.recurses 3)=true:=by kernel_rfl
theorem Zgz:(Rows.resolveSettlesRow.named == prog.varsNamed 3)=true:=by kernel_rfl
theorem Zgy:(Rows.resolveSettlesRow.plainKeys == prog.plainKeys)=true:=by kernel_rfl
theorem Zgx:prog.stopsHeard=true:=by kernel_rfl
theorem Zgw:prog.mayEnter=true:=by kernel_rfl
theorem Zgv:(Rows.resolveSettlesRow.lifted == prog.liftsFinal)=true:=by kernel_rfl
theorem Zgu:(prog.make == some Rows.resolveSettlesRow.make)=true:=by kernel_rfl
theorem ZdL:prog.funcNamed Rows.resolveSettlesRow.func=some 3:=by kernel_rfl
theorem ZcS:joinedFacts prog 3 Tryz.f3 Rows.resolveSettlesSpec Rows.resolveSettlesRow=true:=by
 unfold joinedFacts
 refine QV (QV (QV (QV (QV (QV (QV (QV (QV (QV (QV (QV (QV (QV (QV (QV (QV (QV (QV (QV (QV (QV (QV (QV (QV (QV (QV (QV (QV (QV (QV ?_ ?_) ?_) ?_) ?_) ?_) ?_) ?_) ?_) ?_) ?_) ?_) ?_) ?_) ?_) ?_) ?_) ?_) ?_) ?_) ?_) ?_) ?_) ?_) ?_) ?_) ?_) ?_) ?_) ?_) ?_) ?_
 ·kernel_rfl
 ·exact JI
 ·exact ZiG
 ·kernel_rfl
 ·kernel_rfl
 ·kernel_rfl
 ·kernel_rfl
 ·kernel_rfl
 ·kernel_rfl
 ·exact ZgC
 ·exact ZgB
 ·exact ZgA
 ·exact Zgz
 ·kernel_rfl
 ·kernel_rfl
 ·kernel_rfl
 ·kernel_rfl
 ·kernel_rfl
 ·kernel_rfl
 ·kernel_rfl
 ·kernel_rfl
 ·kernel_rfl
 ·exact Zgy
 ·kernel_rfl
 ·exact Zgx
 ·exact Zgw
 ·exact Zgv
 ·exact Zgu
 ·kernel_rfl
 ·kernel_rfl
 ·kernel_rfl
 ·kernel_rfl
theorem Zfc:Tryz.f3.isInstance prog Rows.resolveSettlesRow.origin Rows.resolveSettlesRow.targs:=of_decide_eq_true (by kernel_rfl)
theorem Zfb:Tryz.f3.isWrapper prog Rows.resolveSettlesRow.wrapper Rows.resolveSettlesRow.mainSum:=by
 unfold Func.isWrapper
 first
  | (rw[if_pos (by decide+kernel)];kernel_rfl)
  | (rw[if_neg (by decide+kernel)];exact⟨rfl,rfl⟩)
theorem settles_holds:Rows.ResolveSettlesSaid:=
 OpenClaim.holds_of_wide 3 Tryz.f3 rfl rfl rfl rfl rfl rfl rfl ⟨rfl,rfl,rfl,rfl,rfl⟩ rfl rfl rfl rfl rfl ZdL func3 ZcS Zfc Zfb
  (fun os started H enc _=>ZcR os started H enc)
end
end Go.Proofs.YtfaecpkocgcofaaGreatDoor
