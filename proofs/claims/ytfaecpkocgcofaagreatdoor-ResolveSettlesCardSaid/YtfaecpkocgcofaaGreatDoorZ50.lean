/- Lemmas for ResolveSettles, printed small: Row1. -/
import Derived.Test.YtfaecpkocgcofaaGreatDoorZ49
import Derived.Test.YtfaecpkocgcofaaGreatDoorRows
import Derived.Test.YtfaecpkocgcofaaGreatDoorTie
import Derived.Test.YtfaecpkocgcofaaGreatDoorCards
import Derived.ProofKit
import Derived.OpenShut
import Derived.ChangeOld
import Derived.Below
import Derived.LaidMore
import Derived.LaidSub
import Derived.LaidOnce
import Derived.Lay
import Derived.Lib.LaidTab
import Derived.Stop.Joined
import Derived.SevenTiedAt
set_option linter.all false
set_option maxRecDepth 100000
set_option maxHeartbeats 8000000
open Go.Proofs.Tryz
namespace Go.Proofs.YtfaecpkocgcofaaGreatDoor
section
open Go.ChangeShapes Go.WideShapes Go.ChangeAt Go.RowKit
theorem Zgt:ownKnob prog.godebug=none:=by kernel_rfl
theorem JI:laidOutB prog=true:=by kernel_rfl
theorem Zgs {W:World} (h:laidMetH prog Rows.resolveSettlesRow.laid W):Zf8 W:=by
 have h2:=h.filter (fun x=>x.1 == "strings.asciiSpace")
 have e:(Rows.resolveSettlesRow.laid.filter fun x=>x.1 == "strings.asciiSpace")= [("strings.asciiSpace",Lib.tabData .u8 Lib.asciiSpaceTab)]:=by kernel_rfl
 rw[e,MakeChecks.laidMetH_plain _ _ _ (by kernel_rfl)]at h2
 exact Lib.tabIs_of_head (g:=1) (t:=360) (e:=5) (n:=256) (by kernel_rfl) (by kernel_rfl) (by kernel_rfl) (by kernel_rfl) (by kernel_rfl) (by kernel_rfl) h2
theorem ZnH {H:Type} {enc:TypeId×Value→H} {w:World} {base:Nat} {spare:Nat→Bool} {held:Bool} {fuel:Nat} {cs:List Value} {x:DataW H×List MemPlace}
 (h:DataW.trod enc prog w base spare held fuel 22 cs=some x) (hs:SzD prog 22 x.1):
 ∃(A:Option Addr) (c:Nat) (l:List Int),cs= [.slice A l.length c]∧Zjq w A l∧l.length≤140737488355328:=by
 obtain⟨A,c,l,e,_,_,_,hr,hG,hl⟩:=Zkk (α:=Int) (k:=1) (cells:=fun z=>[.int .i32 z]) (G:=fun z=>-2147483648≤z∧z≤2147483647) underlying22 (by kernel_rfl) (by decide) h hs
  fun n cs' y hy _=>by
   obtain⟨z,rfl,_,hw⟩:=DataW.trod_int underlying21 hy
   exact⟨z,rfl,bounds_i32 hw⟩
 have hl2:l.length≤140737488355328:=by
  have h4:prog.bytesOf 21=4:=by kernel_rfl
  have:=reachBytes_lt
  rw[h4]at hl
  omega
 refine⟨A,c,l,e,⟨?_,hG⟩,hl2⟩
 rcases hr with h0 | ⟨b,o,e1,hc⟩
 ·exact .inl h0
 ·exact .inr ⟨b,o,e1,fun j z hz=>by simpa using hc j z hz 0 (.int .i32 z) rfl⟩
theorem ZcR (os:Os) (started:os.Started) (H:Type) (enc:TypeId×Value→H):
 ReturnsInHanded {} Tryz.checked os 3 .any (fun w args=>(Rows.resolveSettlesSpec.pre enc prog Tryz.f3 Rows.resolveSettlesRow.domain false w args∧laidMetH prog Rows.resolveSettlesRow.laid w)∧sizedMet enc prog Tryz.f3 (OpenSpec.ofChange Rows.resolveSettlesSpec) false w args)
  (Rows.resolveSettlesSpec.post enc prog Tryz.f3 false true false false):=by
 refine returnsInHanded_of_change_and (C:=Tryz.checked) (X:=fun w _=>laidMetH prog Rows.resolveSettlesRow.laid w) (fun _ _ _ hh h=>h.of_heap hh) Zgt started (by kernel_rfl) func3
  (ChangeSpec.witness_shaped (enc:=enc) (C:=Tryz.checked) (os:=os) (X:=fun w _=>laidMetH prog Rows.resolveSettlesRow.laid w) false (World.laidAll prog os Rows.resolveSettlesRow.laid) #[.slice none 0 0] 8 (World.laidAll_os _ _ _)
   (World.shaped_of_ZipB (by kernel_rfl) (by kernel_rfl)) (by kernel_rfl) (by kernel_rfl) (by kernel_rfl)
   (by rw[MakeChecks.laidMetH_plain _ _ _ (by kernel_rfl)];exact laidMet_laidAll _ (by kernel_rfl) (by kernel_rfl))) ?_
 intro W base args ds gs before hval0 hW _ hsz0 hL _
 have hval:∀(j:Nat) t v,Tryz.f3.params[j]? =some t→args[j]? =some v→Value.okWide prog W .any base t v:=hval0
 have hW':=hW
 obtain⟨p,q,hA0,hV,rfl,hfz,hnd⟩:=hW
 have hA:DataW.TrodAll enc prog W 0 (fun _=>true) true Tryz.f3.params.toList args.toList ds p:=hA0
 have hsz:(DataW.weightsEach prog (Tryz.f3.params.toList++Rows.resolveSettlesSpec.plain.varTypes prog) (ds++gs)).all (·≤reachBytes)=true:=hsz0
 rw[params3]at hA hval hsz
 obtain⟨v0,d0,rfl,rfl,h0⟩:=trodAll_one hA
 obtain⟨rfl,rfl⟩:=trodVars_none hV
 have k0:=h0
 have lt0:∀x∈p,x.block < W.heap.size:=by obtain⟨m,hm⟩:=k0;exact DataW.trod_lt m _ _ _ hm
 obtain⟨m0,g0⟩:=h0
 obtain⟨A,c,l,e0,hI,hl⟩:=ZnH g0 (SzD.arg hsz (j:=0) rfl rfl)
 obtain⟨A',n',c',rfl⟩:=okWide_slice underlying22 (hval 0 22 v0 rfl rfl)
 obtain⟨rfl,rfl,rfl⟩:A'=A∧n'=l.length∧c'=c:=by simpa [Value.cells]using e0
 clear hA0 hval0
 refine(ZgD W (Zgs hL) A' c' l hI hl).mono fun e W' ⟨he,hk⟩=>?_
 subst he
 have bel:Below W.heap.size W W':=hk.toBelow (Nat.le_refl _) (by simp)
 exact⟨_,rfl,_,_,_,[],_,[],hW',trodAll_mk1 (shut_bool underlying4 _),trodAll_mk1 (Below.trod JI (by kernel_rfl) (of_decide_eq_true (by kernel_rfl)) k0 bel lt0),rfl,bel.frame _,fun h=>by cases h⟩
end
end Go.Proofs.YtfaecpkocgcofaaGreatDoor
