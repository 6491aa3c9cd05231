/- The events: objects and constants. -/
import Derived.Test.YtbjnoffdafpkgaaG1
import Derived.RegionTactic
import Derived.BigRegion
namespace Go.Proofs.Ytbjnoffdafpkgaa
open Go.RowKit

def objectF (t : Tab) (s : PS) (x : EvV) : Bool × PS :=
  ((meetAll t (okM s.dec s.com) [x.ty]).2, { s with frz := frzF s.frz (meetAll t (okM s.dec s.com) [x.ty]) })

theorem meetAll_len {t : Tab} {ok : Int → Bool} {ls : List Int} (h : ∀ x, x ∈ ls → exI t.types.length x = true) (hn : t.types.length ≤ 1000) : (meetAll t ok ls).1.length ≤ 1000 := by
  have := (meetAll_inv t ok ls h).length_le
  omega

theorem IntsAt.one {w : World} {b c : Nat} {x : Int} (h : w.cell? ⟨b, 0, none⟩ = some (.int .i64 x)) : IntsAt w (.slice (some ⟨b, 0, none⟩) 1 c) [x] :=
  .inr ⟨b, 0, c, rfl, by simp, fun j hj => by
    have : j = 0 := by simpa using hj
    subst this
    simpa using h⟩

set_option maxRecDepth 100000 in
set_option maxHeartbeats 1000000 in
theorem object_any (v : TabV) (t : Tab) (B S dB cB fB kB n : Nat) (s : PS) (x : EvV) (w : World) (hE : SAt v t B S dB cB fB kB n s w) (hx : exI t.types.length x.ty = true) (hn : n ≤ 1000000000) :
    Calls Try.prog 37 #[.pointer (some ⟨S, 0, none⟩), x.val] w (EPost v t B S dB cB fB kB n (objectF t s x) w) := by
  have HE := Lib.hid hE
  have HX := Lib.hid hx
  clear hE hx
  unfold EvV.val
  go_enter Try.func37, Try.ntmps37
  go_wp2_with fail
  have hk2 : Kept [] w ((w.alloc (.cells #[.int .u8 x.kind, .int .i64 x.ty, .int .i64 x.num] 45)).alloc (.cells #[.int .i64 x.ty] 3)) := (Kept.alloc _ _ _).trans (Kept.alloc _ _ _)
  have HE2 := Lib.hid (HE.out.kept hk2)
  refine (freeze_any v t B S dB cB fB kB n n n s.dec s.com s.frz _ _ [x.ty] HE2.out.env (IntsAt.one ?_) (fun y hy => by simp at hy; subst hy; exact HX.out) hn).mono ?_
  · go_simp
  rintro e w3 ⟨rfl, hf3, hk3⟩
  have hlen := meetAll_len (t := t) (ok := okM s.dec s.com) (ls := [x.ty]) (fun y hy => by simp at hy; subst hy; exact HX.out) HE2.out.num
  have HE3 := Lib.hid (HE2.out.setFrz hk3 hf3 (by omega))
  have HK3 : Hid (Kept [fB] w w3) := (hk2.mono (by simp)).trans hk3
  have HLEN := Lib.hid hlen
  clear hk2 hf3 hk3 hlen
  go_wp2_with fail
  go_ret
  exact EPost.of HE3.out (by have := HLEN.out; omega) HK3.out (by simp)

def deferredF (s : PS) (x : EvV) : Bool × PS :=
  if (s.con x.num).isSome then (false, s) else (true, { s with con := updM s.con x.num (x.ty, false) })

#print axioms object_any
end Go.Proofs.Ytbjnoffdafpkgaa
