/- The reference's row of a type (63). same, of what the two Adds give. -/
import Derived.Test.YtlgcboaojdhneaaF9
import Derived.Test.YtlgcboaojdhneaaE2
namespace Go.Proofs.Ytlgcboaojdhneaa
open Go.RowKit
theorem results63_of {w : World} {B : Nat} {x : TyV} {tmps : Array Value} (h4 : tmps.getD 6 undef = .pointer (some ⟨B, 0, none⟩)) (hr : w.rangeAt B 0 x.cells) :
    (results Try.f63 tmps).run Try.prog w = .ok (.agg x.cells.toArray) w := by
  simp only [Array.getD_eq_getD_getElem?] at h4
  simp [results, Try.results63, h4, asAddr, Sem.run_bind, run_loadVar_mid w B 0 71 x.cells _ hr Try.underlying71 rfl (Try.info71 x)]

set_option maxRecDepth 100000 in
set_option maxHeartbeats 1000000 in
theorem rowTy_any (w : World) (k : Int) (n : ByteArray) (first : Int) :
    Calls Try.prog 63 #[.int .u8 k, .string n, .int .i64 first] w (RetTy (stdTy k n first none 0 []) w) := by
  go_enter Try.func63, Try.ntmps63
  go_wp2_with (refine wpList_store_new rfl 71 (.tmp 6) (.tmp 10) rfl _ (stdTy k n first none 0 []).cells.toArray w.heap.size rfl rfl rfl (Try.info71 _) rfl (TyV.one _) ?_)
  refine bodyPost_ret (results63_of (x := stdTy k n first none 0 []) rfl (TyV.range (obj_new (o := .cells (stdTy k n first none 0 []).cells.toArray 71) rfl))) rfl ?_
  exact ⟨rfl, Kept.alloc _ _ _⟩
end Go.Proofs.Ytlgcboaojdhneaa
namespace Go.Proofs.Ytlgcboaojdhneaa
open Go.RowKit
def nilV : TabV := ⟨none, 0, none, 0, none, 0, none, 0, 0, none, 0, 0⟩
def nilTab : Tab := ⟨[], [], []⟩
theorem nil_in (w : World) : TabIn w nilV nilTab := ⟨.inl rfl, fun x hx => by simp [nilTab] at hx, fun x hx => by simp [nilTab] at hx, .inl rfl, by simp [nilTab], by simp [nilV], fun _ => rfl, by simp [nilTab], by simp [nilV]⟩
theorem nil_tys (w : World) : TysIn w nilV nilTab := ⟨.inl rfl, by simp [nilTab], by simp [nilV], fun x hx => by simp [nilTab] at hx⟩
theorem sameNil_any (w : World) : Calls Try.prog 28 #[.agg nilT, .agg nilT] w (RetB true w) :=
  sameTab_any w nilV nilV nilTab nilTab (nil_in w) (nil_in w) (nil_tys w) (nil_tys w) (ReTys.refl _) rfl (ReEnts.refl _) (fun x hx => by simp [nilTab] at hx) (fun x hx => by simp [nilTab] at hx) rfl rfl
theorem sameEa_any (w : World) (v : TabV) (t : Tab) (A A' : Option Addr) (c c' : Nat) (hT : TabIn w { v with ea := A, ec := c } t) (hU : TabIn w { v with ea := A', ec := c' } t) (hA : TysIn w v t) :
    Calls Try.prog 28 #[.agg (({ v with ea := A, ec := c } : TabV).cells t), .agg (({ v with ea := A', ec := c' } : TabV).cells t)] w (RetB true w) :=
  sameTab_any w _ _ t t hT hU ⟨hA.ts, hA.tl, hA.tm, hA.ti⟩ ⟨hA.ts, hA.tl, hA.tm, hA.ti⟩ (ReTys.refl _) rfl (ReEnts.refl _) (fun _ hx => hT.ent hx) (fun _ hx => hU.ent hx) rfl rfl
theorem TysIn.add {w : World} {v : TabV} {t : Tab} (h : TysIn w v t) (x : EntV) : TysIn w v (addE t x) := ⟨h.ts, h.tl, h.tm, h.ti⟩
/-- The tables that two Adds returned are the same, and so are their errors. -/
theorem sameAdds_any {w w1 w2 : World} {v : TabV} {t : Tab} {x : EntV} {e1 e2 : Ending} (hT : TabIn w v t) (hA : TysIn w v t) (hx : EntIn w x) (h1 : RetAdd v t x w e1 w1) (h2 : RetAdd v t x w1 e2 w2) :
    ∃ (a b : Array Value) (n : Int), e1 = .returned (.tuple #[.agg a, .int .i64 n]) ∧ e2 = .returned (.tuple #[.agg b, .int .i64 n]) ∧ a.size = 5 ∧ b.size = 5 ∧ Kept [] w w1 ∧ Kept [] w1 w2 ∧ ∀ W, Kept [] w2 W → Calls Try.prog 28 #[.agg a, .agg b] W (RetB true W) := by
  rcases h1 with ⟨z1, ea, ec, rfl, ho1, hk1⟩ | ⟨n1, rfl, hk1⟩
  · rcases h2 with ⟨z2, ea2, ec2, rfl, ho2, hk2⟩ | ⟨n2, rfl, hk2⟩
    · refine ⟨_, _, 0, rfl, rfl, rfl, rfl, hk1, hk2, fun W hW => ?_⟩
      have t1 := (tabIn_add hT hx hk1 ho1).kept (hk2.trans hW)
      have t2 := (tabIn_add (hT.kept hk1) (hx.kept hk1) hk2 ho2).kept hW
      exact sameEa_any W v (addE t x) ea ea2 ec ec2 t1 t2 ((hA.add x).kept (hk1.trans (hk2.trans hW)))
    · exact absurd z1 n2
  · rcases h2 with ⟨z2, _⟩ | ⟨n2, rfl, hk2⟩
    · exact absurd z2 n1
    · exact ⟨_, _, _, rfl, rfl, rfl, rfl, hk1, hk2, fun W _ => sameNil_any W⟩
end Go.Proofs.Ytlgcboaojdhneaa
