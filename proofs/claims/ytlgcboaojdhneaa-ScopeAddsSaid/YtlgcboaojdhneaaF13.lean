/- same, of the two Standards; what the two Adds return, in a form for the walk. -/
import Derived.Test.YtlgcboaojdhneaaF12
import Derived.Test.YtlgcboaojdhneaaE6
namespace Go.Proofs.Ytlgcboaojdhneaa
open Go.RowKit
theorem RetAdd.after {v : TabV} {t : Tab} {x : EntV} {w w1 w2 : World} {e : Ending} (h : RetAdd v t x w e w1) (hk : Kept [] w1 w2) : RetAdd v t x w e w2 := by
  rcases h with ⟨z, ea, ec, he, ho, hk1⟩ | ⟨n, he, hk1⟩
  · exact .inl ⟨z, ea, ec, he, own_keep ho hk (by simp), hk1.trans hk⟩
  · exact .inr ⟨n, he, hk1.trans hk⟩
/-- The same, its array open. -/
def AddF (v : TabV) (t : Tab) (x : EntV) (w : World) (e : Ending) (w' : World) : Prop :=
  ∃ (a0 a1 a2 a3 a4 : Value) (n : Int), e = .returned (.tuple #[.agg #[a0, a1, a2, a3, a4], .int .i64 n]) ∧ (#[a0, a1, a2, a3, a4].all fun u => u.oneCell') = true ∧ RetAdd v t x w e w' ∧ Kept [] w w'
theorem RetAdd.form {v : TabV} {t : Tab} {x : EntV} {w w' : World} {e : Ending} (h : RetAdd v t x w e w') : AddF v t x w e w' := by
  rcases id h with ⟨z, ea, ec, rfl, ho, hk⟩ | ⟨n, rfl, hk⟩
  · exact ⟨_, _, _, _, _, 0, rfl, by simp [Value.oneCell'], h, hk⟩
  · exact ⟨_, _, _, _, _, _, rfl, by simp [Value.oneCell'], h, hk⟩
theorem ReEnts.append {xs ys us vs : List EntV} (h : ReEnts xs ys) (h' : ReEnts us vs) : ReEnts (xs ++ us) (ys ++ vs) := by
  refine ⟨by rw [List.length_append, List.length_append, h.1, h'.1], fun k x y hx hy => ?_⟩
  by_cases hk : k < xs.length
  · rw [List.getElem?_append_left hk] at hx
    rw [List.getElem?_append_left (h.1 ▸ hk)] at hy
    exact h.2 k x y hx hy
  · rw [List.getElem?_append_right (by omega)] at hx
    rw [List.getElem?_append_right (by have := h.1; omega)] at hy
    rw [← h.1] at hy
    exact h'.2 _ x y hx hy
theorem stdEnts_re (k1 k2 q1 q2 : Nat) : ReEnts (stdEnts k1 k2) (stdEnts q1 q2) := by
  refine (ReEnts.refl std12).append ⟨rfl, fun k x y hx hy => ?_⟩
  rcases k with _ | _ | _ | k
  · simp at hx hy; subst hx hy; exact ⟨some ⟨q1, 0, none⟩, 1, rfl⟩
  · simp at hx hy; subst hx hy; exact ⟨some ⟨q2, 0, none⟩, 1, rfl⟩
  · simp at hx hy; subst hx hy; exact ⟨none, 0, rfl⟩
  · simp at hx
theorem stdTys_re (k q : Nat) : ReTys (stdTys k) (stdTys q) := by
  refine ⟨rfl, fun i x y hx hy => ?_⟩
  rcases i with _ | _ | _ | _ | i
  · simp [stdTys] at hx hy; subst hx hy; exact ⟨none, 0, rfl⟩
  · simp [stdTys] at hx hy; subst hx hy; exact ⟨none, 0, rfl⟩
  · simp [stdTys] at hx hy; subst hx hy; exact ⟨some ⟨q, 0, none⟩, 2, rfl⟩
  · simp [stdTys] at hx hy; subst hx hy; exact ⟨none, 0, rfl⟩
  · simp [stdTys] at hx
theorem tysIn_std {w : World} {v : TabV} {kl k1 k2 : Nat} (hM : StdMem w v kl k1 k2) : TysIn w v (stdT kl k1 k2) := by
  have h := typIn_std (stdEnts k1 k2) hM
  refine ⟨h.ts, h.tl, h.tm, fun x hx => ?_⟩
  have hx' : x ∈ stdTys kl := hx
  simp only [stdTys, List.mem_cons, List.not_mem_nil, or_false] at hx'
  rcases hx' with rfl | rfl | rfl | rfl
  · exact ⟨.inl rfl, Nat.le_refl _, by simp [stdTy], .inl rfl, Nat.le_refl _, by simp [stdTy], fun c hc => by simp [stdTy] at hc⟩
  · exact ⟨.inl rfl, Nat.le_refl _, by simp [stdTy], .inl rfl, Nat.le_refl _, by simp [stdTy], fun c hc => by simp [stdTy] at hc⟩
  · refine ⟨.inr ⟨kl, 0, rfl, fun j s hs => ?_⟩, Nat.le_refl _, by simp [stdTy], .inl rfl, Nat.le_refl _, by simp [stdTy], fun c hc => by simp [stdTy] at hc⟩
    rw [Nat.zero_add, cell_of_row _ _ _ _ _ _ hM.lit]
    rcases j with _ | _ | j
    · simp [stdTy] at hs; subst hs; rfl
    · simp [stdTy] at hs; subst hs; rfl
    · simp [stdTy] at hs
  · exact ⟨.inl rfl, Nat.le_refl _, by simp [stdTy], .inl rfl, Nat.le_refl _, by simp [stdTy], fun c hc => by simp [stdTy] at hc⟩
theorem tabIn_std0 {w : World} {base : Nat} {v : TabV} {kl k1 k2 : Nat} (hM : StdMem w v kl k1 k2) (ho : w.ownsRow base 43 22 (.slice v.ea 15 v.ec) 15 ((stdEnts k1 k2).map EntV.cells).flatten) : TabIn w v (stdT kl k1 k2) := by
  have h := tabIn_std (base := base) [] (fun x hx => by simp at hx) hM (by rw [List.append_nil]; exact ho)
  rw [List.append_nil] at h
  exact h
/-- The tables that the two Standards returned are the same. -/
theorem sameStd_any {w w1 w2 : World} {e1 e2 : Ending} (h1 : RetStdG w e1 w1) (h2 : RetStdG w1 e2 w2) :
    ∃ a b : Array Value, e1 = .returned (.agg a) ∧ e2 = .returned (.agg b) ∧ Kept [] w1 w2 ∧ Calls Try.prog 28 #[.agg a, .agg b] w2 (RetB true w2) := by
  obtain ⟨v, kl, k1, k2, rfl, ho, hM, hk, hg, hi⟩ := h1
  obtain ⟨u, ql, q1, q2, rfl, ho', hM', hk', hg', hi'⟩ := h2
  have hM2 := hM.kps (KpS.of_kept (n := 0) hk')
  have ho2 := own_keep ho hk' (by simp)
  have hT := tabIn_std0 hM2 ho2
  have hU := tabIn_std0 hM' ho'
  exact ⟨_, _, rfl, rfl, hk', sameTab_any w2 v u _ _ hT hU (tysIn_std hM2) (tysIn_std hM') (stdTys_re _ _) rfl (stdEnts_re _ _ _ _) (fun _ hx => hT.ent hx) (fun _ hx => hU.ent hx) (hg'.trans hg.symm) (hi'.trans hi.symm)⟩
end Go.Proofs.Ytlgcboaojdhneaa
