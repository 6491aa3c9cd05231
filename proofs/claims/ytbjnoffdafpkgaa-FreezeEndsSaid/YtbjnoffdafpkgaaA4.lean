/- The closures of Parts. -/
import Derived.Test.YtbjnoffdafpkgaaA3
import Derived.OneCell
namespace Go.Proofs.Ytbjnoffdafpkgaa
open Go.RowKit

theorem plist_step {w w1 w2 : World} {base L : Nat} {xs : List Int} {x : Int} {lv v' : Value} {g cap : Nat} (hb : w.heap[L]? = some (.cells #[lv] 38 (0, 0))) (ho : w.ownsRow base 3 1 lv xs.length (xs.map (Value.int .i64))) (hL : L < base) (hB : base ≤ w.heap.size) (hs : xs.length < 1099511627776)
    (h1 : w1.ownsRow base 3 1 v' (xs.length + 1) (xs.map (Value.int .i64) ++ [.int .i64 x])) (hg : (w.alloc (.cells #[.int .i64 x] 3)).grownBy w1 lv.ownBlock) (hv : v' = .slice (some ⟨g, 0, none⟩) (xs.length + 1) cap) (hw : w2 = w1.setCell ⟨L, 0, none⟩ v') :
    PList w2 base L (xs ++ [x]) ∧ But base L w w2 := by
  have hlt : ∀ k, lv.ownBlock = some k → base ≤ k := fun k hk => (ho.lt k hk).1
  have hbut : But base L w w2 := by
    subst hw
    refine ⟨hg.os, hg.tape, hg.output, ?_, fun k hk hl => ?_⟩
    · have := hg.size
      simp at this ⊢
      omega
    · rw [Below.heap_setCell _ _ _ _ hl, hg.block k (by simp; omega) (fun e => by have := hlt k e.symm; omega), Below.heap_alloc _ _ _ (by omega)]
  refine ⟨⟨v', ?_, ?_, hL, Nat.le_trans hB hbut.size, by simp; omega⟩, hbut⟩
  · subst hw
    exact one_setCell (by rw [hg.block L (by simp; omega) (fun e => by have := hlt L e.symm; omega), Below.heap_alloc _ _ _ (by omega)]; exact hb)
  · subst hw
    have := ownsRow_setCell_below h1 (a := ⟨L, 0, none⟩) hL v'
    simpa using this

set_option maxHeartbeats 400000 in
theorem parts2_yes (w : World) (base L n B E T : Nat) (ty x : Int) (xs : List Int) (h : Fits base L n ty w B E T xs) (hs : xs.length < 1099511627776) (hx : (exI n x && (x != ty)) = true) :
    Calls Try.prog 25 #[.int .i64 x, .pointer (some ⟨E, 0, none⟩), .pointer (some ⟨T, 0, none⟩), .pointer (some ⟨L, 0, none⟩)] w (Left2 base L (xs ++ [x]) w) := by
  obtain ⟨a, c, hB, hE, hT, hn, b1, b2, e1, e2, t1, t2, lv, hL, ho, hLb, hbs, hsz⟩ := h
  have h1 : exI n x = true := by revert hx; cases exI n x <;> simp
  have h2 : (x != ty) = true := by simpa [h1] using hx
  have hlc := cell_of_one hL
  have hlf := free_of_one hL
  have HL := Lib.hid hL
  clear hL hx
  obtain ⟨i0, hi, hz0, hz1, hz2⟩ := info_parts Try.info3
  go_enter Try.func25, Try.ntmps25
  go_wp2_with (first | ((with_reducible refine (parts1_any _ B n c a x hn (by assumption)).mono ?_); rintro e w1 ⟨rfl, rfl⟩) | (at_builtin; refine wpList_append_own _ rfl _ _ 38 rfl base 3 i0 (.int .i64 0) 1 8 Try.underlying38 hi hz0 hz1 hz2 rfl (by decide) _ _ _ rfl (ho.alloc _) ⟨w.heap.size, 0, none⟩ 1 1 [.int .i64 x] rfl rfl ?c1 ?c2 ?c3 ?c4 ?c5 ?_))
  case c1 => exact cell_one_new _ _ _
  case c2 => intro u hu; simp at hu; subst hu; rfl
  case c3 => unfold maxLen; omega
  case c4 => omega
  case c5 => simp; omega
  intro v' w1 ho1 hg1 hne
  obtain ⟨g, cap, hv⟩ : ∃ g cap, v' = .slice (some ⟨g, 0, none⟩) (xs.length + 1) cap := by
    rcases ho1.2 with ⟨hq, _⟩ | ⟨g, cap, _, hq, _⟩
    · exact absurd hq hne
    · exact ⟨g, cap, hq⟩
  have HP := Lib.hid (plist_step HL.out ho hLb hbs hs ho1 hg1 hv rfl)
  have hlt : ∀ k, lv.ownBlock = some k → base ≤ k := fun k hk => (ho.lt k hk).1
  have hbL : w1.heap[L]? = some (.cells #[lv] 38 (0, 0)) := by
    rw [hg1.block L (by simp; omega) (fun e => by have := hlt L e.symm; omega), Below.heap_alloc _ _ _ (by omega)]; exact HL.out
  have hlc1 := cell_of_one hbL
  have hlf1 := free_of_one hbL
  rw [hv] at HP ⊢
  clear ho1 hg1 hne hv hbL hlt
  go_wp2
  go_end0
  exact ⟨rfl, HP.out⟩

theorem parts2_any (w : World) (base L n B E T : Nat) (ty x : Int) (xs : List Int) (h : Fits base L n ty w B E T xs) (hs : xs.length < 1099511627776) :
    Calls Try.prog 25 #[.int .i64 x, .pointer (some ⟨E, 0, none⟩), .pointer (some ⟨T, 0, none⟩), .pointer (some ⟨L, 0, none⟩)] w (Left2 base L (addI n ty x xs) w) := by
  cases hx : (exI n x && (x != ty))
  · simp only [addI, hx, Bool.false_eq_true, if_false]
    exact parts2_no w base L n B E T ty x xs h hx
  · simp only [addI, hx, if_true]
    exact parts2_yes w base L n B E T ty x xs h hs hx
#print axioms parts2_yes
end Go.Proofs.Ytbjnoffdafpkgaa
