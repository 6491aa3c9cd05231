/- The reference: Has, exists, With. -/
import Derived.Test.YtbjnoffdafpkgaaL5
import Derived.Test.YtbjnoffdafpkgaaC2
namespace Go.Proofs.Ytbjnoffdafpkgaa
open Go.RowKit

set_option maxHeartbeats 400000 in
theorem has_any (w : World) (v : Value) (xs : List Int) (n : Int) (hv : IntsAt w v xs) :
    Calls Try.prog 43 #[v, .int .i64 n] w fun e w' => e = .returned (.bool (hasI xs n)) ∧ w = w' := by
  rcases hv with ⟨rfl, a, c, rfl⟩ | ⟨b, off, c, rfl, hm, hc⟩
  · go_enter Try.func43, Try.ntmps43
    go_wp2
    go_loop [5] (fun i => i = .int .i64 0) (fun _ => 0)
    case atStart => rfl
    case round =>
      subst hrel
      go_wp2
      go_ret
      exact ⟨rfl, rfl⟩
  · go_enter Try.func43, Try.ntmps43
    go_wp2
    go_loop [5] (fun i => ∃ k : Nat, k ≤ xs.length ∧ i = .int .i64 k ∧ hasI (xs.take k) n = false) (fun i => xs.length - (intOf i).toNat)
    case atStart => exact ⟨0, Nat.zero_le _, rfl, rfl⟩
    case round =>
      obtain ⟨k, hk, rfl, hno⟩ := hrel
      by_cases hlt : k < xs.length
      · have hcell := hc k hlt
        have HT := Lib.hid (contains_take_succ xs k n hlt)
        have HN := Lib.hid hno
        clear hno hc
        generalize xs.getD k 0 = x at *
        cases hx : (x == n)
        · have HF : Hid (hasI (xs.take (k + 1)) n = false) := by rw [Hid, HT.out, HN.out, hx]; rfl
          go_wp2
          go_round
          case rel => exact ⟨k + 1, by omega, by go_num, HF.out⟩
          case measure => simp [intOf]; omega
        · have HF : Hid (hasI xs n = true) := contains_take_all xs (k + 1) n (by rw [HT.out, HN.out, hx]; rfl)
          go_wp2
          go_ret
          exact ⟨by rw [HF.out]; rfl, rfl⟩
      · have HF : Hid (hasI xs n = false) := by rw [Hid, ← hno, List.take_of_length_le (by omega)]
        clear hno
        go_wp2
        go_ret
        exact ⟨by rw [HF.out]; rfl, rfl⟩

set_option maxHeartbeats 400000 in
theorem refExists_any (v : TabV) (t : Tab) (x : Int) (w : World) (hn : t.types.length ≤ 9223372036854775807) : Calls Try.prog 29 #[.agg (v.cells t), .int .i64 x] w (RetB (exI t.types.length x) w) := by
  unfold TabV.cells
  by_cases h0 : 0 ≤ x
  · by_cases h1 : x < t.types.length
    · have HF : Hid (exI t.types.length x = true) := by simp [Hid, exI, h0, h1]
      go_enter Try.func29, Try.ntmps29
      go_wp2
      go_ret
      rw [HF.out]
      exact ⟨rfl, Kept.alloc _ _ _⟩
    · have HF : Hid (exI t.types.length x = false) := by simp [Hid, exI, h1]
      go_enter Try.func29, Try.ntmps29
      go_wp2
      go_ret
      rw [HF.out]
      exact ⟨rfl, Kept.alloc _ _ _⟩
  · have HF : Hid (exI t.types.length x = false) := by simp [Hid, exI, h0]
    go_enter Try.func29, Try.ntmps29
    go_wp2
    go_ret
    rw [HF.out]
    exact ⟨rfl, Kept.alloc _ _ _⟩

/-- A slice of ints that is read, with its capacity. -/
def IntsC (w : World) (v : Value) (xs : List Int) : Prop :=
  ∃ a c, v = .slice a xs.length c ∧ xs.length ≤ c ∧ c ≤ 9223372036854775807 ∧ (a = none → c = 0) ∧ (xs = [] ∨ ∃ b off, a = some ⟨b, off, none⟩ ∧ ∀ (j : Nat) (x : Int), xs[j]? = some x → w.cell? ⟨b, off + j, none⟩ = some (.int .i64 x))

theorem IntsC.ints {w : World} {v : Value} {xs : List Int} (h : IntsC w v xs) : IntsAt w v xs := by
  obtain ⟨a, c, rfl, h1, h2, _, h3⟩ := h
  rcases h3 with rfl | ⟨b, off, rfl, hc⟩
  · exact .inl ⟨rfl, a, c, rfl⟩
  · exact .inr ⟨b, off, c, rfl, by omega, fun j hj => by rw [hc j xs[j] (List.getElem?_eq_getElem hj)]; simp [List.getD, hj]⟩
theorem IntsC.kept {w w' : World} {v : Value} {xs : List Int} (h : IntsC w v xs) (hk : Kept [] w w') : IntsC w' v xs := by
  obtain ⟨a, c, rfl, h1, h2, h4, h3⟩ := h
  refine ⟨a, c, rfl, h1, h2, h4, ?_⟩
  rcases h3 with rfl | ⟨b, off, rfl, hc⟩
  · exact .inl rfl
  · exact .inr ⟨b, off, rfl, fun j x hx => hk.cell (hc j x hx) (by simp)⟩
theorem IntsC.of_owns {w : World} {base : Nat} {v : Value} {xs : List Int} (h : w.ownsRow base 3 1 v xs.length (xs.map (Value.int .i64))) : IntsC w v xs := by
  rcases h.2 with ⟨rfl, hn⟩ | ⟨g, cap, cur, rfl, hb, hg, hcap, hmax, _⟩
  · exact ⟨none, 0, by rw [hn], by omega, by omega, fun _ => rfl, .inl (List.eq_nil_of_length_eq_zero hn)⟩
  · refine ⟨_, cap, rfl, hcap, by unfold maxLen at hmax; omega, (fun h => by cases h), .inr ⟨g, 0, rfl, fun j x hx => ?_⟩⟩
    have := h.cells (g := g) rfl j (.int .i64 x) (by simp [hx])
    rwa [Addr.add_mid] at this

theorem tw_lt (p : Int → Bool) : ∀ (xs : List Int) (j : Nat) (x : Int), j < (xs.takeWhile p).length → xs[j]? = some x → p x = true := by
  intro xs
  induction xs with
  | nil => intro j x h; simp at h
  | cons a xs ih =>
    intro j x hj hx
    rw [List.takeWhile_cons] at hj
    cases hp : p a
    · simp [hp] at hj
    · simp only [hp, if_true, List.length_cons] at hj
      cases j with
      | zero => simp at hx; subst hx; exact hp
      | succ j => exact ih j x (by omega) (by simpa using hx)
theorem tw_end (p : Int → Bool) : ∀ (xs : List Int) (x : Int), xs[(xs.takeWhile p).length]? = some x → p x = false := by
  intro xs
  induction xs with
  | nil => intro x h; simp at h
  | cons a xs ih =>
    intro x hx
    rw [List.takeWhile_cons] at hx
    cases hp : p a
    · simp [hp] at hx; subst hx; exact hp
    · simp only [hp, if_true, List.length_cons, List.getElem?_cons_succ] at hx
      exact ih x hx
theorem tw_le (p : Int → Bool) (xs : List Int) : (xs.takeWhile p).length ≤ xs.length := (List.takeWhile_prefix p).length_le
theorem tw_take (p : Int → Bool) (xs : List Int) : xs.takeWhile p = xs.take (xs.takeWhile p).length := List.prefix_iff_eq_take.1 (List.takeWhile_prefix p)

theorem own_shape {w : World} {base e size n : Nat} {v : Value} {xs : List Value} (h : w.ownsRow base e size v n xs) : ∃ A c, v = .slice A n c := by
  rcases h.2 with ⟨rfl, hn⟩ | ⟨g, cap, cur, rfl, _⟩
  · exact ⟨none, 0, by rw [hn]⟩
  · exact ⟨_, cap, rfl⟩

theorem src_drop {w : World} {xs : List Int} {b off : Nat} (j : Nat) (hc : ∀ (i : Nat) (x : Int), xs[i]? = some x → w.cell? ⟨b, off + i, none⟩ = some (.int .i64 x)) : SrcAt w 1 (some ⟨b, off + j, none⟩) (xs.length - j) ((xs.drop j).map (Value.int .i64)) := by
  refine ⟨by simp, fun _ => ⟨_, rfl, fun i u hu => ?_⟩⟩
  rw [List.getElem?_map, List.getElem?_drop] at hu
  cases hx : xs[j + i]? with
  | none => rw [hx] at hu; cases hu
  | some x =>
    rw [hx] at hu
    simp only [Option.map_some, Option.some.injEq] at hu
    subst hu
    rw [Addr.add_mid, Nat.add_assoc]
    exact hc _ _ hx
theorem own_at {w : World} {base e size n : Nat} {v : Value} {xs : List Value} (h : w.ownsRow base e size v n xs) : ∀ k, v.ownBlock = some k → base ≤ k := fun k hk => (h.lt k hk).1
theorem src_none {w : World} {xs : List Int} (j : Nat) (h : xs.length ≤ j) (A : Option Addr) : SrcAt w 1 A (xs.length - j) ((xs.drop j).map (Value.int .i64)) := by
  rw [List.drop_eq_nil_of_le h, Nat.sub_eq_zero_of_le h]
  exact SrcAt.zero _ _ _
theorem ints_one (xs : List Int) : ∀ u, u ∈ xs.map (Value.int .i64) → u.oneCell' = true := by
  intro u hu
  obtain ⟨x, _, rfl⟩ := List.mem_map.1 hu
  rfl
theorem with_end {w w2 : World} {B j : Nat} {v2 : Value} {xs ys : List Int} {n : Int} (hj : j ≤ xs.length) (hy : ys = xs.take j ++ ([n] ++ xs.drop j)) (h : w2.ownsRow B 3 1 v2 (j + 1 + (xs.length - j)) ((xs.take j).map (Value.int .i64) ++ [.int .i64 n] ++ (xs.drop j).map (Value.int .i64))) (hb : Below w.heap.size w w2) :
    IntsC w2 v2 ys ∧ Kept [] w w2 := by
  refine ⟨IntsC.of_owns (base := B) ?_, Kept.of_below hb⟩
  have h1 : ys.length = j + 1 + (xs.length - j) := by rw [hy]; simp; omega
  have h2 : ys.map (Value.int .i64) = (xs.take j).map (Value.int .i64) ++ [.int .i64 n] ++ (xs.drop j).map (Value.int .i64) := by rw [hy]; simp
  rw [h1, h2]
  exact h

theorem with_end0 {w w2 : World} {B j : Nat} {v2 : Value} {xs ys : List Int} {n : Int} (hj : j ≤ xs.length) (hx : xs.length ≤ j) (hy : ys = xs.take j ++ ([n] ++ xs.drop j)) (h : w2.ownsRow B 3 1 v2 (j + 1 + 0) ((xs.take j).map (Value.int .i64) ++ [.int .i64 n] ++ [])) (hb : Below w.heap.size w w2) :
    IntsC w2 v2 ys ∧ Kept [] w w2 :=
  with_end hj hy (by rw [List.drop_eq_nil_of_le hx, Nat.sub_eq_zero_of_le hx]; exact h) hb
theorem one_nil : ∀ u, u ∈ ([] : List Value) → u.oneCell' = true := by intro u hu; simp at hu

/-- A new list of ints. -/
def RetC (xs : List Int) (w : World) (e : Ending) (w' : World) : Prop := ∃ v, e = .returned v ∧ IntsC w' v xs ∧ Kept [] w w'

set_option maxRecDepth 100000 in
set_option maxHeartbeats 1000000 in
theorem with_nil (w : World) (a : Option Addr) (c : Nat) (n : Int) (hnone : a = none → c = 0) (hcm : c ≤ 9223372036854775807) : Calls Try.prog 30 #[.slice a 0 c, .int .i64 n] w (RetC [n] w) := by
  obtain ⟨i0, hi, hz0, hz1, hz2⟩ := info_parts Try.info3
  cases a with
  | none =>
    obtain rfl := hnone rfl
    clear hnone
    go_enter Try.func30, Try.ntmps30
    go_wp2_with fail
    refine (has_any w _ [] n (.inl ⟨rfl, _, _, rfl⟩)).mono ?_
    rintro e w1 ⟨rfl, rfl⟩
    rw [show hasI [] n = false from rfl]
    go_wp2_with fail
    go_loopw [5, 6] (fun lv i wr => lv = .slice none 0 0 ∧ i = .int .i64 0 ∧ wr = w) (fun _ _ _ => 0)
    case atStart => exact ⟨rfl, rfl, rfl⟩
    case round =>
      obtain ⟨rfl, rfl, rfl⟩ := hrel
      have hA : 0 + 1 ≤ maxLen := by unfold maxLen; omega
      have hB : (0 + 1) * 8 ≤ 140737488355328 := by omega
      have hC : wr.heap.size ≤ (wr.alloc (.cells #[.int .i64 n] 3)).heap.size := by simp
      go_wp2_with (first
        | (at_builtin; refine wpList_append_own _ rfl (.tmp 35) (.tmp 37) 38 rfl wr.heap.size 3 i0 (.int .i64 0) 1 8 Try.underlying38 hi hz0 hz1 hz2 rfl (by decide) _ _ _ rfl (World.ownsRow_nil _ _ _ _) ⟨wr.heap.size, 0, none⟩ 1 1 [.int .i64 n] rfl rfl (cell_one_new _ _ _) (one_int _ _) hA hB hC ?_; intro v1 w1 hown1 hg1 hnil1; have HB1 := Lib.hid (((Below.refl wr.heap.size wr).alloc (Nat.le_refl _) _).grown hg1 (by simp) (fun g hg => by cases hg)); have HO1 := Lib.hid hown1; have HAT1 := Lib.hid (own_at hown1); have hC1 := HB1.out.size; clear hown1 hg1 hnil1)
        | (at_builtin; refine wpList_append_src _ rfl (.tmp 39) (.tmp 42) 38 rfl wr.heap.size 3 i0 (.int .i64 0) 1 8 Try.underlying38 hi hz0 hz1 hz2 rfl (by decide) _ _ _ rfl HO1.out _ 0 _ [] rfl (SrcAt.zero _ _ _) one_nil hA hB hC1 ?_; intro v2 w2 hown2 hg2 hat2; have HR := Lib.hid (with_end0 (w := wr) (j := 0) (xs := []) (ys := [n]) (Nat.le_refl _) (Nat.le_refl _) rfl hown2 (HB1.out.grown hg2 hC1 HAT1.out)); clear hown2 hg2 hat2))
      go_wp2_with fail
      go_ret
      exact ⟨_, rfl, HR.out.1, HR.out.2⟩
  | some ad =>
    clear hnone
    by_cases hc0 : c = 0
    · subst hc0
      go_enter Try.func30, Try.ntmps30
      go_wp2_with fail
      refine (has_any w _ [] n (.inl ⟨rfl, _, _, rfl⟩)).mono ?_
      rintro e w1 ⟨rfl, rfl⟩
      rw [show hasI [] n = false from rfl]
      go_wp2_with fail
      go_loopw [5, 6] (fun lv i wr => lv = .slice none 0 0 ∧ i = .int .i64 0 ∧ wr = w) (fun _ _ _ => 0)
      case atStart => exact ⟨rfl, rfl, rfl⟩
      case round =>
        obtain ⟨rfl, rfl, rfl⟩ := hrel
        have hA : 0 + 1 ≤ maxLen := by unfold maxLen; omega
        have hB : (0 + 1) * 8 ≤ 140737488355328 := by omega
        have hC : wr.heap.size ≤ (wr.alloc (.cells #[.int .i64 n] 3)).heap.size := by simp
        go_wp2_with (first
          | (at_builtin; refine wpList_append_own _ rfl (.tmp 35) (.tmp 37) 38 rfl wr.heap.size 3 i0 (.int .i64 0) 1 8 Try.underlying38 hi hz0 hz1 hz2 rfl (by decide) _ _ _ rfl (World.ownsRow_nil _ _ _ _) ⟨wr.heap.size, 0, none⟩ 1 1 [.int .i64 n] rfl rfl (cell_one_new _ _ _) (one_int _ _) hA hB hC ?_; intro v1 w1 hown1 hg1 hnil1; have HB1 := Lib.hid (((Below.refl wr.heap.size wr).alloc (Nat.le_refl _) _).grown hg1 (by simp) (fun g hg => by cases hg)); have HO1 := Lib.hid hown1; have HAT1 := Lib.hid (own_at hown1); have hC1 := HB1.out.size; clear hown1 hg1 hnil1)
          | (at_builtin; refine wpList_append_src _ rfl (.tmp 39) (.tmp 42) 38 rfl wr.heap.size 3 i0 (.int .i64 0) 1 8 Try.underlying38 hi hz0 hz1 hz2 rfl (by decide) _ _ _ rfl HO1.out _ 0 _ [] rfl (SrcAt.zero _ _ _) one_nil hA hB hC1 ?_; intro v2 w2 hown2 hg2 hat2; have HR := Lib.hid (with_end0 (w := wr) (j := 0) (xs := []) (ys := [n]) (Nat.le_refl _) (Nat.le_refl _) rfl hown2 (HB1.out.grown hg2 hC1 HAT1.out)); clear hown2 hg2 hat2))
        go_wp2_with fail
        go_ret
        exact ⟨_, rfl, HR.out.1, HR.out.2⟩
    · have hc1 : 0 < c := by omega
      go_enter Try.func30, Try.ntmps30
      go_wp2_with fail
      refine (has_any w _ [] n (.inl ⟨rfl, _, _, rfl⟩)).mono ?_
      rintro e w1 ⟨rfl, rfl⟩
      rw [show hasI [] n = false from rfl]
      go_wp2_with fail
      go_loopw [5, 6] (fun lv i wr => lv = .slice none 0 0 ∧ i = .int .i64 0 ∧ wr = w) (fun _ _ _ => 0)
      case atStart => exact ⟨rfl, rfl, rfl⟩
      case round =>
        obtain ⟨rfl, rfl, rfl⟩ := hrel
        have hA : 0 + 1 ≤ maxLen := by unfold maxLen; omega
        have hB : (0 + 1) * 8 ≤ 140737488355328 := by omega
        have hC : wr.heap.size ≤ (wr.alloc (.cells #[.int .i64 n] 3)).heap.size := by simp
        go_wp2_with (first
          | (at_builtin; refine wpList_append_own _ rfl (.tmp 35) (.tmp 37) 38 rfl wr.heap.size 3 i0 (.int .i64 0) 1 8 Try.underlying38 hi hz0 hz1 hz2 rfl (by decide) _ _ _ rfl (World.ownsRow_nil _ _ _ _) ⟨wr.heap.size, 0, none⟩ 1 1 [.int .i64 n] rfl rfl (cell_one_new _ _ _) (one_int _ _) hA hB hC ?_; intro v1 w1 hown1 hg1 hnil1; have HB1 := Lib.hid (((Below.refl wr.heap.size wr).alloc (Nat.le_refl _) _).grown hg1 (by simp) (fun g hg => by cases hg)); have HO1 := Lib.hid hown1; have HAT1 := Lib.hid (own_at hown1); have hC1 := HB1.out.size; clear hown1 hg1 hnil1)
          | (at_builtin; refine wpList_append_src _ rfl (.tmp 39) (.tmp 42) 38 rfl wr.heap.size 3 i0 (.int .i64 0) 1 8 Try.underlying38 hi hz0 hz1 hz2 rfl (by decide) _ _ _ rfl HO1.out _ 0 _ [] rfl (SrcAt.zero _ _ _) one_nil hA hB hC1 ?_; intro v2 w2 hown2 hg2 hat2; have HR := Lib.hid (with_end0 (w := wr) (j := 0) (xs := []) (ys := [n]) (Nat.le_refl _) (Nat.le_refl _) rfl hown2 (HB1.out.grown hg2 hC1 HAT1.out)); clear hown2 hg2 hat2))
        go_wp2_with fail
        go_ret
        exact ⟨_, rfl, HR.out.1, HR.out.2⟩

set_option maxRecDepth 100000 in
set_option maxHeartbeats 1000000 in
theorem with_any (w : World) (v : Value) (xs : List Int) (n : Int) (hv : IntsC w v xs) (hl : xs.length ≤ 2000000) : Calls Try.prog 30 #[v, .int .i64 n] w (RetC (withR xs n) w) := by
  have HV := Lib.hid hv
  obtain ⟨a, c, rfl, hlc, hcm, hnone, hcell⟩ := hv
  have HC := Lib.hid hcell
  clear hcell
  cases hc : hasI xs n
  · obtain ⟨k, hk⟩ : ∃ k, k = (xs.takeWhile (fun x => decide (x < n))).length := ⟨_, rfl⟩
    have HX : Hid (withR xs n = xs.take k ++ ([n] ++ xs.drop k)) := by
      have : xs.contains n = false := hc
      rw [Hid]; unfold withR; rw [this, if_neg (by simp), hk, ← tw_take]; rfl
    have hkl : k ≤ xs.length := by rw [hk]; exact tw_le _ _
    have HLT : Hid (∀ j x, j < k → xs[j]? = some x → x < n) := fun j x hj hx => by
      have := tw_lt (fun x => decide (x < n)) xs j x (by rw [← hk]; exact hj) hx
      simpa using this
    have HGE : Hid (∀ x, xs[k]? = some x → ¬ x < n) := fun x hx => by
      have := tw_end (fun x => decide (x < n)) xs x (by rw [← hk]; exact hx)
      simpa using this
    have HH := Lib.hid hc
    clear hk hc
    obtain ⟨i0, hi, hz0, hz1, hz2⟩ := info_parts Try.info3
    rcases HC.out with hnil | ⟨b, off, rfl, hcell⟩
    · subst hnil
      obtain rfl : k = 0 := by simpa using hkl
      rw [HX.out]
      exact with_nil w a c n hnone hcm
    · have HCELL := Lib.hid hcell
      clear hcell hnone
      go_enter Try.func30, Try.ntmps30
      go_wp2_with fail
      refine (has_any w _ xs n HV.out.ints).mono ?_
      rintro e w1 ⟨rfl, rfl⟩
      rw [HH.out]
      go_wp2_with fail
      go_loopw [5, 6] (fun lv i wr => ∃ j : Nat, j ≤ k ∧ i = .int .i64 j ∧ wr.ownsRow w.heap.size 3 1 lv (xs.take j).length ((xs.take j).map (Value.int .i64)) ∧ Below w.heap.size w wr) (fun _ i _ => k - (intOf i).toNat)
      case atStart => exact ⟨0, Nat.zero_le _, rfl, World.ownsRow_nil _ _ _ _, Below.refl _ _⟩
      case round =>
        obtain ⟨j, hj, rfl, hown, hkr⟩ := hrel
        have HKR := Lib.hid hkr
        have hzr := hkr.size
        have htl : (xs.take j).length = j := by simp; omega
        clear hkr
        by_cases hlt : j < k
        · obtain ⟨x, hx⟩ : ∃ x, xs[j]? = some x := ⟨_, List.getElem?_eq_getElem (by omega)⟩
          have hxn := HLT.out j x hlt hx
          have q := cell_kept' HKR.out (HCELL.out j x hx)
          have HS : Hid (xs.take (j + 1) = xs.take j ++ [x]) := by
            obtain ⟨h1, rfl⟩ := List.getElem?_eq_some_iff.1 hx
            exact List.take_succ_eq_append_getElem h1
          have hjl : j < xs.length := by omega
          rw [htl] at hown
          have HTL := Lib.hid htl
          clear hx htl
          have hA : j + 1 ≤ maxLen := by unfold maxLen; omega
          have hB : (j + 1) * 8 ≤ 140737488355328 := by omega
          have hC : w.heap.size ≤ (wr.alloc (.cells #[.int .i64 x] 3)).heap.size := by simp; omega
          go_wp2_with (at_builtin; refine wpList_append_own _ rfl _ _ 38 rfl w.heap.size 3 i0 (.int .i64 0) 1 8 Try.underlying38 hi hz0 hz1 hz2 rfl (by decide) _ _ _ rfl (hown.alloc _) ⟨wr.heap.size, 0, none⟩ 1 1 [.int .i64 x] rfl rfl (cell_one_new _ _ _) (one_int _ _) hA hB hC ?_; intro v1 w1 hown1 hg1 hnil1)
          have HR : Hid (w1.ownsRow w.heap.size 3 1 v1 (xs.take (j + 1)).length ((xs.take (j + 1)).map (Value.int .i64)) ∧ Below w.heap.size w w1) := by
            refine ⟨?_, (HKR.out.alloc hzr _).grown hg1 (by simp; omega) (fun g hg => (hown.lt g hg).1)⟩
            rw [HS.out, List.length_append, List.map_append, HTL.out]; exact hown1
          clear hown1 hg1 hnil1 hown
          go_wp2_with fail
          go_roundw
          case rel => exact ⟨j + 1, by omega, by go_num, HR.out⟩
          case measure => simp [intOf]; omega
        · obtain rfl : j = k := by omega
          have i1 : (0 : Int) ≤ (j : Int) := by omega
          have i2 : (j : Int) ≤ (xs.length : Int) := by omega
          rw [htl] at hown
          have HTL := Lib.hid htl
          clear htl
          have hA : j + 1 ≤ maxLen := by unfold maxLen; omega
          have hB : (j + 1) * 8 ≤ 140737488355328 := by omega
          have hC : w.heap.size ≤ (wr.alloc (.cells #[.int .i64 n] 3)).heap.size := by simp; omega
          obtain ⟨A5, c5, rfl⟩ := own_shape hown
          have hA2 : j + 1 + (xs.length - j) ≤ maxLen := by unfold maxLen; omega
          have hB2 : (j + 1 + (xs.length - j)) * 8 ≤ 140737488355328 := by omega
          by_cases hjl : j < xs.length
          · obtain ⟨x, hx⟩ : ∃ x, xs[j]? = some x := ⟨_, List.getElem?_eq_getElem hjl⟩
            have hge := HGE.out x hx
            have hge' : decide (x < n) = false := by simpa using hge
            have q := cell_kept' HKR.out (HCELL.out j x hx)
            clear hx
            go_wp2_with (first
              | (at_builtin; refine wpList_append_own _ rfl (.tmp 35) (.tmp 37) 38 rfl w.heap.size 3 i0 (.int .i64 0) 1 8 Try.underlying38 hi hz0 hz1 hz2 rfl (by decide) _ _ _ rfl (hown.alloc _) ⟨wr.heap.size, 0, none⟩ 1 1 [.int .i64 n] rfl rfl (cell_one_new _ _ _) (one_int _ _) hA hB hC ?_; intro v1 w1 hown1 hg1 hnil1; have HB1 := Lib.hid ((HKR.out.alloc hzr _).grown hg1 (by simp; omega) (fun g hg => (hown.lt g hg).1)); have HO1 := Lib.hid hown1; have HAT1 := Lib.hid (own_at hown1); have hC1 := HB1.out.size; clear hown1 hg1 hnil1)
              | (at_builtin; refine wpList_append_src _ rfl (.tmp 39) (.tmp 42) 38 rfl w.heap.size 3 i0 (.int .i64 0) 1 8 Try.underlying38 hi hz0 hz1 hz2 rfl (by decide) _ _ _ rfl HO1.out _ (xs.length - j) _ ((xs.drop j).map (Value.int .i64)) rfl (src_drop j (fun i x h => cell_kept' HB1.out (HCELL.out i x h))) (ints_one _) hA2 hB2 hC1 ?_; intro v2 w2 hown2 hg2 hat2; have HR := Lib.hid (with_end (w := w) hkl HX.out hown2 (HB1.out.grown hg2 hC1 HAT1.out)); clear hown2 hg2 hat2))
            go_wp2_with fail
            go_ret
            exact ⟨_, rfl, HR.out.1, HR.out.2⟩
          · have hjx : xs.length ≤ j := by omega
            by_cases hcj : c = j
            · have hcj1 : ¬ j < c := by omega
              go_wp2_with (first
                | (at_builtin; refine wpList_append_own _ rfl (.tmp 35) (.tmp 37) 38 rfl w.heap.size 3 i0 (.int .i64 0) 1 8 Try.underlying38 hi hz0 hz1 hz2 rfl (by decide) _ _ _ rfl (hown.alloc _) ⟨wr.heap.size, 0, none⟩ 1 1 [.int .i64 n] rfl rfl (cell_one_new _ _ _) (one_int _ _) hA hB hC ?_; intro v1 w1 hown1 hg1 hnil1; have HB1 := Lib.hid ((HKR.out.alloc hzr _).grown hg1 (by simp; omega) (fun g hg => (hown.lt g hg).1)); have HO1 := Lib.hid hown1; have HAT1 := Lib.hid (own_at hown1); have hC1 := HB1.out.size; clear hown1 hg1 hnil1)
                | (at_builtin; refine wpList_append_src _ rfl (.tmp 39) (.tmp 42) 38 rfl w.heap.size 3 i0 (.int .i64 0) 1 8 Try.underlying38 hi hz0 hz1 hz2 rfl (by decide) _ _ _ rfl HO1.out _ 0 _ [] rfl (SrcAt.zero _ _ _) one_nil hA hB hC1 ?_; intro v2 w2 hown2 hg2 hat2; have HR := Lib.hid (with_end0 (w := w) hkl hjx HX.out hown2 (HB1.out.grown hg2 hC1 HAT1.out)); clear hown2 hg2 hat2))
              go_wp2_with fail
              go_ret
              exact ⟨_, rfl, HR.out.1, HR.out.2⟩
            · have hcj1 : j < c := by omega
              go_wp2_with (first
                | (at_builtin; refine wpList_append_own _ rfl (.tmp 35) (.tmp 37) 38 rfl w.heap.size 3 i0 (.int .i64 0) 1 8 Try.underlying38 hi hz0 hz1 hz2 rfl (by decide) _ _ _ rfl (hown.alloc _) ⟨wr.heap.size, 0, none⟩ 1 1 [.int .i64 n] rfl rfl (cell_one_new _ _ _) (one_int _ _) hA hB hC ?_; intro v1 w1 hown1 hg1 hnil1; have HB1 := Lib.hid ((HKR.out.alloc hzr _).grown hg1 (by simp; omega) (fun g hg => (hown.lt g hg).1)); have HO1 := Lib.hid hown1; have HAT1 := Lib.hid (own_at hown1); have hC1 := HB1.out.size; clear hown1 hg1 hnil1)
                | (at_builtin; refine wpList_append_src _ rfl (.tmp 39) (.tmp 42) 38 rfl w.heap.size 3 i0 (.int .i64 0) 1 8 Try.underlying38 hi hz0 hz1 hz2 rfl (by decide) _ _ _ rfl HO1.out _ 0 _ [] rfl (SrcAt.zero _ _ _) one_nil hA hB hC1 ?_; intro v2 w2 hown2 hg2 hat2; have HR := Lib.hid (with_end0 (w := w) hkl hjx HX.out hown2 (HB1.out.grown hg2 hC1 HAT1.out)); clear hown2 hg2 hat2))
              go_wp2_with fail
              go_ret
              exact ⟨_, rfl, HR.out.1, HR.out.2⟩
  · have HX : Hid (withR xs n = xs) := by
      have : xs.contains n = true := hc
      rw [Hid]; unfold withR; rw [if_pos this]
    have HH := Lib.hid hc
    clear hc hnone
    go_enter Try.func30, Try.ntmps30
    go_wp2_with fail
    refine (has_any w _ xs n HV.out.ints).mono ?_
    rintro e w1 ⟨rfl, rfl⟩
    rw [HH.out]
    go_wp2_with fail
    go_ret
    rw [HX.out]
    exact ⟨_, rfl, HV.out, Kept.refl _ _⟩
#print axioms has_any
end Go.Proofs.Ytbjnoffdafpkgaa
