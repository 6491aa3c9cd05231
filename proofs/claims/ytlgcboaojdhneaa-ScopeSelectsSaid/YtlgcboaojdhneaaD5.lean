/- The reference's sorted. -/
import Derived.Test.YtlgcboaojdhneaaD2
namespace Go.Proofs.Ytlgcboaojdhneaa
open Go.RowKit

def ltB (x y : Int) : Bool := decide (y < x)
/-- A number into an ascending list. -/
def insR (out : List Int) (x : Int) : List Int := (out.takeWhile (ltB x) ++ [x]) ++ out.dropWhile (ltB x)
def sortedR (l : List Int) : List Int := l.foldl insR []
theorem sortedR_snoc (l : List Int) (x : Int) : sortedR (l ++ [x]) = insR (sortedR l) x := by simp [sortedR]
theorem insR_len (out : List Int) (x : Int) : (insR out x).length = out.length + 1 := by
  have h := congrArg List.length (List.takeWhile_append_dropWhile (p := ltB x) (l := out))
  unfold insR
  simp only [List.length_append, List.length_singleton] at h ⊢
  omega
theorem sortedR_len (l : List Int) : (sortedR l).length = l.length := by
  suffices h : ∀ (l out : List Int), (l.foldl insR out).length = out.length + l.length by simpa [sortedR] using h l []
  intro l
  induction l with
  | nil => intro out; simp
  | cons x l ih => intro out; rw [List.foldl_cons, ih, insR_len, List.length_cons]; omega
theorem insR_at {out : List Int} {x : Int} {k : Nat} (h1 : (out.take k).all (ltB x) = true) (h2 : ∀ y, out[k]? = some y → ltB x y = false) : out.takeWhile (ltB x) = out.take k ∧ out.dropWhile (ltB x) = out.drop k := by
  have ha : ∀ a ∈ out.take k, ltB x a = true := fun a ha => List.all_eq_true.1 h1 a ha
  have hd : (out.drop k).takeWhile (ltB x) = [] ∧ (out.drop k).dropWhile (ltB x) = out.drop k := by
    cases hc : out.drop k with
    | nil => exact ⟨rfl, rfl⟩
    | cons y ys =>
      have hy : out[k]? = some y := by
        have := congrArg (fun l => l[0]?) hc
        simpa using this
      have := h2 y hy
      constructor
      · simp [List.takeWhile, this]
      · simp [List.dropWhile, this]
  have e : out = out.take k ++ out.drop k := (List.take_append_drop k out).symm
  constructor
  · conv => lhs; rw [e]
    rw [List.takeWhile_append_of_pos ha, hd.1, List.append_nil]
  · conv => lhs; rw [e]
    rw [List.dropWhile_append_of_pos ha, hd.2]

theorem src_take {w : World} {xs : List Int} {b off k : Nat} (hc : ∀ (i : Nat) (x : Int), xs[i]? = some x → w.cell? ⟨b, off + i, none⟩ = some (.int .i64 x)) (hk : k ≤ xs.length) : SrcAt w 1 (some ⟨b, off, none⟩) k ((xs.take k).map (Value.int .i64)) := by
  refine ⟨by simp; omega, fun _ => ⟨_, rfl, fun i u hu => ?_⟩⟩
  rw [List.getElem?_map] at hu
  cases hx : (xs.take k)[i]? with
  | none => rw [hx] at hu; cases hu
  | some x =>
    rw [hx] at hu
    simp only [Option.map_some, Option.some.injEq] at hu
    subst hu
    rw [Addr.add_mid]
    refine hc _ _ ?_
    rw [List.getElem?_take] at hx
    split at hx
    · exact hx
    · cases hx

set_option maxRecDepth 100000 in
set_option maxHeartbeats 4000000 in
theorem sorted_any (w : World) (a : Option Addr) (c : Nat) (l : List Int) (hc : l.length ≤ c) (hm : c ≤ 9223372036854775807) (hI : IntsIn w a l) (hl : l.length ≤ 1000000000000) :
    Calls Try.prog 52 #[.slice a l.length c] w (RetO (sortedR l) w) := by
  have HI := Lib.hid hI
  obtain ⟨i0, hi, hz0, hz1, hz2⟩ := info_parts int_info
  clear hI
  go_enter Try.func52, Try.ntmps52
  go_wp2_with fail
  go_loopw [3, 4] (fun v i wr => ∃ k : Nat, k ≤ l.length ∧ i = .int .i64 k ∧ wr.ownsRow w.heap.size 3 1 v (sortedR (l.take k)).length ((sortedR (l.take k)).map (Value.int .i64)) ∧ Kept [] w wr) (fun _ i _ => l.length - (intOf i).toNat)
  case atStart => exact ⟨0, Nat.zero_le _, rfl, World.ownsRow_nil _ _ _ _, Kept.refl _ _⟩
  case round =>
    obtain ⟨k, hk, rfl, ho, hkr⟩ := hrel
    obtain ⟨A3, c3, rfl⟩ := own_shape ho
    obtain ⟨wo, rfl⟩ : ∃ wo : World, wo = wr := ⟨_, rfl⟩
    have HO := Lib.hid ho
    have HKR := Lib.hid hkr
    have HLN := Lib.hid (sortedR_len (l.take k))
    clear ho hkr
    by_cases hlt : k < l.length
    · obtain ⟨x, hx⟩ : ∃ x, l[k]? = some x := ⟨_, List.getElem?_eq_getElem hlt⟩
      have HSN : Hid (sortedR (l.take (k + 1)) = insR (sortedR (l.take k)) x) := by
        obtain ⟨hk', e⟩ := List.getElem?_eq_some_iff.1 hx
        rw [Hid, List.take_succ_eq_append_getElem hk', e, sortedR_snoc]
      have hol : (sortedR (l.take k)).length ≤ 1000000000000 := by rw [HLN.out, List.length_take]; omega
      rcases HI.out with hn | ⟨bl, ol, rfl, hcl⟩
      · rw [hn] at hlt; simp at hlt
      have HQX := Lib.hid (HKR.out.cell (hcl k x hx) (by simp))
      obtain ⟨_, hin, h31, h32, h33⟩ := (IntsC.of_owns HO.out).at_
      have HIN := Lib.hid hin
      have HSH : Hid (A3 = none ∨ ∃ g, A3 = some ⟨g, 0, none⟩) := by
        rcases HO.out.2 with ⟨h, _⟩ | ⟨g, cap, cur, h, _⟩
        · left; injection h
        · right; injection h with h; exact ⟨g, h⟩
      clear hx hcl hin HLN
      generalize sortedR (l.take k) = out at *
      go_upto_block 2 with (fail)
      go_cut [5] (fun v5 wc => ∃ q : Nat, q ≤ out.length ∧ v5 = .int .i64 q ∧ (out.takeWhile (ltB x) = out.take q ∧ out.dropWhile (ltB x) = out.drop q) ∧ Kept [] wo wc)
      case first =>
        go_wp2_with fail
        go_loopw [5] (fun i wr => ∃ q : Nat, q ≤ out.length ∧ i = .int .i64 q ∧ (out.take q).all (ltB x) = true ∧ Kept [] wo wr) (fun i _ => out.length - (intOf i).toNat)
        case atStart => exact ⟨0, Nat.zero_le _, rfl, rfl, Kept.refl _ _⟩
        case round =>
          obtain ⟨q, hq, rfl, hall, hkr⟩ := hrel
          have HAL := Lib.hid hall
          have HK2 := Lib.hid hkr
          clear hall hkr
          by_cases hlq : q < out.length
          · obtain ⟨y, hy⟩ : ∃ y, out[q]? = some y := ⟨_, List.getElem?_eq_getElem hlq⟩
            rcases HIN.out with hn | ⟨bo, oo, rfl, hco⟩
            · rw [hn] at hlq; simp at hlq
            have qy := HK2.out.cell (hco q y hy) (by simp)
            have qx := HK2.out.cell HQX.out (by simp)
            have HY := Lib.hid hy
            have hjq : decide ((q : Int) < (out.length : Int)) = true := by simp; omega
            have j1 : (0 : Int) ≤ (q : Int) := by omega
            have j2 : (q : Int) < (out.length : Int) := by omega
            have j3 : (0 : Int) ≤ (k : Int) := by omega
            have j4 : (k : Int) < (l.length : Int) := by omega
            clear hy hco
            cases hxy : decide (y < x)
            · have HE := Lib.hid (insR_at (x := x) HAL.out (fun z hz => by rw [HY.out] at hz; injection hz with hz; subst hz; exact hxy))
              go_upto_region 6 with (fail)
              go_quiet (fail)
              go_wp2_with fail
              go_meet
              exact ⟨q, hq, rfl, HE.out, HK2.out.trans (Kept.drewN _ _ _)⟩
            · have HN : Hid ((out.take (q + 1)).all (ltB x) = true) := by
                obtain ⟨hk', e⟩ := List.getElem?_eq_some_iff.1 HY.out
                rw [Hid, List.take_succ_eq_append_getElem hk', e, List.all_append, HAL.out]
                simp [ltB, hxy]
              go_upto_region 6 with (fail)
              go_quiet (fail)
              go_wp2_with fail
              go_roundw
              case rel => exact ⟨q + 1, by omega, by go_num, HN.out, HK2.out.trans (Kept.drewN _ _ _)⟩
              case measure => simp [intOf]; omega
          · obtain rfl : q = out.length := by omega
            have HE := Lib.hid (insR_at (x := x) HAL.out (fun z hz => by rw [List.getElem?_eq_none (Nat.le_refl _)] at hz; cases hz))
            have hjq : decide ((out.length : Int) < (out.length : Int)) = false := by simp
            go_upto_region 6 with (fail)
            go_quiet (fail)
            go_wp2_with fail
            go_meet
            exact ⟨out.length, Nat.le_refl _, rfl, HE.out, HK2.out.trans (Kept.drewN _ _ _)⟩
      case rest =>
        obtain ⟨q, hq, rfl, hins, hkc⟩ := hcut
        obtain ⟨w7, rfl⟩ : ∃ w7 : World, w7 = wc := ⟨_, rfl⟩
        have HKC := Lib.hid hkc
        have HINS := Lib.hid hins
        have HIN7 := Lib.hid (HIN.out.kept hkc)
        have qx := hkc.cell HQX.out (by simp)
        clear hkc hins
        have hlen : (insR out x).length = out.length + 1 := insR_len out x
        have HRES : Hid (insR out x = (out.take q ++ [x]) ++ out.drop q) := by rw [Hid, insR, HINS.out.1, HINS.out.2]
        have HZ7 := Lib.hid (HKR.out.trans HKC.out).size
        have hA1 : 0 + q ≤ maxLen := by unfold maxLen; omega
        have hB1 : (0 + q) * 8 ≤ 140737488355328 := by omega
        have hA2 : (out.take q).length + 1 ≤ maxLen := by rw [List.length_take]; unfold maxLen; omega
        have hB2 : ((out.take q).length + 1) * 8 ≤ 140737488355328 := by rw [List.length_take]; omega
        rcases HSH.out with rfl | ⟨g, rfl⟩
        · have hc0 : c3 = 0 := h33 rfl
          subst hc0
          obtain rfl : out = [] := List.eq_nil_of_length_eq_zero (by omega)
          obtain rfl : q = 0 := by simpa using hq
          have HFIN : Hid (sortedR (l.take (k + 1)) = [x]) := by rw [Hid, HSN.out, HRES.out]; rfl
          clear HRES HSN hlen hA1 hB1 hA2 hB2 HIN HIN7
          have hZ7 : Hid (w7.heap.size ≤ (w7.alloc (.cells #[.int .i64 x] 3)).heap.size) := by rw [Hid]; simp
          have hA2 : 0 + 1 ≤ maxLen := by decide
          have hB2 : (0 + 1) * 8 ≤ 140737488355328 := by decide
          go_upto_region 10 with (fail)
          go_upto_region 11 with (at_builtin; refine wpList_append_own _ rfl _ _ 29 rfl w7.heap.size 3 i0 (.int .i64 0) 1 8 Try.underlying29 hi hz0 hz1 hz2 rfl (by decide) (.slice none 0 0) 0 [] rfl (World.ownsRow_nil _ _ _ _) ⟨w7.heap.size, 0, none⟩ 1 1 [.int .i64 x] rfl rfl (cell_one_new _ _ _) (one_int _ _) hA2 hB2 hZ7.out ?_; intro v9 w9 ho9 hg9 _; have HO9 := Lib.hid ho9; have HK9 := Lib.hid ((Kept.alloc [] w7 _).grown hg9 (fun q hq => by cases hq)); clear ho9 hg9)
          obtain ⟨A9, c9, rfl⟩ := own_shape HO9.out
          have hZ9 : Hid (w7.heap.size ≤ w9.heap.size) := HK9.out.size
          have hA3 : 1 + 0 ≤ maxLen := by decide
          have hB3 : (1 + 0) * 8 ≤ 140737488355328 := by decide
          go_wp2_with (at_builtin; refine wpList_append_src _ rfl _ _ 29 rfl w7.heap.size 3 i0 (.int .i64 0) 1 8 Try.underlying29 hi hz0 hz1 hz2 rfl (by decide) (.slice A9 1 c9) 1 [Value.int .i64 x] rfl HO9.out none 0 0 [] rfl (SrcAt.zero _ _ _) one_nil hA3 hB3 hZ9.out ?_; intro vb wb hob hgb _; have HOB := Lib.hid hob; have HKB := Lib.hid (HK9.out.grown hgb (fun q hq => own_at HO9.out q hq)); clear hob hgb)
          go_roundw
          case rel => exact ⟨k + 1, by omega, by go_num, by rw [HFIN.out]; exact own_base HOB.out HZ7.out, HKR.out.trans (HKC.out.trans HKB.out)⟩
          case measure => simp [intOf]; omega
        · have HC : Hid (∀ (j : Nat) (y : Int), out[j]? = some y → w7.cell? ⟨g, 0 + j, none⟩ = some (.int .i64 y)) := by
            rcases HIN7.out with h0 | ⟨b', o', e, hc⟩
            · intro j y hy; rw [h0] at hy; simp at hy
            · injection e with e
              injection e with e1 e2
              subst e1 e2
              exact hc
          have HS1 : Hid (SrcAt w7 1 (some ⟨g, 0, none⟩) q ((out.take q).map (Value.int .i64))) := src_take HC.out hq
          have hq1 : (0 : Int) ≤ (q : Int) := by omega
          have hq2 : (q : Int) ≤ (c3 : Int) := by omega
          go_upto_region 10 with (at_builtin; refine wpList_append_src _ rfl _ _ 29 rfl w7.heap.size 3 i0 (.int .i64 0) 1 8 Try.underlying29 hi hz0 hz1 hz2 rfl (by decide) (.slice none 0 0) 0 [] rfl (World.ownsRow_nil _ _ _ _) (some ⟨g, 0, none⟩) q c3 ((out.take q).map (Value.int .i64)) rfl HS1.out (ints_one _) hA1 hB1 (Nat.le_refl _) ?_; intro v6 w8 ho8 hg8 _; have HO8 := Lib.hid ho8; have HG8 := Lib.hid hg8; clear ho8 hg8)
          have HO8' : Hid (w8.ownsRow w7.heap.size 3 1 v6 (out.take q).length ((out.take q).map (Value.int .i64))) := by
            have h := HO8.out
            rw [List.nil_append, Nat.zero_add] at h
            rw [Hid, List.length_take, Nat.min_eq_left hq]
            exact h
          have hk8 : Kept [] w7 w8 := (Kept.refl [] w7).grown HG8.out (fun q hq => by cases hq)
          have HK8 := Lib.hid hk8
          replace qx := hk8.cell qx (by simp)
          have HC8 : Hid (∀ (j : Nat) (y : Int), out[j]? = some y → w8.cell? ⟨g, 0 + j, none⟩ = some (.int .i64 y)) := fun j y hy => HK8.out.cell (HC.out j y hy) (by simp)
          have hZ8 : Hid (w7.heap.size ≤ (w8.alloc (.cells #[.int .i64 x] 3)).heap.size) := by have := HK8.out.size; rw [Hid]; simp; omega
          obtain ⟨A6, c6, rfl⟩ := own_shape HO8'.out
          clear HO8 HG8 hk8 hA1 hB1
          go_upto_region 11 with (at_builtin; refine wpList_append_own _ rfl _ _ 29 rfl w7.heap.size 3 i0 (.int .i64 0) 1 8 Try.underlying29 hi hz0 hz1 hz2 rfl (by decide) (.slice A6 (out.take q).length c6) (out.take q).length ((out.take q).map (Value.int .i64)) rfl (HO8'.out.alloc _) ⟨w8.heap.size, 0, none⟩ 1 1 [.int .i64 x] rfl rfl (cell_one_new _ _ _) (one_int _ _) hA2 hB2 hZ8.out ?_; intro v9 w9 ho9 hg9 _; have HO9 := Lib.hid ho9; have HK9 := Lib.hid ((HK8.out.trans (Kept.alloc _ _ _)).grown hg9 (fun q hq => own_at HO8'.out q hq)); clear ho9 hg9)
          have HC9 : Hid (∀ (j : Nat) (y : Int), out[j]? = some y → w9.cell? ⟨g, 0 + j, none⟩ = some (.int .i64 y)) := fun j y hy => HK9.out.cell (HC.out j y hy) (by simp)
          have hZ9 : Hid (w7.heap.size ≤ w9.heap.size) := HK9.out.size
          obtain ⟨A9, c9, rfl⟩ := own_shape HO9.out
          have hA3 : (out.take q).length + 1 + (out.length - q) ≤ maxLen := by rw [List.length_take]; unfold maxLen; omega
          have hB3 : ((out.take q).length + 1 + (out.length - q)) * 8 ≤ 140737488355328 := by rw [List.length_take]; omega
          have HFIN : Hid (∀ (vb : Value) (wb : World), wb.ownsRow w7.heap.size 3 1 vb ((out.take q).length + 1 + (out.length - q)) ((out.take q).map (Value.int .i64) ++ [Value.int .i64 x] ++ (out.drop q).map (Value.int .i64)) → wb.ownsRow w.heap.size 3 1 vb (sortedR (l.take (k + 1))).length ((sortedR (l.take (k + 1))).map (Value.int .i64))) := fun vb wb h => by
            rw [HSN.out, HRES.out]
            have e1 : (out.take q ++ [x] ++ out.drop q).length = (out.take q).length + 1 + (out.length - q) := by simp; omega
            have e2 : (out.take q ++ [x] ++ out.drop q).map (Value.int .i64) = (out.take q).map (Value.int .i64) ++ [Value.int .i64 x] ++ (out.drop q).map (Value.int .i64) := by simp
            rw [e1, e2]
            exact own_base h HZ7.out
          clear HO8' HK8 HC8 hZ8 qx
          by_cases hqc : q < c3
          · have HS9 : Hid (SrcAt w9 1 (some ⟨g, q, none⟩) (out.length - q) ((out.drop q).map (Value.int .i64))) := by
              have h := src_drop q HC9.out
              rw [Nat.zero_add] at h
              exact h
            go_wp2_with (at_builtin; refine wpList_append_src _ rfl _ _ 29 rfl w7.heap.size 3 i0 (.int .i64 0) 1 8 Try.underlying29 hi hz0 hz1 hz2 rfl (by decide) (.slice A9 ((out.take q).length + 1) c9) ((out.take q).length + 1) ((out.take q).map (Value.int .i64) ++ [Value.int .i64 x]) rfl HO9.out (some ⟨g, q, none⟩) (out.length - q) (c3 - q) ((out.drop q).map (Value.int .i64)) rfl HS9.out (ints_one _) hA3 hB3 hZ9.out ?_; intro vb wb hob hgb _; have HOB := Lib.hid hob; have HKB := Lib.hid (HK9.out.grown hgb (fun q hq => own_at HO9.out q hq)); clear hob hgb)
            go_roundw
            case rel => exact ⟨k + 1, by omega, by go_num, HFIN.out vb wb HOB.out, HKR.out.trans (HKC.out.trans HKB.out)⟩
            case measure => simp [intOf]; omega
          · obtain rfl : q = c3 := by omega
            have HD0 : Hid (out.length - q = 0) := by rw [Hid]; omega
            have HD1 : Hid ((out.drop q).map (Value.int .i64) = []) := by rw [Hid, List.drop_eq_nil_of_le h31]; rfl
            have hA4 : (out.take q).length + 1 + 0 ≤ maxLen := by rw [List.length_take]; unfold maxLen; omega
            have hB4 : ((out.take q).length + 1 + 0) * 8 ≤ 140737488355328 := by rw [List.length_take]; omega
            have HFIN2 := Lib.hid HFIN.out
            unfold Hid at HFIN2
            rw [HD0.out, HD1.out] at HFIN2
            have HFIN3 := Lib.hid HFIN2
            clear HFIN2
            go_wp2_with (at_builtin; refine wpList_append_src _ rfl _ _ 29 rfl w7.heap.size 3 i0 (.int .i64 0) 1 8 Try.underlying29 hi hz0 hz1 hz2 rfl (by decide) (.slice A9 ((out.take q).length + 1) c9) ((out.take q).length + 1) ((out.take q).map (Value.int .i64) ++ [Value.int .i64 x]) rfl HO9.out (some ⟨g, 0, none⟩) 0 0 [] rfl (SrcAt.zero _ _ _) one_nil hA4 hB4 hZ9.out ?_; intro vb wb hob hgb _; have HOB := Lib.hid hob; have HKB := Lib.hid (HK9.out.grown hgb (fun q hq => own_at HO9.out q hq)); clear hob hgb)
            go_roundw
            case rel => exact ⟨k + 1, by omega, by go_num, HFIN3.out vb wb HOB.out, HKR.out.trans (HKC.out.trans HKB.out)⟩
            case measure => simp [intOf]; omega
    · obtain rfl : k = l.length := by omega
      have HO4 := Lib.hid (by have := HO.out; rw [List.take_length] at this; exact this)
      rw [List.take_length]
      go_wp2_with fail
      go_ret
      exact ⟨_, rfl, HO4.out, HKR.out⟩
end Go.Proofs.Ytlgcboaojdhneaa
