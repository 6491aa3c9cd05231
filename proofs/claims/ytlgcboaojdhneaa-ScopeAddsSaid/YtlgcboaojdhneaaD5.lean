/- The reference's sorted. The reference's Find. -/
import Derived.Test.YtlgcboaojdhneaaD1
import Derived.Test.YtlgcboaojdhneaaD3
namespace Go.Proofs.Ytlgcboaojdhneaa
open Go.RowKit

def ltB (x y : Int) : Bool := decide (y < x)
/-- A number into an ascending list. -/
def insR (out : List Int) (x : Int) : List Int := (out.takeWhile (ltB x) ++ [x]) ++ out.dropWhile (ltB x)
def sortedR (l : List Int) : List Int := l.foldl insR []
theorem sortedR_snoc (l : List Int) (x : Int) : sortedR (l ++ [x]) = insR (sortedR l) x := by simp [sortedR]
theorem insR_len (out : List Int) (x : Int) : (insR out x).length = out.length + 1 := by
  have h := congrArg List.length (List.takeWhile_append_dropWhile (p := ltB x) (l := out))
  unfold insR
  simp only [List.length_append, List.length_singleton] at h ⊢
  omega
theorem sortedR_len (l : List Int) : (sortedR l).length = l.length := by
  suffices h : ∀ (l out : List Int), (l.foldl insR out).length = out.length + l.length by simpa [sortedR] using h l []
  intro l
  induction l with
  | nil => intro out; simp
  | cons x l ih => intro out; rw [List.foldl_cons, ih, insR_len, List.length_cons]; omega
theorem insR_at {out : List Int} {x : Int} {k : Nat} (h1 : (out.take k).all (ltB x) = true) (h2 : ∀ y, out[k]? = some y → ltB x y = false) : out.takeWhile (ltB x) = out.take k ∧ out.dropWhile (ltB x) = out.drop k := by
  have ha : ∀ a ∈ out.take k, ltB x a = true := fun a ha => List.all_eq_true.1 h1 a ha
  have hd : (out.drop k).takeWhile (ltB x) = [] ∧ (out.drop k).dropWhile (ltB x) = out.drop k := by
    cases hc : out.drop k with
    | nil => exact ⟨rfl, rfl⟩
    | cons y ys =>
      have hy : out[k]? = some y := by
        have := congrArg (fun l => l[0]?) hc
        simpa using this
      have := h2 y hy
      constructor
      · simp [List.takeWhile, this]
      · simp [List.dropWhile, this]
  have e : out = out.take k ++ out.drop k := (List.take_append_drop k out).symm
  constructor
  · conv => lhs; rw [e]
    rw [List.takeWhile_append_of_pos ha, hd.1, List.append_nil]
  · conv => lhs; rw [e]
    rw [List.dropWhile_append_of_pos ha, hd.2]

theorem src_take {w : World} {xs : List Int} {b off k : Nat} (hc : ∀ (i : Nat) (x : Int), xs[i]? = some x → w.cell? ⟨b, off + i, none⟩ = some (.int .i64 x)) (hk : k ≤ xs.length) : SrcAt w 1 (some ⟨b, off, none⟩) k ((xs.take k).map (Value.int .i64)) := by
  refine ⟨by simp; omega, fun _ => ⟨_, rfl, fun i u hu => ?_⟩⟩
  rw [List.getElem?_map] at hu
  cases hx : (xs.take k)[i]? with
  | none => rw [hx] at hu; cases hu
  | some x =>
    rw [hx] at hu
    simp only [Option.map_some, Option.some.injEq] at hu
    subst hu
    rw [Addr.add_mid]
    refine hc _ _ ?_
    rw [List.getElem?_take] at hx
    split at hx
    · exact hx
    · cases hx

set_option maxRecDepth 100000 in
set_option maxHeartbeats 4000000 in
theorem sorted_any (w : World) (a : Option Addr) (c : Nat) (l : List Int) (hc : l.length ≤ c) (hm : c ≤ 9223372036854775807) (hI : IntsIn w a l) (hl : l.length ≤ 1000000000000) :
    Calls Try.prog 52 #[.slice a l.length c] w (RetO (sortedR l) w) := by
  have HI := Lib.hid hI
  obtain ⟨i0, hi, hz0, hz1, hz2⟩ := info_parts int_info
  clear hI
  go_enter Try.func52, Try.ntmps52
  go_wp2_with fail
  go_loopw [3, 4] (fun v i wr => ∃ k : Nat, k ≤ l.length ∧ i = .int .i64 k ∧ wr.ownsRow w.heap.size 3 1 v (sortedR (l.take k)).length ((sortedR (l.take k)).map (Value.int .i64)) ∧ Kept [] w wr) (fun _ i _ => l.length - (intOf i).toNat)
  case atStart => exact ⟨0, Nat.zero_le _, rfl, World.ownsRow_nil _ _ _ _, Kept.refl _ _⟩
  case round =>
    obtain ⟨k, hk, rfl, ho, hkr⟩ := hrel
    obtain ⟨A3, c3, rfl⟩ := own_shape ho
    obtain ⟨wo, rfl⟩ : ∃ wo : World, wo = wr := ⟨_, rfl⟩
    have HO := Lib.hid ho
    have HKR := Lib.hid hkr
    have HLN := Lib.hid (sortedR_len (l.take k))
    clear ho hkr
    by_cases hlt : k < l.length
    · obtain ⟨x, hx⟩ : ∃ x, l[k]? = some x := ⟨_, List.getElem?_eq_getElem hlt⟩
      have HSN : Hid (sortedR (l.take (k + 1)) = insR (sortedR (l.take k)) x) := by
        obtain ⟨hk', e⟩ := List.getElem?_eq_some_iff.1 hx
        rw [Hid, List.take_succ_eq_append_getElem hk', e, sortedR_snoc]
      have hol : (sortedR (l.take k)).length ≤ 1000000000000 := by rw [HLN.out, List.length_take]; omega
      rcases HI.out with hn | ⟨bl, ol, rfl, hcl⟩
      · rw [hn] at hlt; simp at hlt
      have HQX := Lib.hid (HKR.out.cell (hcl k x hx) (by simp))
      obtain ⟨_, hin, h31, h32, h33⟩ := (IntsC.of_owns HO.out).at_
      have HIN := Lib.hid hin
      have HSH : Hid (A3 = none ∨ ∃ g, A3 = some ⟨g, 0, none⟩) := by
        rcases HO.out.2 with ⟨h, _⟩ | ⟨g, cap, cur, h, _⟩
        · left; injection h
        · right; injection h with h; exact ⟨g, h⟩
      clear hx hcl hin HLN
      generalize sortedR (l.take k) = out at *
      go_upto_block 2 with (fail)
      go_cut [5] (fun v5 wc => ∃ q : Nat, q ≤ out.length ∧ v5 = .int .i64 q ∧ (out.takeWhile (ltB x) = out.take q ∧ out.dropWhile (ltB x) = out.drop q) ∧ Kept [] wo wc)
      case first =>
        go_wp2_with fail
        go_loopw [5] (fun i wr => ∃ q : Nat, q ≤ out.length ∧ i = .int .i64 q ∧ (out.take q).all (ltB x) = true ∧ Kept [] wo wr) (fun i _ => out.length - (intOf i).toNat)
        case atStart => exact ⟨0, Nat.zero_le _, rfl, rfl, Kept.refl _ _⟩
        case round =>
          obtain ⟨q, hq, rfl, hall, hkr⟩ := hrel
          have HAL := Lib.hid hall
          have HK2 := Lib.hid hkr
          clear hall hkr
          by_cases hlq : q < out.length
          · obtain ⟨y, hy⟩ : ∃ y, out[q]? = some y := ⟨_, List.getElem?_eq_getElem hlq⟩
            rcases HIN.out with hn | ⟨bo, oo, rfl, hco⟩
            · rw [hn] at hlq; simp at hlq
            have qy := HK2.out.cell (hco q y hy) (by simp)
            have qx := HK2.out.cell HQX.out (by simp)
            have HY := Lib.hid hy
            have hjq : decide ((q : Int) < (out.length : Int)) = true := by simp; omega
            have j1 : (0 : Int) ≤ (q : Int) := by omega
            have j2 : (q : Int) < (out.length : Int) := by omega
            have j3 : (0 : Int) ≤ (k : Int) := by omega
            have j4 : (k : Int) < (l.length : Int) := by omega
            clear hy hco
            cases hxy : decide (y < x)
            · have HE := Lib.hid (insR_at (x := x) HAL.out (fun z hz => by rw [HY.out] at hz; injection hz with hz; subst hz; exact hxy))
              go_upto_region 6 with (fail)
              go_quiet (fail)
              go_wp2_with fail
              go_meet
              exact ⟨q, hq, rfl, HE.out, HK2.out.trans (Kept.drewN _ _ _)⟩
            · have HN : Hid ((out.take (q + 1)).all (ltB x) = true) := by
                obtain ⟨hk', e⟩ := List.getElem?_eq_some_iff.1 HY.out
                rw [Hid, List.take_succ_eq_append_getElem hk', e, List.all_append, HAL.out]
                simp [ltB, hxy]
              go_upto_region 6 with (fail)
              go_quiet (fail)
              go_wp2_with fail
              go_roundw
              case rel => exact ⟨q + 1, by omega, by go_num, HN.out, HK2.out.trans (Kept.drewN _ _ _)⟩
              case measure => simp [intOf]; omega
          · obtain rfl : q = out.length := by omega
            have HE := Lib.hid (insR_at (x := x) HAL.out (fun z hz => by rw [List.getElem?_eq_none (Nat.le_refl _)] at hz; cases hz))
            have hjq : decide ((out.length : Int) < (out.length : Int)) = false := by simp
            go_upto_region 6 with (fail)
            go_quiet (fail)
            go_wp2_with fail
            go_meet
            exact ⟨out.length, Nat.le_refl _, rfl, HE.out, HK2.out.trans (Kept.drewN _ _ _)⟩
      case rest =>
        obtain ⟨q, hq, rfl, hins, hkc⟩ := hcut
        obtain ⟨w7, rfl⟩ : ∃ w7 : World, w7 = wc := ⟨_, rfl⟩
        have HKC := Lib.hid hkc
        have HINS := Lib.hid hins
        have HIN7 := Lib.hid (HIN.out.kept hkc)
        have qx := hkc.cell HQX.out (by simp)
        clear hkc hins
        have hlen : (insR out x).length = out.length + 1 := insR_len out x
        have HRES : Hid (insR out x = (out.take q ++ [x]) ++ out.drop q) := by rw [Hid, insR, HINS.out.1, HINS.out.2]
        have HZ7 := Lib.hid (HKR.out.trans HKC.out).size
        have hA1 : 0 + q ≤ maxLen := by unfold maxLen; omega
        have hB1 : (0 + q) * 8 ≤ 140737488355328 := by omega
        have hA2 : (out.take q).length + 1 ≤ maxLen := by rw [List.length_take]; unfold maxLen; omega
        have hB2 : ((out.take q).length + 1) * 8 ≤ 140737488355328 := by rw [List.length_take]; omega
        rcases HSH.out with rfl | ⟨g, rfl⟩
        · have hc0 : c3 = 0 := h33 rfl
          subst hc0
          obtain rfl : out = [] := List.eq_nil_of_length_eq_zero (by omega)
          obtain rfl : q = 0 := by simpa using hq
          have HFIN : Hid (sortedR (l.take (k + 1)) = [x]) := by rw [Hid, HSN.out, HRES.out]; rfl
          clear HRES HSN hlen hA1 hB1 hA2 hB2 HIN HIN7
          have hZ7 : Hid (w7.heap.size ≤ (w7.alloc (.cells #[.int .i64 x] 3)).heap.size) := by rw [Hid]; simp
          have hA2 : 0 + 1 ≤ maxLen := by decide
          have hB2 : (0 + 1) * 8 ≤ 140737488355328 := by decide
          go_upto_region 10 with (fail)
          go_upto_region 11 with (at_builtin; refine wpList_append_own _ rfl _ _ 29 rfl w7.heap.size 3 i0 (.int .i64 0) 1 8 Try.underlying29 hi hz0 hz1 hz2 rfl (by decide) (.slice none 0 0) 0 [] rfl (World.ownsRow_nil _ _ _ _) ⟨w7.heap.size, 0, none⟩ 1 1 [.int .i64 x] rfl rfl (cell_one_new _ _ _) (one_int _ _) hA2 hB2 hZ7.out ?_; intro v9 w9 ho9 hg9 _; have HO9 := Lib.hid ho9; have HK9 := Lib.hid ((Kept.alloc [] w7 _).grown hg9 (fun q hq => by cases hq)); clear ho9 hg9)
          obtain ⟨A9, c9, rfl⟩ := own_shape HO9.out
          have hZ9 : Hid (w7.heap.size ≤ w9.heap.size) := HK9.out.size
          have hA3 : 1 + 0 ≤ maxLen := by decide
          have hB3 : (1 + 0) * 8 ≤ 140737488355328 := by decide
          go_wp2_with (at_builtin; refine wpList_append_src _ rfl _ _ 29 rfl w7.heap.size 3 i0 (.int .i64 0) 1 8 Try.underlying29 hi hz0 hz1 hz2 rfl (by decide) (.slice A9 1 c9) 1 [Value.int .i64 x] rfl HO9.out none 0 0 [] rfl (SrcAt.zero _ _ _) one_nil hA3 hB3 hZ9.out ?_; intro vb wb hob hgb _; have HOB := Lib.hid hob; have HKB := Lib.hid (HK9.out.grown hgb (fun q hq => own_at HO9.out q hq)); clear hob hgb)
          go_roundw
          case rel => exact ⟨k + 1, by omega, by go_num, by rw [HFIN.out]; exact own_base HOB.out HZ7.out, HKR.out.trans (HKC.out.trans HKB.out)⟩
          case measure => simp [intOf]; omega
        · have HC : Hid (∀ (j : Nat) (y : Int), out[j]? = some y → w7.cell? ⟨g, 0 + j, none⟩ = some (.int .i64 y)) := by
            rcases HIN7.out with h0 | ⟨b', o', e, hc⟩
            · intro j y hy; rw [h0] at hy; simp at hy
            · injection e with e
              injection e with e1 e2
              subst e1 e2
              exact hc
          have HS1 : Hid (SrcAt w7 1 (some ⟨g, 0, none⟩) q ((out.take q).map (Value.int .i64))) := src_take HC.out hq
          have hq1 : (0 : Int) ≤ (q : Int) := by omega
          have hq2 : (q : Int) ≤ (c3 : Int) := by omega
          go_upto_region 10 with (at_builtin; refine wpList_append_src _ rfl _ _ 29 rfl w7.heap.size 3 i0 (.int .i64 0) 1 8 Try.underlying29 hi hz0 hz1 hz2 rfl (by decide) (.slice none 0 0) 0 [] rfl (World.ownsRow_nil _ _ _ _) (some ⟨g, 0, none⟩) q c3 ((out.take q).map (Value.int .i64)) rfl HS1.out (ints_one _) hA1 hB1 (Nat.le_refl _) ?_; intro v6 w8 ho8 hg8 _; have HO8 := Lib.hid ho8; have HG8 := Lib.hid hg8; clear ho8 hg8)
          have HO8' : Hid (w8.ownsRow w7.heap.size 3 1 v6 (out.take q).length ((out.take q).map (Value.int .i64))) := by
            have h := HO8.out
            rw [List.nil_append, Nat.zero_add] at h
            rw [Hid, List.length_take, Nat.min_eq_left hq]
            exact h
          have hk8 : Kept [] w7 w8 := (Kept.refl [] w7).grown HG8.out (fun q hq => by cases hq)
          have HK8 := Lib.hid hk8
          replace qx := hk8.cell qx (by simp)
          have HC8 : Hid (∀ (j : Nat) (y : Int), out[j]? = some y → w8.cell? ⟨g, 0 + j, none⟩ = some (.int .i64 y)) := fun j y hy => HK8.out.cell (HC.out j y hy) (by simp)
          have hZ8 : Hid (w7.heap.size ≤ (w8.alloc (.cells #[.int .i64 x] 3)).heap.size) := by have := HK8.out.size; rw [Hid]; simp; omega
          obtain ⟨A6, c6, rfl⟩ := own_shape HO8'.out
          clear HO8 HG8 hk8 hA1 hB1
          go_upto_region 11 with (at_builtin; refine wpList_append_own _ rfl _ _ 29 rfl w7.heap.size 3 i0 (.int .i64 0) 1 8 Try.underlying29 hi hz0 hz1 hz2 rfl (by decide) (.slice A6 (out.take q).length c6) (out.take q).length ((out.take q).map (Value.int .i64)) rfl (HO8'.out.alloc _) ⟨w8.heap.size, 0, none⟩ 1 1 [.int .i64 x] rfl rfl (cell_one_new _ _ _) (one_int _ _) hA2 hB2 hZ8.out ?_; intro v9 w9 ho9 hg9 _; have HO9 := Lib.hid ho9; have HK9 := Lib.hid ((HK8.out.trans (Kept.alloc _ _ _)).grown hg9 (fun q hq => own_at HO8'.out q hq)); clear ho9 hg9)
          have HC9 : Hid (∀ (j : Nat) (y : Int), out[j]? = some y → w9.cell? ⟨g, 0 + j, none⟩ = some (.int .i64 y)) := fun j y hy => HK9.out.cell (HC.out j y hy) (by simp)
          have hZ9 : Hid (w7.heap.size ≤ w9.heap.size) := HK9.out.size
          obtain ⟨A9, c9, rfl⟩ := own_shape HO9.out
          have hA3 : (out.take q).length + 1 + (out.length - q) ≤ maxLen := by rw [List.length_take]; unfold maxLen; omega
          have hB3 : ((out.take q).length + 1 + (out.length - q)) * 8 ≤ 140737488355328 := by rw [List.length_take]; omega
          have HFIN : Hid (∀ (vb : Value) (wb : World), wb.ownsRow w7.heap.size 3 1 vb ((out.take q).length + 1 + (out.length - q)) ((out.take q).map (Value.int .i64) ++ [Value.int .i64 x] ++ (out.drop q).map (Value.int .i64)) → wb.ownsRow w.heap.size 3 1 vb (sortedR (l.take (k + 1))).length ((sortedR (l.take (k + 1))).map (Value.int .i64))) := fun vb wb h => by
            rw [HSN.out, HRES.out]
            have e1 : (out.take q ++ [x] ++ out.drop q).length = (out.take q).length + 1 + (out.length - q) := by simp; omega
            have e2 : (out.take q ++ [x] ++ out.drop q).map (Value.int .i64) = (out.take q).map (Value.int .i64) ++ [Value.int .i64 x] ++ (out.drop q).map (Value.int .i64) := by simp
            rw [e1, e2]
            exact own_base h HZ7.out
          clear HO8' HK8 HC8 hZ8 qx
          by_cases hqc : q < c3
          · have HS9 : Hid (SrcAt w9 1 (some ⟨g, q, none⟩) (out.length - q) ((out.drop q).map (Value.int .i64))) := by
              have h := src_drop q HC9.out
              rw [Nat.zero_add] at h
              exact h
            go_wp2_with (at_builtin; refine wpList_append_src _ rfl _ _ 29 rfl w7.heap.size 3 i0 (.int .i64 0) 1 8 Try.underlying29 hi hz0 hz1 hz2 rfl (by decide) (.slice A9 ((out.take q).length + 1) c9) ((out.take q).length + 1) ((out.take q).map (Value.int .i64) ++ [Value.int .i64 x]) rfl HO9.out (some ⟨g, q, none⟩) (out.length - q) (c3 - q) ((out.drop q).map (Value.int .i64)) rfl HS9.out (ints_one _) hA3 hB3 hZ9.out ?_; intro vb wb hob hgb _; have HOB := Lib.hid hob; have HKB := Lib.hid (HK9.out.grown hgb (fun q hq => own_at HO9.out q hq)); clear hob hgb)
            go_roundw
            case rel => exact ⟨k + 1, by omega, by go_num, HFIN.out vb wb HOB.out, HKR.out.trans (HKC.out.trans HKB.out)⟩
            case measure => simp [intOf]; omega
          · obtain rfl : q = c3 := by omega
            have HD0 : Hid (out.length - q = 0) := by rw [Hid]; omega
            have HD1 : Hid ((out.drop q).map (Value.int .i64) = []) := by rw [Hid, List.drop_eq_nil_of_le h31]; rfl
            have hA4 : (out.take q).length + 1 + 0 ≤ maxLen := by rw [List.length_take]; unfold maxLen; omega
            have hB4 : ((out.take q).length + 1 + 0) * 8 ≤ 140737488355328 := by rw [List.length_take]; omega
            have HFIN2 := Lib.hid HFIN.out
            unfold Hid at HFIN2
            rw [HD0.out, HD1.out] at HFIN2
            have HFIN3 := Lib.hid HFIN2
            clear HFIN2
            go_wp2_with (at_builtin; refine wpList_append_src _ rfl _ _ 29 rfl w7.heap.size 3 i0 (.int .i64 0) 1 8 Try.underlying29 hi hz0 hz1 hz2 rfl (by decide) (.slice A9 ((out.take q).length + 1) c9) ((out.take q).length + 1) ((out.take q).map (Value.int .i64) ++ [Value.int .i64 x]) rfl HO9.out (some ⟨g, 0, none⟩) 0 0 [] rfl (SrcAt.zero _ _ _) one_nil hA4 hB4 hZ9.out ?_; intro vb wb hob hgb _; have HOB := Lib.hid hob; have HKB := Lib.hid (HK9.out.grown hgb (fun q hq => own_at HO9.out q hq)); clear hob hgb)
            go_roundw
            case rel => exact ⟨k + 1, by omega, by go_num, HFIN3.out vb wb HOB.out, HKR.out.trans (HKC.out.trans HKB.out)⟩
            case measure => simp [intOf]; omega
    · obtain rfl : k = l.length := by omega
      have HO4 := Lib.hid (by have := HO.out; rw [List.take_length] at this; exact this)
      rw [List.take_length]
      go_wp2_with fail
      go_ret
      exact ⟨_, rfl, HO4.out, HKR.out⟩
end Go.Proofs.Ytlgcboaojdhneaa
namespace Go.Proofs.Ytlgcboaojdhneaa
open Go.RowKit

theorem candF_mem {t : Tab} {direct : List Int} {p : Int → Prop} : ∀ (d out : List Int), (∀ e, e ∈ out → p e) → (∀ e, e ∈ d → p e) → ∀ e, e ∈ candF t direct out d → p e := by
  intro d
  induction d with
  | nil => intro out ho _ e he; exact ho e he
  | cons x d ih =>
    intro out ho hd e he
    refine ih (candE t direct out x) (fun e he => ?_) (fun e he => hd e (by simp [he])) e he
    unfold candE at he
    split at he
    · rcases List.mem_append.1 he with h | h
      · exact ho e h
      · simp at h; subst h; exact hd e (by simp)
    · exact ho e he
theorem candR_mem {t : Tab} {h : WhV} {name : ByteArray} {direct us : List Int} {e : Int} (he : e ∈ candR t h name direct us) : e ∈ allR t name h.after := by
  have : ∀ (us out : List Int), (∀ e, e ∈ out → e ∈ allR t name h.after) → ∀ e, e ∈ us.foldl (candU t h name direct) out → e ∈ allR t name h.after := by
    intro us
    induction us with
    | nil => intro out ho e he; exact ho e he
    | cons u us ih =>
      intro out ho e he
      refine ih (candU t h name direct out u) (fun e he => ?_) e he
      unfold candU at he
      split at he
      · exact candF_mem _ _ ho (fun e he => (List.mem_filter.1 he).1) e he
      · exact ho e he
  exact this us [] (fun e he => by simp at he) e he

def keepB (t : Tab) (c : List Int) (e : Int) : Bool := !claR t c e
def findRefL (t : Tab) (h : WhV) (name : ByteArray) : List Int :=
  let d := dirR t h (allR t name h.after) (regs t h.region)
  let c := candR t h name d h.uses
  d ++ c.filter (keepB t c)

set_option maxRecDepth 100000 in
set_option maxHeartbeats 4000000 in
theorem findRef_any (w : World) (v : TabV) (t : Tab) (h : WhV) (name : ByteArray) (hT : TabIn w v t) (hH : WhIn w h) (hs : t.ents.length ≤ 5000) (hus : h.uses.length ≤ 100000) :
    Calls Try.prog 22 #[.agg (v.cells t), .agg h.cells.toArray, .string name] w (RetO (sortedR (findRefL t h name)) w) := by
  have HT := Lib.hid hT
  have HH := Lib.hid hH
  have HSZ := Lib.hid hs
  have HUS := Lib.hid hus
  obtain ⟨i0, hi, hz0, hz1, hz2⟩ := info_parts int_info
  have HALL : Hid ((allR t name h.after).length ≤ 5000) := Nat.le_trans (allN_len _ _ _ _) hs
  have HREG : Hid ((regs t h.region).length ≤ 5000) := Nat.le_trans (regs_len _ _) hs
  have HR : Hid (findRefL t h name = dirR t h (allR t name h.after) (regs t h.region) ++ (candR t h name (dirR t h (allR t name h.after) (regs t h.region)) h.uses).filter (keepB t (candR t h name (dirR t h (allR t name h.after) (regs t h.region)) h.uses))) := rfl
  clear hT hH hs hus
  unfold TabV.cells WhV.cells
  go_enter Try.func22, Try.ntmps22
  go_upto_region 1 with (fail)
  refine wp_gen' ?_
  intro w0 hw0
  have HK0 : Hid (Kept [] w w0) := by rw [Hid, hw0]; exact (Kept.alloc _ _ _).trans (Kept.alloc _ _ _)
  have b0 : w0.heap[w.heap.size]? = some (.cells (v.cells t) 28 (0, 0)) := by rw [hw0]; exact obj_old (obj_new rfl) (by simp)
  have b1 : w0.heap[w.heap.size + 1]? = some (.cells h.cells.toArray 31 (0, 0)) := by rw [hw0]; exact obj_new (by simp)
  have HB0 := Lib.hid b0
  have HB1 := Lib.hid b1
  have HZ0 := Lib.hid HK0.out.size
  clear hw0 b0 b1
  have c0 : ∀ W, Kept [] w0 W → ∀ j, W.cell? ⟨w.heap.size, j, none⟩ = (v.cells t)[j]? := fun W hk j => cell_of_row _ _ _ _ _ _ (hk.obj HB0.out (by simp))
  have c1 : ∀ W, Kept [] w0 W → ∀ j, W.cell? ⟨w.heap.size + 1, j, none⟩ = h.cells.toArray[j]? := fun W hk j => cell_of_row _ _ _ _ _ _ (hk.obj HB1.out (by simp))
  have HC0 := Lib.hid c0
  have HC1 := Lib.hid c1
  have v0 : w0.cell? ⟨w.heap.size, 0, none⟩ = some (.slice v.ta t.types.length v.tc) := c0 _ (Kept.refl _ _) 0
  have v1 : w0.cell? ⟨w.heap.size, 1, none⟩ = some (.slice v.sa t.subs.length v.sc) := c0 _ (Kept.refl _ _) 1
  have v2 : w0.cell? ⟨w.heap.size, 2, none⟩ = some (.slice v.ea t.ents.length v.ec) := c0 _ (Kept.refl _ _) 2
  have v3 : w0.cell? ⟨w.heap.size, 3, none⟩ = some (.slice v.ga v.gn v.gc) := c0 _ (Kept.refl _ _) 3
  have v4 : w0.cell? ⟨w.heap.size, 4, none⟩ = some (.slice v.ia v.im v.ic) := c0 _ (Kept.refl _ _) 4
  have u0 : w0.cell? ⟨w.heap.size + 1, 0, none⟩ = some (.int .i64 h.region) := c1 _ (Kept.refl _ _) 0
  have u1 : w0.cell? ⟨w.heap.size + 1, 1, none⟩ = some (.int .i64 h.after) := c1 _ (Kept.refl _ _) 1
  have u2 : w0.cell? ⟨w.heap.size + 1, 2, none⟩ = some (.slice h.ua h.units.length h.uc) := c1 _ (Kept.refl _ _) 2
  have u3 : w0.cell? ⟨w.heap.size + 1, 3, none⟩ = some (.slice h.sa h.uses.length h.sc) := c1 _ (Kept.refl _ _) 3
  have HCD := Lib.hid (directRef_any w0 v t h name (HT.out.kept HK0.out) (HH.out.kept HK0.out) HSZ.out)
  unfold TabV.cells WhV.cells at HCD
  have HDROW : Hid (∀ e, e ∈ dirR t h (allR t name h.after) (regs t h.region) → (rowR t e).isSome = true) := fun e he => allR_row (dirR_mem he)
  have hdl : (dirR t h (allR t name h.after) (regs t h.region)).length ≤ 5000 * 5000 := by
    have h1 := dirR_len (t := t) (h := h) (all := allR t name h.after) (regs t h.region) []
    have h2 : (regs t h.region).length * (allR t name h.after).length ≤ 5000 * 5000 := Nat.mul_le_mul HREG.out HALL.out
    unfold dirR
    simp only [List.length_nil, Nat.zero_add] at h1
    omega
  clear c0 c1
  generalize dirR t h (allR t name h.after) (regs t h.region) = d at *
  go_upto_region 2 with (go_at_call 49; refine HCD.out.mono ?_; rintro e w1 ⟨vd, rfl, hod, hkd⟩; have HOD := Lib.hid hod; have HKD := Lib.hid hkd; clear hod hkd)
  obtain ⟨A7, c7, rfl⟩ := own_shape HOD.out
  obtain ⟨_, hind, h71, h72, _⟩ := (IntsC.of_owns HOD.out).at_
  clear v0 v1 v2 v3 v4 u0 u1 u2 u3 HCD
  have v0 : w1.cell? ⟨w.heap.size, 0, none⟩ = some (.slice v.ta t.types.length v.tc) := HC0.out _ HKD.out 0
  have v1 : w1.cell? ⟨w.heap.size, 1, none⟩ = some (.slice v.sa t.subs.length v.sc) := HC0.out _ HKD.out 1
  have v2 : w1.cell? ⟨w.heap.size, 2, none⟩ = some (.slice v.ea t.ents.length v.ec) := HC0.out _ HKD.out 2
  have v3 : w1.cell? ⟨w.heap.size, 3, none⟩ = some (.slice v.ga v.gn v.gc) := HC0.out _ HKD.out 3
  have v4 : w1.cell? ⟨w.heap.size, 4, none⟩ = some (.slice v.ia v.im v.ic) := HC0.out _ HKD.out 4
  have u0 : w1.cell? ⟨w.heap.size + 1, 0, none⟩ = some (.int .i64 h.region) := HC1.out _ HKD.out 0
  have u1 : w1.cell? ⟨w.heap.size + 1, 1, none⟩ = some (.int .i64 h.after) := HC1.out _ HKD.out 1
  have u2 : w1.cell? ⟨w.heap.size + 1, 2, none⟩ = some (.slice h.ua h.units.length h.uc) := HC1.out _ HKD.out 2
  have u3 : w1.cell? ⟨w.heap.size + 1, 3, none⟩ = some (.slice h.sa h.uses.length h.sc) := HC1.out _ HKD.out 3
  have HCC := Lib.hid (candidates_any w1 v t h name A7 c7 d (HT.out.kept (HK0.out.trans HKD.out)) (HH.out.kept (HK0.out.trans HKD.out)) HSZ.out HUS.out h71 h72 hind)
  unfold TabV.cells WhV.cells at HCC
  have HCROW : Hid (∀ e, e ∈ candR t h name d h.uses → (rowR t e).isSome = true) := fun e he => allR_row (candR_mem he)
  have hcl : (candR t h name d h.uses).length ≤ 100000 * 5000 := by
    have h1 := candR_len t h name d 5000 HSZ.out h.uses
    have := HUS.out
    omega
  clear hind
  generalize candR t h name d h.uses = c at *
  go_upto_region 3 with (go_at_call 50; refine HCC.out.mono ?_; rintro e w2 ⟨vc, rfl, hoc, hkc⟩; have HOC := Lib.hid hoc; have HKC := Lib.hid hkc; clear hoc hkc)
  obtain ⟨A8, c8, rfl⟩ := own_shape HOC.out
  obtain ⟨_, hinc, h81, h82, _⟩ := (IntsC.of_owns HOC.out).at_
  have HINC := Lib.hid hinc
  have HOD2 := Lib.hid (own_keep HOD.out HKC.out (by simp))
  have HK2 := Lib.hid (HKD.out.trans HKC.out)
  have HAP : Hid (∀ b o, A8 = some ⟨b, o, none⟩ → b < w2.heap.size ∧ ∀ q, (Value.slice A7 d.length c7).ownBlock = some q → q ≠ b) := fun b o e => by
    subst e
    refine ⟨(HOC.out.lt b rfl).2, fun q hq => ?_⟩
    have h1 := (HOC.out.lt b rfl).1
    have h2 := (HOD.out.lt q hq).2
    omega
  clear v0 v1 v2 v3 v4 u0 u1 u2 u3 HCC hinc HOD
  go_wp2_with fail
  go_loopw [7, 9] (fun l i wr => ∃ (k : Nat) (zs : List Int), k ≤ c.length ∧ i = .int .i64 k ∧ zs = d ++ (c.take k).filter (keepB t c) ∧ wr.ownsRow w0.heap.size 3 1 l zs.length (zs.map (Value.int .i64)) ∧ IntsIn wr A8 c ∧ (∀ b o, A8 = some ⟨b, o, none⟩ → b < wr.heap.size ∧ ∀ q, l.ownBlock = some q → q ≠ b) ∧ Kept [] w0 wr) (fun _ i _ => c.length - (intOf i).toNat)
  case atStart => exact ⟨0, d, Nat.zero_le _, rfl, by simp, HOD2.out, HINC.out, HAP.out, HK2.out⟩
  case round =>
    obtain ⟨k, zs, hk, rfl, hzs, ho, hin8, hap, hkr⟩ := hrel
    obtain ⟨A7', c7', rfl⟩ := own_shape ho
    obtain ⟨wi, rfl⟩ : ∃ wi : World, wi = wr := ⟨_, rfl⟩
    have HO := Lib.hid ho
    have HZS := Lib.hid hzs
    have HIN8 := Lib.hid hin8
    have HAP2 := Lib.hid hap
    have HKR := Lib.hid hkr
    have hzl : zs.length ≤ 5000 * 5000 + 100000 * 5000 := by
      rw [hzs, List.length_append]
      have h1 := List.length_filter_le (keepB t c) (c.take k)
      have h2 : (c.take k).length ≤ c.length := by rw [List.length_take]; omega
      omega
    clear ho hzs hin8 hap hkr
    by_cases hlt : k < c.length
    · obtain ⟨e, he⟩ : ∃ e, c[k]? = some e := ⟨_, List.getElem?_eq_getElem hlt⟩
      obtain ⟨n, x, rfl, hx, hxe⟩ := row_at (HCROW.out e (List.mem_of_getElem? he))
      have HFT := Lib.hid (filter_take (p := keepB t c) he)
      have HKB2 : Hid (keepB t c (n : Int) = !claR t c n) := rfl
      rcases HIN8.out with hn | ⟨b8, o8, hA8, hc8⟩
      · rw [hn] at hlt; simp at hlt
      have q8 := hc8 k _ he
      subst hA8
      have HQ8 := Lib.hid q8
      have j1 : (0 : Int) ≤ (k : Int) := by omega
      have j2 : (k : Int) < (c.length : Int) := by omega
      have v0 : ∀ z : After wi, z.1.cell? ⟨w.heap.size, 0, none⟩ = some (.slice v.ta t.types.length v.tc) := After.cell (HC0.out _ HKR.out 0)
      have v1 : ∀ z : After wi, z.1.cell? ⟨w.heap.size, 1, none⟩ = some (.slice v.sa t.subs.length v.sc) := After.cell (HC0.out _ HKR.out 1)
      have v2 : ∀ z : After wi, z.1.cell? ⟨w.heap.size, 2, none⟩ = some (.slice v.ea t.ents.length v.ec) := After.cell (HC0.out _ HKR.out 2)
      have v3 : ∀ z : After wi, z.1.cell? ⟨w.heap.size, 3, none⟩ = some (.slice v.ga v.gn v.gc) := After.cell (HC0.out _ HKR.out 3)
      have v4 : ∀ z : After wi, z.1.cell? ⟨w.heap.size, 4, none⟩ = some (.slice v.ia v.im v.ic) := After.cell (HC0.out _ HKR.out 4)
      have g8 := After.cell q8
      have HCL : Hid (∀ z : After wi, Calls Try.prog 51 #[.agg #[.slice v.ta t.types.length v.tc, .slice v.sa t.subs.length v.sc, .slice v.ea t.ents.length v.ec, .slice v.ga v.gn v.gc, .slice v.ia v.im v.ic], .slice (some ⟨b8, o8, none⟩) c.length c8, .int .i64 n] z.1 (RetB (claR t c n) z.1)) := fun z => clash_any z.1 v t _ c8 c n x (HT.out.kept (HK0.out.trans (HKR.out.trans z.2))) h81 h82 (HIN8.out.kept z.2) hx HCROW.out
      clear he hx hxe hc8 q8
      go_upto_region 6 with (fail)
      cases h1 : claR t c (n : Int)
      · rw [h1] at HCL HKB2
        rw [HKB2.out] at HFT
        clear h1
        refine wp_region_after (by kernel_rfl) (by kernel_rfl) ?_
        repeat (go_big_quiet_step (exact Calls.after_b (HCL.out _)))
        refine wpQuiet_nil ?_
        rintro w' ⟨z, rfl⟩
        obtain ⟨w3, hk3⟩ := z
        have HKR3 := Lib.hid (HKR.out.trans hk3)
        have HO3 := Lib.hid (own_keep HO.out hk3 (by simp))
        have HIN3 := Lib.hid (HIN8.out.kept hk3)
        have HS3 := Lib.hid hk3.size
        have cq := hk3.cell HQ8.out (by simp)
        have HN : Hid (d ++ (c.take (k + 1)).filter (keepB t c) = zs ++ [(n : Int)]) := by rw [Hid, HFT.out, HZS.out]; simp
        clear v0 v1 v2 v3 v4 g8 HCL HQ8
        change Exit.then _ _ _ _ w3
        have hA : zs.length + 1 ≤ maxLen := by unfold maxLen; omega
        have hB : (zs.length + 1) * 8 ≤ 140737488355328 := by omega
        have hC : Hid (w0.heap.size ≤ (w3.alloc (.cells #[.int .i64 n] 3)).heap.size) := by have := HKR3.out.size; rw [Hid]; simp; omega
        have hsrc : Hid (SrcAt (w3.alloc (.cells #[.int .i64 n] 3)) 1 (some ⟨w3.heap.size, 0, none⟩) 1 [.int .i64 n]) := ⟨rfl, fun _ => ⟨_, rfl, cell_one_new _ _ _⟩⟩
        go_wp2_with (at_builtin; refine wpList_append_src _ rfl _ _ 29 rfl w0.heap.size 3 i0 (.int .i64 0) 1 8 Try.underlying29 hi hz0 hz1 hz2 rfl (by decide) (.slice A7' zs.length c7') zs.length (zs.map (Value.int .i64)) rfl (HO3.out.alloc _) (some ⟨w3.heap.size, 0, none⟩) 1 1 [.int .i64 n] rfl hsrc.out (one_int _ _) hA hB hC.out ?_; intro vb wb hob hgb hbb; have HOB := Lib.hid hob; have HGB := Lib.hid hgb; have HBB := Lib.hid hbb; clear hob hgb hbb)
        have HKB3 : Hid (Kept [] w0 wb) := (HKR3.out.trans (Kept.alloc _ _ _)).grown HGB.out (fun q hq => own_at HO3.out q hq)
        have HI5 : Hid (IntsIn wb (some ⟨b8, o8, none⟩) c) := by
          rcases HIN3.out.kept (Kept.alloc _ _ (.cells #[.int .i64 n] 3)) with h0 | ⟨b', o', e, hc⟩
          · exact .inl h0
          · refine .inr ⟨b', o', e, fun j y hy => ?_⟩
            have h1 := hc j y hy
            have h2 := (HAP2.out b' o' e).2
            exact (World.cell?_of_block (HGB.out.block b' (World.block_lt_of_cell? _ _ h1) (fun e2 => h2 b' e2.symm rfl))).trans h1
        have HAP5 : Hid (∀ b o, some (⟨b8, o8, none⟩ : Addr) = some ⟨b, o, none⟩ → b < wb.heap.size ∧ ∀ q, vb.ownBlock = some q → q ≠ b) := fun b o e => by
          obtain ⟨h1, h2⟩ := HAP2.out b o e
          have h3 := HS3.out
          have h4 := HGB.out.size
          have h5 : w3.heap.size ≤ (w3.alloc (.cells #[.int .i64 n] 3)).heap.size := by simp
          refine ⟨by omega, fun q hq => ?_⟩
          rcases HBB.out with h | h
          · rw [h] at hq; exact h2 q hq
          · rw [h] at hq; injection hq with hq; omega
        go_roundw
        case rel => exact ⟨k + 1, zs ++ [(n : Int)], by omega, by go_num, HN.out.symm, by simpa using HOB.out, HI5.out, HAP5.out, HKB3.out⟩
        case measure => simp [intOf]; omega
      · rw [h1] at HCL HKB2
        rw [HKB2.out] at HFT
        clear h1
        refine wp_region_after (by kernel_rfl) (by kernel_rfl) ?_
        repeat (go_big_quiet_step (exact Calls.after_b (HCL.out _)))
        refine wpQuiet_nil ?_
        rintro w' ⟨z, rfl⟩
        obtain ⟨w3, hk3⟩ := z
        have HN : Hid (d ++ (c.take (k + 1)).filter (keepB t c) = zs) := by rw [Hid, HFT.out, HZS.out]; simp
        have HKR3 := Lib.hid (HKR.out.trans hk3)
        have HO3 := Lib.hid (own_keep HO.out hk3 (by simp))
        have HIN3 := Lib.hid (HIN8.out.kept hk3)
        have HAP5 : Hid (∀ b o, some (⟨b8, o8, none⟩ : Addr) = some ⟨b, o, none⟩ → b < w3.heap.size ∧ ∀ q, (Value.slice A7' zs.length c7').ownBlock = some q → q ≠ b) := fun b o e => ⟨Nat.lt_of_lt_of_le (HAP2.out b o e).1 hk3.size, (HAP2.out b o e).2⟩
        go_wp2_with fail
        go_roundw
        case rel => exact ⟨k + 1, zs, by omega, by go_num, HN.out.symm, HO3.out, HIN3.out, HAP5.out, HKR3.out⟩
        case measure => simp [intOf]; omega
    · obtain rfl : k = c.length := by omega
      have HRZ : Hid (findRefL t h name = zs) := by rw [Hid, HR.out, HZS.out, List.take_length]
      obtain ⟨_, hio, h91, h92, _⟩ := (IntsC.of_owns HO.out).at_
      have HCS := Lib.hid (sorted_any wi A7' c7' zs h91 h92 hio (by omega))
      clear hio
      go_wp2_with (go_at_call 52; refine HCS.out.mono ?_; rintro e w5 ⟨vs, rfl, hos, hks⟩; have HOS := Lib.hid hos; have HKS := Lib.hid hks; clear hos hks)
      go_ret
      exact ⟨_, rfl, by rw [HRZ.out]; exact own_base HOS.out (HK0.out.trans HKR.out).size, HK0.out.trans (HKR.out.trans HKS.out)⟩
end Go.Proofs.Ytlgcboaojdhneaa
