/- used$2. used$1. used. -/
import Derived.Test.YtlgcboaojdhneaaB8
namespace Go.Proofs.Ytlgcboaojdhneaa
open Go.RowKit Go.Shelf

/-- x is hidden by none of l. -/
def freeB (t : Tab) (l : List Int) (x : EntV) : Bool := !(l.any fun e => overB t x (rowE t e))

theorem enters75 : ∀ args w, (callFunc 75 args).run Try.prog w = .ok (.enter 75 args) w := Go.Proofs.enters_of Try.func75 (by kernel_rfl) rfl

set_option maxRecDepth 100000 in
set_option maxHeartbeats 2000000 in
theorem used2_any (w : World) (F Bf Bl : Nat) (v : TabV) (t : Tab) (h : WhV) (name : ByteArray) (all : List Int) (k : Nat) (x : EntV) (hx : t.ents[k]? = some x) (hF : FinderIn w F v t h name all)
    (hBf : w.cell? ⟨Bf, 0, none⟩ = some (.pointer (some ⟨F, 0, none⟩)))
    (a : Option Addr) (c : Nat) (l : List Int) (hBl : w.cell? ⟨Bl, 0, none⟩ = some (.slice a l.length c)) (hc : l.length ≤ c) (hm : c ≤ 9223372036854775807) (hI : IntsIn w a l) (hl : ∀ e, e ∈ l → (rowR t e).isSome = true) :
    Calls Try.prog 73 #[.int .i64 k, .pointer (some ⟨Bf, 0, none⟩), .pointer (some ⟨Bl, 0, none⟩)] w (RetB (freeB t l x) w) := by
  have HF := Lib.hid hF
  have HI := Lib.hid hI
  have HL := Lib.hid hl
  have HEX := Lib.hid (hF.tab.ent (List.mem_of_getElem? hx))
  have q1 := hF.tab.el
  have q2 := hF.tab.em
  have hxl := (List.getElem?_eq_some_iff.1 hx).1
  obtain ⟨b, o, hea, hr⟩ := hF.tab.es.some_ hx
  have HRX := Lib.hid (hr k x hx)
  obtain ⟨a', c', _, _, _, f0, f1, f2, f3, f4, _⟩ := hF.cells
  rw [hea] at f2
  have j3 : (0 : Int) ≤ (k : Int) := by omega
  have j4 : (k : Int) < (t.ents.length : Int) := by omega
  have HBF := Lib.hid hBf
  clear hx hF hr hea hI hl
  go_enter Try.func73, Try.ntmps73
  go_upto_region 2 with (refine wpList_load_mid rfl 43 (.tmp 13) rfl b (o + k * 22) rfl x.cells _ HRX.out Try.underlying43 rfl (Try.info43 x) ?_)
  refine wp_gen' ?_
  intro w0 hw0
  have hk0 : Kept [] w w0 := by rw [hw0]; exact Kept.alloc _ _ _
  have bx0 : w0.heap[w.heap.size]? = some (.cells x.cells.toArray 43 (0, 0)) := by rw [hw0]; exact heap_alloc_new _ _
  have HK0 := Lib.hid hk0
  have cl0 := hk0.cell hBl (by simp)
  have HC := Lib.hid (contains_any w0 a c l hc hm (HI.out.kept hk0) 75 #[.pointer (some ⟨Bf, 0, none⟩), .pointer (some ⟨w.heap.size, 0, none⟩)] (fun e => overB t x (rowE t e)) enters75 (fun W e hk he => by
    obtain ⟨i, y, rfl, hy, hye⟩ := row_at (HL.out e he)
    rw [hye]
    exact used21_any W F Bf w.heap.size v t h name all i x y hy (HF.out.kept (hk0.trans hk)) (HEX.out.kept (hk0.trans hk)) ((hk0.trans hk).cell HBF.out (by simp)) (hk.obj bx0 (by simp))))
  clear hw0 hk0 bx0 hBf hBl f0 f1 f2 f3 f4
  go_wp2_with fail
  refine HC.out.mono ?_
  rintro e w1 ⟨rfl, hk1⟩
  have HK1 := Lib.hid (HK0.out.trans hk1)
  clear hk1 HC
  go_wp2_with fail
  go_ret
  exact ⟨rfl, HK1.out⟩
end Go.Proofs.Ytlgcboaojdhneaa
namespace Go.Proofs.Ytlgcboaojdhneaa
open Go.RowKit Go.Shelf

abbrev BM := BMap Try.prog 3 4
theorem bm_lookup {w : World} {b n : Nat} {M : Int → Option Bool} (h : BM w b n M) {x : Int} (hx : (Lit.int .i64 x).wf = true) : (Instr.lookup 113 (.map (some b)) (.int .i64 x) false).run Try.prog w = .ok (.bool ((M x).getD false)) w :=
  h.lookup Try.underlying3 Try.underlying4 Try.underlying113 Try.zeroValue4 hx

/-- An entity of a used unit, of the whole unit, that no found one hides. -/
def ofUsed (t : Tab) (M : Int → Option Bool) (l : List Int) (x : EntV) : Bool := ((M x.owner).getD false && (x.part == 0)) && !hidR t l x

set_option maxRecDepth 100000 in
set_option maxHeartbeats 2000000 in
theorem used1_any (w : World) (F Bf Bm Bl bm nm : Nat) (M : Int → Option Bool) (v : TabV) (t : Tab) (h : WhV) (name : ByteArray) (all : List Int) (k : Nat) (x : EntV) (hx : t.ents[k]? = some x) (hF : FinderIn w F v t h name all) (hwf : (Lit.int .i64 x.owner).wf = true)
    (hBf : w.cell? ⟨Bf, 0, none⟩ = some (.pointer (some ⟨F, 0, none⟩))) (hBm : w.cell? ⟨Bm, 0, none⟩ = some (.map (some bm))) (hM : BM w bm nm M)
    (a : Option Addr) (c : Nat) (l : List Int) (hBl : w.cell? ⟨Bl, 0, none⟩ = some (.slice a l.length c)) (hc : l.length ≤ c) (hm : c ≤ 9223372036854775807) (hI : IntsIn w a l) (hl : ∀ e, e ∈ l → (rowR t e).isSome = true) :
    Calls Try.prog 72 #[.int .i64 k, .pointer (some ⟨Bf, 0, none⟩), .pointer (some ⟨Bm, 0, none⟩), .pointer (some ⟨Bl, 0, none⟩)] w (RetB (ofUsed t M l x) w) := by
  have HF := Lib.hid hF
  have HI := Lib.hid hI
  have HL := Lib.hid hl
  have HX := Lib.hid hx
  have q1 := hF.tab.el
  have q2 := hF.tab.em
  have hxl := (List.getElem?_eq_some_iff.1 hx).1
  obtain ⟨b, o, hea, hr⟩ := hF.tab.es.some_ hx
  have HRX := Lib.hid (hr k x hx)
  obtain ⟨a', c', _, _, _, f0, f1, f2, f3, f4, _⟩ := hF.cells
  rw [hea] at f2
  have j3 : (0 : Int) ≤ (k : Int) := by omega
  have j4 : (k : Int) < (t.ents.length : Int) := by omega
  have HBF := Lib.hid hBf
  have HR : Hid (ofUsed t M l x = (((M x.owner).getD false && (x.part == 0)) && !hidR t l x)) := rfl
  clear hx hF hr hea hI hl
  go_enter Try.func72, Try.ntmps72
  go_upto_region 2 with (refine wpList_load_mid rfl 43 (.tmp 14) rfl b (o + k * 22) rfl x.cells _ HRX.out Try.underlying43 rfl (Try.info43 x) ?_)
  refine wp_gen' ?_
  intro w0 hw0
  have hk0 : Kept [] w w0 := by rw [hw0]; exact Kept.alloc _ _ _
  have bx0 : w0.heap[w.heap.size]? = some (.cells x.cells.toArray 43 (0, 0)) := by rw [hw0]; exact heap_alloc_new _ _
  have HK0 := Lib.hid hk0
  have cl0 := hk0.cell hBl (by simp)
  have cm0 := hk0.cell hBm (by simp)
  have cf0 := hk0.cell hBf (by simp)
  have c2 := ent_cell (x := x) bx0 2 rfl
  have c3 := ent_cell (x := x) bx0 3 rfl
  have hM0 : BM w0 bm nm M := hM.block (hk0.block bm hM.lt (by simp))
  have lk := bm_lookup hM0 hwf
  have HC := Lib.hid (hidden_any w0 F v t h name all k x HX.out (HF.out.kept hk0) a c l hc hm (HI.out.kept hk0) HL.out)
  clear hw0 hk0 bx0 hBf hBl hBm hM hM0 f0 f1 f2 f3 f4
  cases h1 : (M x.owner).getD false
  · rw [h1] at HR lk
    go_wp2_with fail
    go_ret
    exact ⟨by rw [HR.out]; rfl, HK0.out⟩
  · rw [h1] at HR lk
    cases h2 : (x.part == 0)
    · rw [h2] at HR
      have h2' : x.part ≠ 0 := by simpa using h2
      go_wp2_with fail
      go_ret
      exact ⟨by rw [HR.out]; rfl, HK0.out⟩
    · rw [h2] at HR
      have h2' : x.part = 0 := by simpa using h2
      rw [h2'] at c3
      go_wp2_with fail
      refine HC.out.mono ?_
      rintro e w1 ⟨rfl, hk1⟩
      have HK1 := Lib.hid (HK0.out.trans hk1)
      clear hk1 HC
      go_wp2_with fail
      go_ret
      exact ⟨by rw [HR.out]; rfl, HK1.out⟩
end Go.Proofs.Ytlgcboaojdhneaa
namespace Go.Proofs.Ytlgcboaojdhneaa
open Go.RowKit Go.Shelf

theorem bm_update {w : World} {b n : Nat} {M : Int → Option Bool} (h : BM w b n M) (hn : n < maxLen) {x : Int} (hx : (Lit.int .i64 x).wf = true) (v : Bool) :
    ∃ w', (Instr.mapUpdate 113 (.map (some b)) (.int .i64 x) (.bool v)).run Try.prog w = .ok () w' ∧ BM w' b (n + 1) (updM M x v) ∧ w.grownBy w' (some b) ∧ w'.heap.size = w.heap.size :=
  h.update Try.underlying3 Try.underlying4 Try.underlying113 hn hx v

theorem baseN_lt {t : Tab} : ∀ (m n : Nat), n < t.ents.length → baseN t m n < t.ents.length := by
  intro m
  induction m with
  | zero => intro n h; exact h
  | succ m ih =>
    intro n h
    unfold baseN
    rw [List.getElem?_eq_getElem h]
    simp only
    split
    · rename_i hr
      unfold renB at hr
      simp only [Bool.and_eq_true, decide_eq_true_eq] at hr
      exact ih _ (by omega)
    · exact h
/-- The base of an entity is a row or none. -/
theorem baseR_row (t : Tab) (u : Int) : baseR t u = -1 ∨ ∃ (n : Nat) (x : EntV), baseR t u = (n : Int) ∧ t.ents[n]? = some x ∧ rowE t (baseR t u) = x := by
  unfold baseR
  cases h : (rowR t u).isSome
  · left; simp
  · right
    obtain ⟨n, x, rfl, hx, _⟩ := row_at h
    have hl := baseN_lt n n (List.getElem?_eq_some_iff.1 hx).1
    refine ⟨baseN t n n, _, by simp, List.getElem?_eq_getElem hl, ?_⟩
    simp only [if_true, Int.toNat_natCast]
    unfold rowE rowR
    rw [if_neg (by omega)]
    simp [List.getElem?_eq_getElem hl]

theorem enters72 : ∀ args w, (callFunc 72 args).run Try.prog w = .ok (.enter 72 args) w := Go.Proofs.enters_of Try.func72 (by kernel_rfl) rfl
theorem enters73 : ∀ args w, (callFunc 73 args).run Try.prog w = .ok (.enter 73 args) w := Go.Proofs.enters_of Try.func73 (by kernel_rfl) rfl

/-- The units that are used. -/
def wantU (t : Tab) (u : Int) : Bool := decide (0 ≤ baseR t u) && ((rowE t (baseR t u)).kind == 2)
def wantS (t : Tab) (M : Int → Option Bool) (u : Int) : Int → Option Bool := if wantU t u then updM M (baseR t u) true else M
def wantM (t : Tab) (us : List Int) : Int → Option Bool := us.foldl (wantS t) (fun _ => none)
theorem wantM_snoc (t : Tab) (us : List Int) (u : Int) : wantM t (us ++ [u]) = wantS t (wantM t us) u := by simp [wantM]

def usedR (t : Tab) (h : WhV) (all found : List Int) : List Int :=
  let f1 := all.filter fun e => ofUsed t (wantM t h.uses) found (rowE t e)
  f1.filter fun e => freeB t f1 (rowE t e)

set_option maxRecDepth 100000 in
set_option maxHeartbeats 4000000 in
theorem used_any (w : World) (F : Nat) (v : TabV) (t : Tab) (h : WhV) (name : ByteArray) (all : List Int) (hF : FinderIn w F v t h name all) (hl : ∀ e, e ∈ all → (rowR t e).isSome = true) (hs : all.length ≤ 5000) (hus : h.uses.length ≤ 100000)
    (hwf : ∀ x, x ∈ t.ents → (Lit.int .i64 x.owner).wf = true)
    (a : Option Addr) (c : Nat) (l : List Int) (hc : l.length ≤ c) (hm : c ≤ 9223372036854775807) (hI : IntsIn w a l) (hll : ∀ e, e ∈ l → (rowR t e).isSome = true) :
    Calls Try.prog 45 #[.pointer (some ⟨F, 0, none⟩), .slice a l.length c] w (RetC (usedR t h all l) w) := by
  have HF := Lib.hid hF
  have HI := Lib.hid hI
  have HL := Lib.hid hl
  have HLL := Lib.hid hll
  have HWF := Lib.hid hwf
  have q1 := hF.tab.el
  have q2 := hF.tab.em
  have s1 := hF.wh.s1
  have s2 := hF.wh.s2
  obtain ⟨a', c', _, _, _, f0, f1, f2, f3, f4, _, _, _, f8, _⟩ := hF.cells
  clear hF hI hl hll hwf
  have hmm := @run_makeMap Try.prog
  go_enter Try.func45, Try.ntmps45
  go_upto_region 2 with (fail)
  refine wp_gen' ?_
  intro w1 hw1
  have HK1 : Hid (Kept [] w w1) := by rw [Hid, hw1]; exact (((Kept.alloc _ _ _).trans (Kept.alloc _ _ _)).trans (Kept.alloc _ _ _)).trans (Kept.alloc _ _ _)
  have b0 : w1.heap[w.heap.size]? = some (.cells #[.pointer (some ⟨F, 0, none⟩)] 76 (0, 0)) := by rw [hw1]; exact obj_old (obj_old (obj_old (obj_new rfl) (by simp)) (by simp; omega)) (by simp; omega)
  have b1 : w1.heap[w.heap.size + 1]? = some (.cells #[.slice a l.length c] 29 (0, 0)) := by rw [hw1]; exact obj_old (obj_old (obj_new (by simp)) (by simp <;> omega)) (by simp <;> omega)
  have HM1 : Hid (BM w1 (w.heap.size + 1 + 1) 0 (fun _ => none)) := by
    rw [Hid, hw1]
    have h0 : BM (((w.alloc (.cells #[.pointer (some ⟨F, 0, none⟩)] 76)).alloc (.cells #[.slice a l.length c] 29)).alloc (.map #[] 0)) (w.heap.size + 1 + 1) 0 (fun _ => none) := by
      have := BMap.made Try.prog 3 4 ((w.alloc (.cells #[.pointer (some ⟨F, 0, none⟩)] 76)).alloc (.cells #[.slice a l.length c] 29))
      simpa using this
    exact h0.block (Below.heap_alloc _ _ _ (by simp))
  have b3 : w1.heap[w.heap.size + 1 + 1 + 1]? = some (.cells #[.map (some (w.heap.size + 1 + 1))] 113 (0, 0)) := by rw [hw1]; exact obj_new (by simp)
  have hsz : w1.heap.size = w.heap.size + 4 := by rw [hw1]; simp
  have HB0 := Lib.hid b0
  have HB1 := Lib.hid b1
  have HB3 := Lib.hid b3
  have HSZ := Lib.hid hsz
  have g0 := (cell_one_at b0).1
  have k8 := HK1.out.cell f8 (by simp)
  have HL0 : Hid (BM w1 (w.heap.size + 1 + 1) 0 (wantM t (h.uses.take 0)) ∧ Kept [w.heap.size + 1 + 1] w1 w1) := ⟨HM1.out, Kept.refl _ _⟩
  clear hw1 b0 b1 b3 hsz hmm f0 f1 f2 f3 f4 f8
  go_wp2_with fail
  clear g0 k8
  go_loopw [17] (fun i wr => ∃ k : Nat, k ≤ h.uses.length ∧ i = .int .i64 k ∧ BM wr (w.heap.size + 1 + 1) k (wantM t (h.uses.take k)) ∧ Kept [w.heap.size + 1 + 1] w1 wr) (fun i _ => h.uses.length - (intOf i).toNat)
  case atStart => exact ⟨0, Nat.zero_le _, rfl, HL0.out.1, HL0.out.2⟩
  case round =>
    obtain ⟨k, hk, rfl, hbm, hkr⟩ := hrel
    have HBM := Lib.hid hbm
    have HKR := Lib.hid hkr
    have HKW : Hid (Kept [] w wr) := HK1.out.above hkr (fun z hz => by simp at hz; omega)
    have HFR := Lib.hid (HF.out.kept HKW.out)
    have g0 : wr.cell? ⟨w.heap.size, 0, none⟩ = _ := hkr.cell (cell_one_at HB0.out).1 (by simp; omega)
    have g3 : wr.cell? ⟨w.heap.size + 1 + 1 + 1, 0, none⟩ = _ := hkr.cell (cell_one_at HB3.out).1 (by simp)
    obtain ⟨a2, c2, _, hall1, hall2, f0, f1, f2, f3, f4, _, _, _, f8, _, f10⟩ := HFR.out.cells
    obtain ⟨w2, rfl⟩ : ∃ w2 : World, w2 = wr := ⟨_, rfl⟩
    by_cases hlt : k < h.uses.length
    · obtain ⟨u, hu⟩ : ∃ u, h.uses[k]? = some u := ⟨_, List.getElem?_eq_getElem hlt⟩
      have HTK : Hid (h.uses.take (k + 1) = h.uses.take k ++ [u]) := by
        rw [Hid, List.take_add_one, hu]; rfl
      rcases HFR.out.wh.s with he | ⟨bs, os, hsa, hcs⟩
      · rw [he] at hlt; simp at hlt
      have hcu := hcs k u hu
      rw [hsa]
      have HC := Lib.hid (base_any w2 v t u HFR.out.tab)
      unfold TabV.cells at HC
      clear hbm hkr hu hcs hsa f8 f10
      go_upto_region 6 with (fail)
      refine HC.out.mono ?_
      rintro e w3 ⟨rfl, hk3⟩
      have HK3 := Lib.hid hk3
      have g0' := hk3.cell g0 (by simp)
      have g3' := hk3.cell g3 (by simp)
      have e0 := hk3.cell f0 (by simp)
      have e2 := hk3.cell f2 (by simp)
      have hbm3 : BM w3 (w.heap.size + 1 + 1) k (wantM t (h.uses.take k)) := HBM.out.block (hk3.block _ HBM.out.lt (by simp))
      have HBM3 := Lib.hid hbm3
      have HKR3 : Hid (Kept [w.heap.size + 1 + 1] w1 w3) := HKR.out.trans (hk3.mono (by simp))
      clear HC hk3 g0 g3 f0 f1 f2 f3 f4 hbm3 hcu
      rcases baseR_row t u with hb | ⟨n, x, hb, hx, hrx⟩
      · have HN : Hid (BM w3 (w.heap.size + 1 + 1) (k + 1) (wantM t (h.uses.take (k + 1)))) := by
          have hw : wantU t u = false := by unfold wantU; rw [hb]; simp
          rw [Hid, HTK.out, wantM_snoc, wantS, hw]
          exact HBM3.out.mono (by omega)
        rw [hb]
        go_wp2_with fail
        go_roundw
        case rel => exact ⟨k + 1, by omega, by go_num, HN.out, HKR3.out⟩
        case measure => simp [intOf]; omega
      · have hnl := (List.getElem?_eq_some_iff.1 hx).1
        obtain ⟨b, o, hea, hr⟩ := ((HFR.out.tab).kept HK3.out).es.some_ hx
        have hkd : w3.cell? ⟨b, o + n * 22, none⟩ = some (.int .u8 x.kind) := hr n x hx 0 _ rfl
        have hown : (Lit.int .i64 (n : Int)).wf = true := WalkArith.wf_i64 (by omega)
        rw [hea] at e2
        have j1 : (0 : Int) ≤ (n : Int) := by omega
        have j2 : (n : Int) < (t.ents.length : Int) := by omega
        have HW : Hid (wantU t u = (x.kind == 2)) := by
          rw [Hid, wantU, hrx, hb]
          simp
        have HWB : Hid (baseR t u = (n : Int)) := hb
        rw [hb]
        clear hx hr hrx hb hea
        cases h2 : (x.kind == 2)
        · have h2' : x.kind ≠ 2 := by simpa using h2
          have HN : Hid (BM w3 (w.heap.size + 1 + 1) (k + 1) (wantM t (h.uses.take (k + 1)))) := by
            rw [Hid, HTK.out, wantM_snoc, wantS, HW.out, h2]
            exact HBM3.out.mono (by omega)
          go_wp2_with fail
          go_roundw
          case rel => exact ⟨k + 1, by omega, by go_num, HN.out, HKR3.out⟩
          case measure => simp [intOf]; omega
        · have h2' : x.kind = 2 := by simpa using h2
          rw [h2'] at hkd
          obtain ⟨w5, hup, hm5, hg5, _⟩ := bm_update HBM3.out (by unfold maxLen; omega) hown true
          have HN : Hid (BM w5 (w.heap.size + 1 + 1) (k + 1) (wantM t (h.uses.take (k + 1)))) := by
            rw [Hid, HTK.out, wantM_snoc, wantS, HW.out, h2, if_pos rfl, HWB.out]
            exact hm5
          have HK5 : Hid (Kept [w.heap.size + 1 + 1] w1 w5) := HKR3.out.trans ⟨hg5.os, hg5.tape, hg5.output, hg5.size, fun z hz hzx => hg5.block z hz (fun e => hzx (by injection e with e; simp [e]))⟩
          clear hm5 hg5
          go_wp2_with fail
          go_roundw
          case rel => exact ⟨k + 1, by omega, by go_num, HN.out, HK5.out⟩
          case measure => simp [intOf]; omega
    · obtain rfl : k = h.uses.length := by omega
      have HIA : Hid (IntsIn w2 a2 all) := by assumption
      have HM2 : Hid (BM w2 (w.heap.size + 1 + 1) h.uses.length (wantM t h.uses)) := by
        have := HBM.out
        rwa [List.take_length] at this
      have HBL2 : Hid (w2.heap[w.heap.size + 1]? = some (.cells #[.slice a l.length c] 29 (0, 0))) := hkr.obj HB1.out (by simp)
      have HG0 := Lib.hid g0
      have HG3 := Lib.hid g3
      have HU : Hid (usedR t h all l = (all.filter fun e => ofUsed t (wantM t h.uses) l (rowE t e)).filter fun e => freeB t (all.filter fun e => ofUsed t (wantM t h.uses) l (rowE t e)) (rowE t e)) := rfl
      obtain ⟨M, hM⟩ : ∃ M, wantM t h.uses = M := ⟨_, rfl⟩
      rw [hM] at HM2 HU
      have HC := Lib.hid (kept_any w2 a2 c2 all hall1 hall2 HIA.out (by omega) 72 #[.pointer (some ⟨w.heap.size, 0, none⟩), .pointer (some ⟨w.heap.size + 1 + 1 + 1, 0, none⟩), .pointer (some ⟨w.heap.size + 1, 0, none⟩)] (fun e => ofUsed t M l (rowE t e)) enters72 (fun W e hk he => by
        obtain ⟨i, x, rfl, hx, hxe⟩ := row_at (HL.out e he)
        rw [hxe]
        exact used1_any W F w.heap.size (w.heap.size + 1 + 1 + 1) (w.heap.size + 1) (w.heap.size + 1 + 1) h.uses.length M v t h name all i x hx (HFR.out.kept hk) (HWF.out x (List.mem_of_getElem? hx)) (hk.cell HG0.out (by simp)) (hk.cell HG3.out (by simp)) (HM2.out.block (hk.block _ HM2.out.lt (by simp))) a c l (hk.cell (cell_one_at HBL2.out).1 (by simp)) hc hm (HI.out.kept (HKW.out.trans hk)) HLL.out))
      clear hbm hkr hM f8 f0 f1 f2 f3 f4
      go_wp2_with fail
      refine HC.out.mono ?_
      rintro e w3 ⟨v3, rfl, ho3, hk3⟩
      obtain ⟨A3, c3, rfl⟩ := own_shape ho3
      have HK3 := Lib.hid hk3
      have HO3 := Lib.hid ho3
      have HF1 : Hid (∀ e, e ∈ (all.filter fun e => ofUsed t M l (rowE t e)) → (rowR t e).isSome = true) := fun e he => HL.out e (List.mem_filter.1 he).1
      have hfl := List.length_filter_le (fun e => ofUsed t M l (rowE t e)) all
      generalize (all.filter fun e => ofUsed t M l (rowE t e)) = f1 at *
      obtain ⟨_, hin3, h31, h32, _⟩ := (IntsC.of_owns HO3.out).at_
      have HIN3 := Lib.hid hin3
      have g0' := hk3.cell g0 (by simp)
      clear HC hk3 ho3 g0 g3 f10 hin3
      go_upto_region 10 with (fail)
      refine wp_gen' ?_
      intro w4 hw4
      have hk4 : Kept [] w3 w4 := by rw [hw4]; exact Kept.alloc _ _ _
      have b9 : w4.heap[w3.heap.size]? = some (.cells #[.slice A3 f1.length c3] 29 (0, 0)) := by rw [hw4]; exact heap_alloc_new _ _
      have g9 := (cell_one_at b9).1
      have HK24 : Hid (Kept [] w2 w4) := HK3.out.trans hk4
      have HB9 := Lib.hid b9
      have HG4 : Hid (w4.cell? ⟨w.heap.size, 0, none⟩ = some (.pointer (some ⟨F, 0, none⟩))) := hk4.cell g0' (by simp)
      have HC := Lib.hid (kept_any w4 A3 c3 f1 h31 h32 (HIN3.out.kept hk4) (by omega) 73 #[.pointer (some ⟨w.heap.size, 0, none⟩), .pointer (some ⟨w3.heap.size, 0, none⟩)] (fun e => freeB t f1 (rowE t e)) enters73 (fun W e hk he => by
        obtain ⟨i, x, rfl, hx, hxe⟩ := row_at (HF1.out e he)
        rw [hxe]
        exact used2_any W F w.heap.size w3.heap.size v t h name all i x hx (HFR.out.kept (HK24.out.trans hk)) (hk.cell HG4.out (by simp)) A3 c3 f1 (hk.cell (cell_one_at HB9.out).1 (by simp)) h31 h32 (HIN3.out.kept (hk4.trans hk)) HF1.out))
      clear hw4 hk4 b9 g0'
      go_wp2_with fail
      refine HC.out.mono ?_
      rintro e w5 ⟨v5, rfl, ho5, hk5⟩
      have HR : Hid (IntsC w5 v5 (usedR t h all l)) := by
        rw [Hid, HU.out]
        exact IntsC.of_owns ho5
      have HK5 : Hid (Kept [] w w5) := HKW.out.trans (HK24.out.trans hk5)
      clear ho5 hk5 HC g9
      go_wp2_with fail
      go_ret
      exact ⟨_, rfl, HR.out, HK5.out⟩
end Go.Proofs.Ytlgcboaojdhneaa
