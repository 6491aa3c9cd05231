/- slices.IndexFunc, slices.ContainsFunc over entities; Add's test. Add. -/
import Derived.Test.YtlgcboaojdhneaaK6
import Derived.Test.YtlgcboaojdhneaaK7
namespace Go.Proofs.Ytlgcboaojdhneaa
open Go.RowKit

set_option maxRecDepth 100000 in
set_option maxHeartbeats 1000000 in
theorem indexE_any (w : World) (a : Option Addr) (c : Nat) (xs : List EntV) (hc : xs.length ≤ c) (hm : c ≤ 9223372036854775807) (hI : RowsAt EntV 22 EntV.cells w a xs) (K : Nat) (caps : Array Value) (p : EntV → Bool) (eg : ∀ args w, (callFunc K args).run Try.prog w = .ok (.enter K args) w)
    (hp : ∀ W x, Kept [] w W → x ∈ xs → Calls Try.prog K (#[.agg x.cells.toArray] ++ caps) W (RetB (p x) W)) :
    Calls Try.prog 81 #[.slice a xs.length c, .func (.func K) #[] caps] w (RetIdx (xs.any p) w) := by
  have HI := Lib.hid hI
  have HP := Lib.hid hp
  clear hI hp
  go_enter Try.func81, Try.ntmps81
  go_wp2_with fail
  go_loopw [8] (fun i wr => ∃ k : Nat, k ≤ xs.length ∧ i = .int .i64 k ∧ (xs.take k).any p = false ∧ Kept [] w wr) (fun i _ => xs.length - (intOf i).toNat)
  case atStart => exact ⟨0, Nat.zero_le _, rfl, rfl, Kept.refl _ _⟩
  case round =>
    obtain ⟨k, hk, rfl, hn, hkr⟩ := hrel
    have HN := Lib.hid hn
    have HK := Lib.hid hkr
    clear hn hkr
    obtain ⟨wo, rfl⟩ : ∃ wo : World, wo = wr := ⟨_, rfl⟩
    by_cases hlt : k < xs.length
    · obtain ⟨x, hx⟩ : ∃ x, xs[k]? = some x := ⟨_, List.getElem?_eq_getElem hlt⟩
      have HX := Lib.hid hx
      rcases HI.out with h0 | ⟨b, o, rfl, hcx⟩
      · rw [h0] at hlt; simp at hlt
      · haveI ie : EntAt wo b (o + k * 22) x := ⟨fun j u hu => HK.out.cell (hcx k x hx j u hu) (by simp)⟩
        clear hcx hx
        go_wp2_with fail
        refine (HP.out _ _ HK.out (List.mem_of_getElem? HX.out)).mono ?_
        rintro e w2 ⟨rfl, hk2⟩
        have HK2 := Lib.hid (HK.out.trans hk2)
        have HS : Hid ((xs.take (k + 1)).any p = p x) := by
          obtain ⟨hk', e⟩ := List.getElem?_eq_some_iff.1 HX.out
          rw [Hid, List.take_succ_eq_append_getElem hk', e, List.any_append, HN.out]
          simp
        have HA : Hid (p x = true → xs.any p = true) := fun h => List.any_eq_true.2 ⟨x, List.mem_of_getElem? HX.out, h⟩
        clear hk2 HK ie
        cases hpx : p x
        · rw [hpx] at HS
          clear hpx HA
          go_wp2_with fail
          go_roundw
          case rel => exact ⟨k + 1, by omega, by go_num, HS.out, HK2.out⟩
          case measure => simp [intOf]; omega
        · have HA2 := Lib.hid (HA.out hpx)
          clear hpx HA HS
          go_wp2_with fail
          go_ret
          exact ⟨_, rfl, by rw [HA2.out]; simp, HK2.out⟩
    · obtain rfl : k = xs.length := by omega
      have HN2 := Lib.hid (by have := HN.out; rw [List.take_length] at this; exact this)
      clear HN
      go_wp2_with fail
      go_ret
      exact ⟨_, rfl, by rw [HN2.out]; simp, HK.out⟩

set_option maxHeartbeats 1000000 in
theorem containsE_any (w : World) (a : Option Addr) (c : Nat) (xs : List EntV) (hc : xs.length ≤ c) (hm : c ≤ 9223372036854775807) (hI : RowsAt EntV 22 EntV.cells w a xs) (K : Nat) (caps : Array Value) (p : EntV → Bool) (eg : ∀ args w, (callFunc K args).run Try.prog w = .ok (.enter K args) w)
    (hp : ∀ W x, Kept [] w W → x ∈ xs → Calls Try.prog K (#[.agg x.cells.toArray] ++ caps) W (RetB (p x) W)) :
    Calls Try.prog 55 #[.slice a xs.length c, .func (.func K) #[] caps] w (RetB (xs.any p) w) := by
  have HC := Lib.hid (indexE_any w a c xs hc hm hI K caps p eg hp)
  clear hp hI eg
  go_enter Try.func55, Try.ntmps55
  go_wp2_with fail
  refine HC.out.mono ?_
  rintro e w2 ⟨i, rfl, hi, hk⟩
  have HI := Lib.hid hi
  have HK := Lib.hid hk
  clear hi hk HC
  go_wp2_with fail
  go_ret
  rw [HI.out]
  exact ⟨rfl, HK.out⟩

/-- Add's test: is y a homograph of x in the same region? -/
def addB (t : Tab) (x y : EntV) : Bool := (y.owner == x.owner) && homR t x y

set_option maxRecDepth 100000 in
set_option maxHeartbeats 1000000 in
theorem add1_any (w : World) (Bx Bt : Nat) (v : TabV) (t : Tab) (x y : EntV) (hX : w.heap[Bx]? = some (.cells x.cells.toArray 43 (0, 0))) (hT : TabBox w Bt v t) (hx : EntIn w x) (hy : EntIn w y) :
    Calls Try.prog 56 #[.agg y.cells.toArray, .pointer (some ⟨Bx, 0, none⟩), .pointer (some ⟨Bt, 0, none⟩)] w (RetB (addB t x y) w) := by
  have HX := Lib.hid hX
  have HT := Lib.hid hT
  have HC := Lib.hid (fun W (hk : Kept [] w W) => homographs_any W v t x y (hT.tab.kept hk) (hx.kept hk) (hy.kept hk))
  unfold TabV.cells at HC
  clear hX hT hx hy
  go_enter Try.func56, Try.ntmps56
  go_upto_region 1 with (fail)
  refine wp_gen' ?_
  intro w0 hw0
  have HK0 : Hid (Kept [] w w0) := by rw [Hid, hw0]; exact Kept.alloc _ _ _
  have HY : Hid (w0.heap[w.heap.size]? = some (.cells y.cells.toArray 43 (0, 0))) := by rw [Hid, hw0]; exact heap_alloc_new _ _
  generalize w.heap.size = B at *
  clear hw0
  obtain ⟨d0, d1, d2, d3, d4⟩ := (HT.out.kept HK0.out).cells
  have y2 := ent_cell (x := y) HY.out 2 rfl
  have x2 := ent_cell (x := x) (HK0.out.obj HX.out (by simp)) 2 rfl
  haveI ix : EntAt w0 Bx 0 x := ⟨EntV.range (HK0.out.obj HX.out (by simp))⟩
  haveI iy : EntAt w0 B 0 y := ⟨EntV.range HY.out⟩
  have HB : Hid (addB t x y = ((y.owner == x.owner) && homR t x y)) := rfl
  cases e : (y.owner == x.owner)
  · rw [e] at HB
    go_wp2_with fail
    go_ret
    exact ⟨by rw [HB.out]; rfl, HK0.out⟩
  · rw [e] at HB
    go_wp2_with (go_at_call 48; refine (HC.out _ HK0.out).mono ?_; rintro e w1 ⟨rfl, hk1⟩; have HK1 := Lib.hid (HK0.out.trans hk1); clear hk1)
    go_ret
    exact ⟨by rw [HB.out]; rfl, HK1.out⟩
end Go.Proofs.Ytlgcboaojdhneaa
namespace Go.Proofs.Ytlgcboaojdhneaa
open Go.RowKit

def twiceB (t : Tab) (x : EntV) : Bool := !x.name.toList.isEmpty && t.ents.any (addB t x)
def addErr (t : Tab) (x : EntV) : Int := if 4096 ≤ t.ents.length then 3 else if twiceB t x then 81 else 0
def nilT : Array Value := #[.slice none 0 0, .slice none 0 0, .slice none 0 0, .slice none 0 0, .slice none 0 0]
/-- What Add returns. -/
def RetAdd (v : TabV) (t : Tab) (x : EntV) (w : World) (e : Ending) (w' : World) : Prop :=
  (addErr t x = 0 ∧ ∃ ea ec, e = .returned (.tuple #[.agg (({ v with ea := ea, ec := ec } : TabV).cells (addE t x)), .int .i64 0]) ∧ w'.ownsRow w.heap.size 43 22 (.slice ea (addE t x).ents.length ec) (addE t x).ents.length ((addE t x).ents.map EntV.cells).flatten ∧ Kept [] w w') ∨
  (addErr t x ≠ 0 ∧ e = .returned (.tuple #[.agg nilT, .int .i64 (addErr t x)]) ∧ Kept [] w w')
theorem tabIn_add {w w' : World} {base : Nat} {v : TabV} {t : Tab} {x : EntV} {ea : Option Addr} {ec : Nat} (hT : TabIn w v t) (hx : EntIn w x) (hk : Kept [] w w')
    (ho : w'.ownsRow base 43 22 (.slice ea (addE t x).ents.length ec) (addE t x).ents.length ((addE t x).ents.map EntV.cells).flatten) : TabIn w' { v with ea := ea, ec := ec } (addE t x) := by
  obtain ⟨A, c, e, h1, h2, h3, h4⟩ := rows_own ho EntV.len rfl
  injection e with e1 e2 e3
  subst e1 e3
  have hT' := hT.kept hk
  have hx' := hx.kept hk
  refine ⟨h4, ?_, ?_, hT'.ss, h1, h2, h3, hT'.sl, hT'.sm⟩
  · intro y hy
    rcases List.mem_append.1 hy with hy | hy
    · exact hT'.ps y hy
    · simp at hy; subst hy; exact hx'.ps
  · intro y hy
    rcases List.mem_append.1 hy with hy | hy
    · exact hT'.ok y hy
    · simp at hy; subst hy; exact hx'.ok
theorem enters56 : ∀ args w, (callFunc 56 args).run Try.prog w = .ok (.enter 56 args) w := Go.Proofs.enters_of Try.func56 (by kernel_rfl) rfl
theorem results26_of {w : World} {B : Nat} {c : Array Value} {n : Int} {tmps : Array Value} (h4 : tmps.getD 4 undef = .pointer (some ⟨B, 0, none⟩)) (h5 : tmps.getD 5 undef = .int .i64 n) (hc : c.size = 5) (hr : w.rangeAt B 0 c.toList) :
    (results Try.f26 tmps).run Try.prog w = .ok (.tuple #[.agg c, .int .i64 n]) w := by
  simp only [Array.getD_eq_getD_getElem?] at h4 h5
  have hi : (Try.prog.info? 28).map (·.size) = some c.toList.length := by
    rw [Array.length_toList, hc]
    exact Try.size28
  simp [results, Try.results26, h4, h5, asAddr, Sem.run_bind, run_loadVar_mid w B 0 28 c.toList _ hr Try.underlying28 rfl hi]
theorem row_range {w : World} {B : Nat} {c : Array Value} {ty : TypeId} (h : w.heap[B]? = some (.cells c ty (0, 0))) : w.rangeAt B 0 c.toList := fun j u hu => by
  rw [Nat.zero_add, cell_of_row _ _ _ _ _ _ h]
  simpa using hu

theorem own_not {W : World} {R base n : Nat} {v : Value} {xs : List Value} {c : Array Value} (ho : W.ownsRow base 43 22 v n xs) (hR : W.heap[R]? = some (.cells c 28 (0, 0))) : ∀ k, v.ownBlock = some k → k ∉ [R] := fun k hk => by
  obtain ⟨c', hc⟩ := own_row_at' ho hk
  simp
  rintro rfl
  rw [hc] at hR
  simp at hR
theorem add_stored {w w1 wb : World} {B X R n : Nat} {v : TabV} {t : Tab} {x : EntV} {Ab : Option Addr} {cb : Nat} (hB : w1.heap[B]? = some (.cells (v.cells t) 28 (0, 0))) (_ : w1.heap[X]? = some (.cells x.cells.toArray 43 (0, 0))) (hR : w1.heap[R]? = some (.cells nilT 28 (0, 0)))
    (hk : Kept [] w1 wb) (hn : t.ents.length = n) (ho : wb.ownsRow w.heap.size 43 22 (.slice Ab (n + 1) cb) (n + 1) ((t.ents.map EntV.cells).flatten ++ x.cells)) (hk1 : Kept [] w w1) (hw : w.heap.size ≤ B) (hne : B < R) :
    (wb.setCell ⟨B, 2, none⟩ (.slice Ab (n + 1) cb)).heap[B]? = some (.cells (({ v with ea := Ab, ec := cb } : TabV).cells (addE t x)) 28 (0, 0)) ∧ (wb.setCell ⟨B, 2, none⟩ (.slice Ab (n + 1) cb)).heap[R]? = some (.cells nilT 28 (0, 0)) ∧
    (wb.setCell ⟨B, 2, none⟩ (.slice Ab (n + 1) cb)).ownsRow w.heap.size 43 22 (.slice Ab (addE t x).ents.length cb) (addE t x).ents.length ((addE t x).ents.map EntV.cells).flatten ∧ Kept [] w (wb.setCell ⟨B, 2, none⟩ (.slice Ab (n + 1) cb)) := by
  have hb := hk.obj hB (by simp)
  have hL : (addE t x).ents.length = n + 1 := by simp [addE, hn]
  have h0 : VRow wb B 28 (v.cells t).toList := hb
  have hs : Kept [B] wb (wb.setCell ⟨B, 2, none⟩ (.slice Ab (n + 1) cb)) := Kept.setCell _ _ _ (by simp)
  refine ⟨?_, ?_, ?_, (hk1.trans hk).above hs (by simp; omega)⟩
  · have h1 := h0.set 2 (.slice Ab (n + 1) cb)
    have e : (({ v with ea := Ab, ec := cb } : TabV).cells (addE t x)) = #[.slice v.ta t.types.length v.tc, .slice v.sa t.subs.length v.sc, .slice Ab (n + 1) cb, .slice v.ga v.gn v.gc, .slice v.ia v.im v.ic] := by
      rw [TabV.cells, hL]
      rfl
    rw [e]
    exact h1
  · exact hs.obj (hk.obj hR (by simp)) (by simp; omega)
  · have h2 := own_keep ho hs (own_not ho hb)
    rw [hL]
    simpa [addE] using h2
theorem tab_stored {wz : World} {R : Nat} {c : Array Value} {x0 x1 x2 x3 x4 : Value} (hR : wz.heap[R]? = some (.cells nilT 28 (0, 0))) (hc : c = #[x0, x1, x2, x3, x4]) (W : World)
    (hW : W = (((((wz.setCell ⟨R, 0, none⟩ x0).setCell ⟨R, 1, none⟩ x1).setCell ⟨R, 2, none⟩ x2).setCell ⟨R, 3, none⟩ x3).setCell ⟨R, 4, none⟩ x4)) : W.rangeAt R 0 c.toList ∧ Kept [R] wz W := by
  subst hW hc
  have h0 : VRow wz R 28 nilT.toList := hR
  have h5 := ((((h0.set 0 x0).set 1 x1).set 2 x2).set 3 x3).set 4 x4
  exact ⟨row_range h5, ((((Kept.setCell _ _ _ (by simp)).trans (Kept.setCell _ _ _ (by simp))).trans (Kept.setCell _ _ _ (by simp))).trans (Kept.setCell _ _ _ (by simp))).trans (Kept.setCell _ _ _ (by simp))⟩

set_option maxRecDepth 100000 in
set_option maxHeartbeats 4000000 in
theorem add_ent (w : World) (v : TabV) (t : Tab) (x : EntV) (hT : TabIn w v t) (hx : EntIn w x) (hs : t.ents.length ≤ 5000) :
    Calls Try.prog 26 #[.agg (v.cells t), .agg x.cells.toArray] w (RetAdd v t x w) := by
  have HT := Lib.hid hT
  have HX := Lib.hid hx
  have HSZ := Lib.hid hs
  have q1 := hT.el
  have q2 := hT.em
  have Q0 := Lib.hid hT.e0
  obtain ⟨i0, hi, hz0, hz1, hz2⟩ := info_parts ent_info
  clear hT hx hs
  unfold TabV.cells
  go_enter Try.func26, Try.ntmps26
  go_upto_region 1 with (fail)
  refine wp_gen' ?_
  intro w0 hw0
  have HK0 : Hid (Kept [] w w0) := by rw [Hid, hw0]; exact ((Kept.alloc _ _ _).trans (Kept.alloc _ _ _)).trans (Kept.alloc _ _ _)
  have HTB : Hid (TabBox w0 w.heap.size v t) := ⟨by rw [hw0]; exact obj_old (obj_old (obj_new rfl) (by simp)) (by simp; omega), HT.out.kept HK0.out⟩
  have HXB : Hid (w0.heap[w.heap.size + 1]? = some (.cells x.cells.toArray 43 (0, 0))) := by rw [Hid, hw0]; exact obj_old (obj_new (by simp)) (by simp)
  have HRB : Hid (w0.heap[w.heap.size + 1 + 1]? = some (.cells nilT 28 (0, 0))) := by rw [Hid, hw0]; exact obj_new (by simp)
  have hbx : w.heap.size < w.heap.size + 1 ∧ w.heap.size + 1 < w.heap.size + 1 + 1 ∧ w.heap.size ≤ w.heap.size := by omega
  have HBX := Lib.hid hbx
  clear hw0 hbx
  generalize hRR : w.heap.size + 1 + 1 = R at *
  generalize hXX : w.heap.size + 1 = X at *
  generalize hBB : w.heap.size = B at *
  have HBB := Lib.hid hBB
  clear hRR hXX hBB
  obtain ⟨d0, d1, d2, d3, d4⟩ := HTB.out.cells
  have r0 : w0.cell? ⟨R, 0, none⟩ = some (.slice none 0 0) := (cell_of_row _ _ _ _ _ _ HRB.out).trans rfl
  have r1 : w0.cell? ⟨R, 1, none⟩ = some (.slice none 0 0) := (cell_of_row _ _ _ _ _ _ HRB.out).trans rfl
  have r2 : w0.cell? ⟨R, 2, none⟩ = some (.slice none 0 0) := (cell_of_row _ _ _ _ _ _ HRB.out).trans rfl
  have r3 : w0.cell? ⟨R, 3, none⟩ = some (.slice none 0 0) := (cell_of_row _ _ _ _ _ _ HRB.out).trans rfl
  have r4 : w0.cell? ⟨R, 4, none⟩ = some (.slice none 0 0) := (cell_of_row _ _ _ _ _ _ HRB.out).trans rfl
  have fr : ∀ W : World, W.heap[R]? = some (.cells nilT 28 (0, 0)) → ∀ j, W.frozen? ⟨R, j, none⟩ = false := fun W h j => frozen_of_row _ _ j _ _ h
  have FR := Lib.hid fr
  have hNIL : ∀ W : World, W.heap[R]? = some (.cells nilT 28 (0, 0)) → Kept [] w W → ∀ W', W' = ((((W.setCell ⟨R, 0, none⟩ (.slice none 0 0)).setCell ⟨R, 1, none⟩ (.slice none 0 0)).setCell ⟨R, 2, none⟩ (.slice none 0 0)).setCell ⟨R, 3, none⟩ (.slice none 0 0)).setCell ⟨R, 4, none⟩ (.slice none 0 0) → W'.rangeAt R 0 nilT.toList ∧ Kept [] w W' := fun W h hk W' e => by
    subst e
    have h0 : VRow W R 28 nilT.toList := h
    have h5 := ((((h0.set 0 (.slice none 0 0)).set 1 (.slice none 0 0)).set 2 (.slice none 0 0)).set 3 (.slice none 0 0)).set 4 (.slice none 0 0)
    exact ⟨row_range h5, hk.above (X := [R]) (((((Kept.setCell _ _ _ (by simp)).trans (Kept.setCell _ _ _ (by simp))).trans (Kept.setCell _ _ _ (by simp))).trans (Kept.setCell _ _ _ (by simp))).trans (Kept.setCell _ _ _ (by simp))) (by have := HBX.out; have := HBB.out; simp; omega)⟩
  have HNIL := Lib.hid hNIL
  clear hNIL fr
  by_cases hlong : 4096 ≤ t.ents.length
  · have HE : Hid (addErr t x = 3) := by rw [Hid, addErr, if_pos hlong]
    have fR := FR.out w0 HRB.out
    go_wp2_with fail
    obtain ⟨p1, p2⟩ := HNIL.out w0 HRB.out HK0.out _ rfl
    exact bodyPost_ret (results26_of (c := nilT) rfl rfl rfl p1) rfl (.inr ⟨by rw [HE.out]; decide, by rw [HE.out], p2⟩)
  · have HE : Hid (addErr t x = if twiceB t x then 81 else 0) := by rw [Hid, addErr, if_neg hlong]
    go_upto_region 3 with (fail)
    clear r0 r1 r2 r3 r4
    go_cut [19] (fun v19 wc => v19 = .bool (twiceB t x) ∧ Kept [] w0 wc)
    case first =>
      have x1 := ent_cell (x := x) HXB.out 1 rfl
      have HTW : Hid (twiceB t x = (!x.name.toList.isEmpty && t.ents.any (addB t x))) := rfl
      cases h1 : x.name.toList.isEmpty
      · rw [h1] at HTW
        have HC := Lib.hid (containsE_any w0 v.ea v.ec t.ents q1 q2 HTB.out.tab.es 56 #[.pointer (some ⟨X, 0, none⟩), .pointer (some ⟨B, 0, none⟩)] (addB t x) enters56 (fun W y hk hy => add1_any W X B v t x y (hk.obj HXB.out (by simp)) (HTB.out.kept hk) ((HX.out.kept HK0.out).kept hk) ((HTB.out.tab.ent hy).kept hk)))
        go_wp2_with (go_at_call 55; refine HC.out.mono ?_; rintro e w1 ⟨rfl, hk1⟩; have HK1 := Lib.hid hk1; clear hk1)
        go_meet
        exact ⟨by rw [HTW.out]; rfl, HK1.out⟩
      · rw [h1] at HTW
        go_wp2_with fail
        go_meet
        exact ⟨by rw [HTW.out]; rfl, Kept.refl _ _⟩
    case rest =>
      obtain ⟨rfl, hkc⟩ := hcut
      obtain ⟨w1, rfl⟩ : ∃ w1 : World, w1 = wc := ⟨_, rfl⟩
      have HK1 : Hid (Kept [] w w1) := HK0.out.trans hkc
      have HTB1 : Hid (TabBox w1 B v t) := HTB.out.kept hkc
      have HXB1 := Lib.hid (hkc.obj HXB.out (by simp))
      have HRB1 := Lib.hid (hkc.obj HRB.out (by simp))
      clear hkc d0 d1 d2 d3 d4 HTB HXB HRB HK0
      cases h2 : twiceB t x
      · rw [h2] at HE
        obtain ⟨d0, d1, d2, d3, d4⟩ := HTB1.out.cells
        haveI ix : EntAt w1 X 0 x := ⟨EntV.range HXB1.out⟩
        have HOLD : Hid (∀ W, Kept [] w1 W → ∀ b, v.ea = some b → ∀ (j : Nat) u, (t.ents.map EntV.cells).flatten[j]? = some u → W.cell? (b.add j) = some u) := fun W hk b hb j u hu => by
          have hs := (HTB1.out.tab.es.kept hk).src EntV.len (by decide)
          by_cases h0 : 0 < t.ents.length
          · obtain ⟨ad, e, hc⟩ := hs.2 h0
            rw [hb] at e
            cases e
            exact hc j u hu
          · have : t.ents = [] := List.eq_nil_of_length_eq_zero (by omega)
            rw [this] at hu
            simp at hu
        have HLO : Hid ((t.ents.map EntV.cells).flatten.length = t.ents.length * 22) := (HTB1.out.tab.es.src EntV.len (by decide)).1
        have h1c : ∀ u ∈ x.cells, u.oneCell' = true := by have := EntV.one x; simpa using this
        have H1C := Lib.hid h1c
        have hA : Hid (t.ents.length + 1 ≤ maxLen) := by have := HSZ.out; unfold maxLen; rw [Hid]; omega
        have hBy : Hid ((t.ents.length + 1) * 176 ≤ 140737488355328) := by have := HSZ.out; rw [Hid]; omega
        have HNEW : Hid (∀ (W : World) (k : Nat), k = W.heap.size → ∀ (j : Nat) u, x.cells[j]? = some u → (W.alloc (.cells x.cells.toArray 43)).cell? ((⟨k, 0, none⟩ : Addr).add j) = some u) := fun W k hk j u hu => by
          subst hk
          rw [Addr.add_mid, Nat.zero_add, cell_of_row _ _ _ _ _ _ (heap_alloc_new _ _)]
          simpa using hu
        have HL : Hid ((addE t x).ents.length = t.ents.length + 1) := by simp [Hid, addE]
        clear h1c
        cases hea : v.ea with
        | none =>
          have hec : v.ec = 0 := Q0.out hea
          have hn0 : t.ents.length = 0 := by omega
          rw [hea, hec, hn0] at d2
          have HEA := Lib.hid hea
          have HEC := Lib.hid hec
          have HN0 := Lib.hid hn0
          clear hea hec hn0
          go_upto_region 5 with (fail)
          refine wp_region_but (fun wx => wx.cell? ⟨B, 2, none⟩ = some (.slice none 0 0) ∧ wx.rangeAt X 0 x.cells) 13 (by kernel_rfl) ⟨by simpa using d2, by simpa using ix.range⟩ ?_
          intro hS
          refine AnyBut.take (i := 0) (oi := { dst := some 21, op := .fieldAddr 28 (.tmp 2) 2, type := 0, pos := "scope.go:108", after := #[], guard := none }) (v := .pointer (some ⟨B, 2, none⟩)) rfl (by kernel_rfl) (by kernel_rfl) (by kernel_rfl) (by kernel_rfl) (fun _ _ _ h => h) (Or.inl ⟨by rfl, ?_⟩) hS ?_
          · rintro wx ⟨h1, h2⟩
            go_simp
          simp only [Act.put, List.setIfInBounds_toArray, List.set_cons_zero, List.set_cons_succ]
          refine AnyBut.take (i := 1) (oi := { dst := some 22, op := .load 24 (.tmp 21), type := 24, pos := "scope.go:108", after := #[{ on := 0, ground := .data }], guard := none }) (v := .slice none 0 0) rfl (by kernel_rfl) (by kernel_rfl) (by kernel_rfl) (by kernel_rfl) (fun _ _ _ h => h) (Or.inl ⟨by rfl, ?_⟩) hS ?_
          · rintro wx ⟨h1, h2⟩
            go_simp
          simp only [Act.put, List.setIfInBounds_toArray, List.set_cons_zero, List.set_cons_succ]
          refine AnyBut.take (i := 2) (oi := { dst := some 23, op := .fieldAddr 28 (.tmp 2) 2, type := 0, pos := "scope.go:108", after := #[], guard := none }) (v := .pointer (some ⟨B, 2, none⟩)) rfl (by kernel_rfl) (by kernel_rfl) (by kernel_rfl) (by kernel_rfl) (fun _ _ _ h => h) (Or.inl ⟨by rfl, ?_⟩) hS ?_
          · rintro wx ⟨h1, h2⟩
            go_simp
          simp only [Act.put, List.setIfInBounds_toArray, List.set_cons_zero, List.set_cons_succ]
          refine AnyBut.take (i := 3) (oi := { dst := some 24, op := .load 24 (.tmp 23), type := 24, pos := "scope.go:108", after := #[{ on := 2, ground := .data }], guard := none }) (v := .slice none 0 0) rfl (by kernel_rfl) (by kernel_rfl) (by kernel_rfl) (by kernel_rfl) (fun _ _ _ h => h) (Or.inl ⟨by rfl, ?_⟩) hS ?_
          · rintro wx ⟨h1, h2⟩
            go_simp
          simp only [Act.put, List.setIfInBounds_toArray, List.set_cons_zero, List.set_cons_succ]
          refine AnyBut.take (i := 4) (oi := { dst := some 25, op := .call { callee := .builtin .len, args := #[.tmp 24], argTypes := #[24] }, type := 3, pos := "scope.go:108", after := #[{ on := 3, ground := .data }], guard := none }) (v := .int .i64 0) rfl (by kernel_rfl) (by kernel_rfl) (by kernel_rfl) (by kernel_rfl) (fun _ _ _ h => h) (Or.inl ⟨by rfl, ?_⟩) hS ?_
          · rintro wx ⟨h1, h2⟩
            go_simp
          simp only [Act.put, List.setIfInBounds_toArray, List.set_cons_zero, List.set_cons_succ]
          refine AnyBut.take (i := 5) (oi := { dst := some 26, op := .fieldAddr 28 (.tmp 2) 2, type := 0, pos := "scope.go:108", after := #[], guard := none }) (v := .pointer (some ⟨B, 2, none⟩)) rfl (by kernel_rfl) (by kernel_rfl) (by kernel_rfl) (by kernel_rfl) (fun _ _ _ h => h) (Or.inl ⟨by rfl, ?_⟩) hS ?_
          · rintro wx ⟨h1, h2⟩
            go_simp
          simp only [Act.put, List.setIfInBounds_toArray, List.set_cons_zero, List.set_cons_succ]
          refine AnyBut.take (i := 6) (oi := { dst := some 27, op := .load 24 (.tmp 26), type := 24, pos := "scope.go:108", after := #[{ on := 5, ground := .data }], guard := none }) (v := .slice none 0 0) rfl (by kernel_rfl) (by kernel_rfl) (by kernel_rfl) (by kernel_rfl) (fun _ _ _ h => h) (Or.inl ⟨by rfl, ?_⟩) hS ?_
          · rintro wx ⟨h1, h2⟩
            go_simp
          simp only [Act.put, List.setIfInBounds_toArray, List.set_cons_zero, List.set_cons_succ]
          refine AnyBut.take (i := 7) (oi := { dst := some 28, op := .call { callee := .builtin .len, args := #[.tmp 27], argTypes := #[24] }, type := 3, pos := "scope.go:108", after := #[{ on := 6, ground := .data }], guard := none }) (v := .int .i64 0) rfl (by kernel_rfl) (by kernel_rfl) (by kernel_rfl) (by kernel_rfl) (fun _ _ _ h => h) (Or.inl ⟨by rfl, ?_⟩) hS ?_
          · rintro wx ⟨h1, h2⟩
            go_simp
          simp only [Act.put, List.setIfInBounds_toArray, List.set_cons_zero, List.set_cons_succ]
          refine AnyBut.take (i := 8) (oi := { dst := some 29, op := .slice 24 (.tmp 22) none (some (.tmp 25)) (some (.tmp 28)), type := 24, pos := "scope.go:108", after := #[{ on := 1, ground := .data }, { on := 4, ground := .data }, { on := 7, ground := .data }], guard := none }) (v := .slice none 0 0) rfl (by kernel_rfl) (by kernel_rfl) (by kernel_rfl) (by kernel_rfl) (fun _ _ _ h => h) (Or.inl ⟨by rfl, ?_⟩) hS ?_
          · rintro wx ⟨h1, h2⟩
            go_simp
          simp only [Act.put, List.setIfInBounds_toArray, List.set_cons_zero, List.set_cons_succ]
          refine AnyBut.take (i := 9) (oi := { dst := some 30, op := .load 43 (.tmp 3), type := 43, pos := "scope.go:108", after := #[], guard := none }) (v := .agg x.cells.toArray) rfl (by kernel_rfl) (by kernel_rfl) (by kernel_rfl) (by kernel_rfl) (fun _ _ _ h => h) (Or.inl ⟨by rfl, ?_⟩) hS ?_
          · rintro wx ⟨h1, h2⟩
            haveI : EntAt wx X 0 x := ⟨h2⟩
            exact run_load43 wx X 0 x
          simp only [Act.put, List.setIfInBounds_toArray, List.set_cons_zero, List.set_cons_succ]
          refine AnyBut.one (i := 10) (o := { dst := some 31, op := .buildSlice 24 1 #[(0, .tmp 30)], type := 24, pos := "scope.go:108", after := #[{ on := 9, ground := .data }], guard := none }) rfl (by kernel_rfl) (fun K hK => ?_)
          rw [if_pos (by rfl)]
          go_simp
          have hSB : (w1.alloc (.cells x.cells.toArray 43)).drew.cell? ⟨B, 2, none⟩ = some (.slice none 0 0) ∧ (w1.alloc (.cells x.cells.toArray 43)).drew.rangeAt X 0 x.cells := by
            have hkx : Kept [] w1 (w1.alloc (.cells x.cells.toArray 43)).drew := (Kept.alloc _ _ _).trans (Kept.drew _ _)
            exact ⟨hkx.cell d2 (by simp), fun j u hu => hkx.cell (ix.range j u hu) (by simp)⟩
          refine hK.out _ _ (fun _ => hSB) (fun _ => ?_)
          clear hK K hS hSB
          refine AnyBut.one (i := 11) (o := { dst := some 32, op := .call { callee := .builtin .append, args := #[.tmp 29, .tmp 31], argTypes := #[24, 24] }, type := 24, pos := "scope.go:108", after := #[{ on := 8, ground := .data }, { on := 10, ground := .data }], guard := none }) rfl (by kernel_rfl) (fun K hK => ?_)
          refine step_append_grows rfl (.tmp 29) (.tmp 31) 24 rfl 43 i0 (.agg zeroE.cells.toArray) 22 176 Try.underlying24 hi hz0 hz1 hz2 rfl (by decide) none 0 0 (t.ents.map EntV.cells).flatten rfl (fun _ => ⟨rfl, rfl⟩) (by rw [HLO.out, HN0.out]) (fun b hb => by cases hb) ⟨w1.heap.size, 0, none⟩ 1 1 x.cells rfl x.len (HNEW.out w1 _ rfl) H1C.out (by omega) (by unfold maxLen; omega) (by omega) ?_
          intro vb wb hob hgb
          obtain ⟨Ab, cb, rfl⟩ := own_shape hob
          simp only [Act.put, List.setIfInBounds_toArray, List.set_cons_zero, List.set_cons_succ]
          have hkb : Kept [] w1 wb := (((Kept.alloc _ _ _).trans (Kept.drew _ _)).grown hgb (fun q hq => by cases hq))
          have HOB : Hid (wb.ownsRow w.heap.size 43 22 (.slice Ab (0 + 1) cb) (0 + 1) ((t.ents.map EntV.cells).flatten ++ x.cells)) := own_base hob (by have := HK1.out.size; simp; omega)
          have HKB := Lib.hid hkb
          clear hob hgb d0 d1 d2 d3 d4 ix hkb
          refine hK.out _ _ (fun _ => ⟨by have h := (HTB1.out.kept HKB.out).cells.2.2.1; rw [HEA.out, HEC.out, HN0.out] at h; exact h, row_range (HKB.out.obj HXB1.out (by simp))⟩) (fun _ => ?_)
          clear hK K
          obtain ⟨d0, d1, d2, d3, d4⟩ := (HTB1.out.kept HKB.out).cells
          have fB := frozen_of_row _ _ 2 _ _ (HKB.out.obj HTB1.out.box (by simp))
          refine AnyBut.one (i := 12) rfl (by kernel_rfl) (fun K hK => ?_)
          rw [if_pos (by rfl)]
          go_simp
          refine hK.out _ _ (fun _ => ⟨by have h := (HTB1.out.kept HKB.out).cells.2.2.1; rw [HEA.out, HEC.out, HN0.out] at h; exact h, row_range (HKB.out.obj HXB1.out (by simp))⟩) (fun _ => ?_)
          clear hK K
          refine AnyBut.one (i := 13) rfl (by kernel_rfl) (fun K hK => ?_)
          rw [if_pos (by rfl)]
          go_simp
          refine hK.out _ _ (fun h => absurd rfl h) (fun _ => ?_)
          clear hK K
          refine AnyBut.done (by kernel_rfl) ?_ _
          clear d0 d1 d2 d3 d4 fB
          have HFIN := Lib.hid (add_stored (t := t) (x := x) HTB1.out.box HXB1.out HRB1.out HKB.out HN0.out HOB.out HK1.out (by have h := HBX.out; have := HBB.out; omega) (by have h := HBX.out; omega))
          generalize wb.setCell ⟨B, 2, none⟩ (.slice Ab (0 + 1) cb) = wz at *
          obtain ⟨hbz, hrz, hoz, hkz⟩ := HFIN.out
          have HRZ := Lib.hid hrz
          have HOZ := Lib.hid hoz
          have HKZ := Lib.hid hkz
          have b0 : wz.cell? ⟨B, 0, none⟩ = some (.slice v.ta t.types.length v.tc) := (cell_of_row _ _ _ _ _ _ hbz).trans rfl
          have b1 : wz.cell? ⟨B, 1, none⟩ = some (.slice v.sa t.subs.length v.sc) := (cell_of_row _ _ _ _ _ _ hbz).trans rfl
          have b2 : wz.cell? ⟨B, 2, none⟩ = some (.slice Ab (addE t x).ents.length cb) := (cell_of_row _ _ _ _ _ _ hbz).trans rfl
          have b3 : wz.cell? ⟨B, 3, none⟩ = some (.slice v.ga v.gn v.gc) := (cell_of_row _ _ _ _ _ _ hbz).trans rfl
          have b4 : wz.cell? ⟨B, 4, none⟩ = some (.slice v.ia v.im v.ic) := (cell_of_row _ _ _ _ _ _ hbz).trans rfl
          have r0 : wz.cell? ⟨R, 0, none⟩ = some (.slice none 0 0) := (cell_of_row _ _ _ _ _ _ hrz).trans rfl
          have r1 : wz.cell? ⟨R, 1, none⟩ = some (.slice none 0 0) := (cell_of_row _ _ _ _ _ _ hrz).trans rfl
          have r2 : wz.cell? ⟨R, 2, none⟩ = some (.slice none 0 0) := (cell_of_row _ _ _ _ _ _ hrz).trans rfl
          have r3 : wz.cell? ⟨R, 3, none⟩ = some (.slice none 0 0) := (cell_of_row _ _ _ _ _ _ hrz).trans rfl
          have r4 : wz.cell? ⟨R, 4, none⟩ = some (.slice none 0 0) := (cell_of_row _ _ _ _ _ _ hrz).trans rfl
          have fR := FR.out wz hrz
          have HVV : Hid (({ v with ea := Ab, ec := cb } : TabV).cells (addE t x) = #[.slice v.ta t.types.length v.tc, .slice v.sa t.subs.length v.sc, .slice Ab (addE t x).ents.length cb, .slice v.ga v.gn v.gc, .slice v.ia v.im v.ic]) := rfl
          generalize hq : (addE t x).ents.length = q at *
          have HQ := Lib.hid hq
          clear hq HL hbz hrz hoz hkz HFIN
          go_wp2_with fail
          obtain ⟨p1, p2⟩ := tab_stored HRZ.out HVV.out _ rfl
          obtain rfl := HQ.out
          exact bodyPost_ret (results26_of (c := ({ v with ea := Ab, ec := cb } : TabV).cells (addE t x)) rfl rfl rfl p1) rfl (.inl ⟨by rw [HE.out]; rfl, Ab, cb, rfl, own_keep HOZ.out p2 (own_not HOZ.out HRZ.out), HKZ.out.above p2 (by have h := HBX.out; have := HBB.out; simp; omega)⟩)
        | some a0 =>
          rw [hea] at d2
          have HEA := Lib.hid hea
          clear hea
          go_upto_region 5 with (fail)
          refine wp_region_but (fun wx => wx.cell? ⟨B, 2, none⟩ = some (.slice (some a0) t.ents.length v.ec) ∧ wx.rangeAt X 0 x.cells) 13 (by kernel_rfl) ⟨by simpa using d2, by simpa using ix.range⟩ ?_
          intro hS
          refine AnyBut.take (i := 0) (oi := { dst := some 21, op := .fieldAddr 28 (.tmp 2) 2, type := 0, pos := "scope.go:108", after := #[], guard := none }) (v := .pointer (some ⟨B, 2, none⟩)) rfl (by kernel_rfl) (by kernel_rfl) (by kernel_rfl) (by kernel_rfl) (fun _ _ _ h => h) (Or.inl ⟨by rfl, ?_⟩) hS ?_
          · rintro wx ⟨h1, h2⟩
            go_simp
          simp only [Act.put, List.setIfInBounds_toArray, List.set_cons_zero, List.set_cons_succ]
          refine AnyBut.take (i := 1) (oi := { dst := some 22, op := .load 24 (.tmp 21), type := 24, pos := "scope.go:108", after := #[{ on := 0, ground := .data }], guard := none }) (v := .slice (some a0) t.ents.length v.ec) rfl (by kernel_rfl) (by kernel_rfl) (by kernel_rfl) (by kernel_rfl) (fun _ _ _ h => h) (Or.inl ⟨by rfl, ?_⟩) hS ?_
          · rintro wx ⟨h1, h2⟩
            go_simp
          simp only [Act.put, List.setIfInBounds_toArray, List.set_cons_zero, List.set_cons_succ]
          refine AnyBut.take (i := 2) (oi := { dst := some 23, op := .fieldAddr 28 (.tmp 2) 2, type := 0, pos := "scope.go:108", after := #[], guard := none }) (v := .pointer (some ⟨B, 2, none⟩)) rfl (by kernel_rfl) (by kernel_rfl) (by kernel_rfl) (by kernel_rfl) (fun _ _ _ h => h) (Or.inl ⟨by rfl, ?_⟩) hS ?_
          · rintro wx ⟨h1, h2⟩
            go_simp
          simp only [Act.put, List.setIfInBounds_toArray, List.set_cons_zero, List.set_cons_succ]
          refine AnyBut.take (i := 3) (oi := { dst := some 24, op := .load 24 (.tmp 23), type := 24, pos := "scope.go:108", after := #[{ on := 2, ground := .data }], guard := none }) (v := .slice (some a0) t.ents.length v.ec) rfl (by kernel_rfl) (by kernel_rfl) (by kernel_rfl) (by kernel_rfl) (fun _ _ _ h => h) (Or.inl ⟨by rfl, ?_⟩) hS ?_
          · rintro wx ⟨h1, h2⟩
            go_simp
          simp only [Act.put, List.setIfInBounds_toArray, List.set_cons_zero, List.set_cons_succ]
          refine AnyBut.take (i := 4) (oi := { dst := some 25, op := .call { callee := .builtin .len, args := #[.tmp 24], argTypes := #[24] }, type := 3, pos := "scope.go:108", after := #[{ on := 3, ground := .data }], guard := none }) (v := .int .i64 t.ents.length) rfl (by kernel_rfl) (by kernel_rfl) (by kernel_rfl) (by kernel_rfl) (fun _ _ _ h => h) (Or.inl ⟨by rfl, ?_⟩) hS ?_
          · rintro wx ⟨h1, h2⟩
            go_simp
          simp only [Act.put, List.setIfInBounds_toArray, List.set_cons_zero, List.set_cons_succ]
          refine AnyBut.take (i := 5) (oi := { dst := some 26, op := .fieldAddr 28 (.tmp 2) 2, type := 0, pos := "scope.go:108", after := #[], guard := none }) (v := .pointer (some ⟨B, 2, none⟩)) rfl (by kernel_rfl) (by kernel_rfl) (by kernel_rfl) (by kernel_rfl) (fun _ _ _ h => h) (Or.inl ⟨by rfl, ?_⟩) hS ?_
          · rintro wx ⟨h1, h2⟩
            go_simp
          simp only [Act.put, List.setIfInBounds_toArray, List.set_cons_zero, List.set_cons_succ]
          refine AnyBut.take (i := 6) (oi := { dst := some 27, op := .load 24 (.tmp 26), type := 24, pos := "scope.go:108", after := #[{ on := 5, ground := .data }], guard := none }) (v := .slice (some a0) t.ents.length v.ec) rfl (by kernel_rfl) (by kernel_rfl) (by kernel_rfl) (by kernel_rfl) (fun _ _ _ h => h) (Or.inl ⟨by rfl, ?_⟩) hS ?_
          · rintro wx ⟨h1, h2⟩
            go_simp
          simp only [Act.put, List.setIfInBounds_toArray, List.set_cons_zero, List.set_cons_succ]
          refine AnyBut.take (i := 7) (oi := { dst := some 28, op := .call { callee := .builtin .len, args := #[.tmp 27], argTypes := #[24] }, type := 3, pos := "scope.go:108", after := #[{ on := 6, ground := .data }], guard := none }) (v := .int .i64 t.ents.length) rfl (by kernel_rfl) (by kernel_rfl) (by kernel_rfl) (by kernel_rfl) (fun _ _ _ h => h) (Or.inl ⟨by rfl, ?_⟩) hS ?_
          · rintro wx ⟨h1, h2⟩
            go_simp
          simp only [Act.put, List.setIfInBounds_toArray, List.set_cons_zero, List.set_cons_succ]
          refine AnyBut.take (i := 8) (oi := { dst := some 29, op := .slice 24 (.tmp 22) none (some (.tmp 25)) (some (.tmp 28)), type := 24, pos := "scope.go:108", after := #[{ on := 1, ground := .data }, { on := 4, ground := .data }, { on := 7, ground := .data }], guard := none }) (v := .slice (some a0) t.ents.length t.ents.length) rfl (by kernel_rfl) (by kernel_rfl) (by kernel_rfl) (by kernel_rfl) (fun _ _ _ h => h) (Or.inl ⟨by rfl, ?_⟩) hS ?_
          · rintro wx ⟨h1, h2⟩
            go_simp
          simp only [Act.put, List.setIfInBounds_toArray, List.set_cons_zero, List.set_cons_succ]
          refine AnyBut.take (i := 9) (oi := { dst := some 30, op := .load 43 (.tmp 3), type := 43, pos := "scope.go:108", after := #[], guard := none }) (v := .agg x.cells.toArray) rfl (by kernel_rfl) (by kernel_rfl) (by kernel_rfl) (by kernel_rfl) (fun _ _ _ h => h) (Or.inl ⟨by rfl, ?_⟩) hS ?_
          · rintro wx ⟨h1, h2⟩
            haveI : EntAt wx X 0 x := ⟨h2⟩
            exact run_load43 wx X 0 x
          simp only [Act.put, List.setIfInBounds_toArray, List.set_cons_zero, List.set_cons_succ]
          refine AnyBut.one (i := 10) (o := { dst := some 31, op := .buildSlice 24 1 #[(0, .tmp 30)], type := 24, pos := "scope.go:108", after := #[{ on := 9, ground := .data }], guard := none }) rfl (by kernel_rfl) (fun K hK => ?_)
          rw [if_pos (by rfl)]
          go_simp
          have hSB : (w1.alloc (.cells x.cells.toArray 43)).drew.cell? ⟨B, 2, none⟩ = some (.slice (some a0) t.ents.length v.ec) ∧ (w1.alloc (.cells x.cells.toArray 43)).drew.rangeAt X 0 x.cells := by
            have hkx : Kept [] w1 (w1.alloc (.cells x.cells.toArray 43)).drew := (Kept.alloc _ _ _).trans (Kept.drew _ _)
            exact ⟨hkx.cell d2 (by simp), fun j u hu => hkx.cell (ix.range j u hu) (by simp)⟩
          refine hK.out _ _ (fun _ => hSB) (fun _ => ?_)
          clear hK K hS hSB
          refine AnyBut.one (i := 11) (o := { dst := some 32, op := .call { callee := .builtin .append, args := #[.tmp 29, .tmp 31], argTypes := #[24, 24] }, type := 24, pos := "scope.go:108", after := #[{ on := 8, ground := .data }, { on := 10, ground := .data }], guard := none }) rfl (by kernel_rfl) (fun K hK => ?_)
          refine step_append_grows rfl (.tmp 29) (.tmp 31) 24 rfl 43 i0 (.agg zeroE.cells.toArray) 22 176 Try.underlying24 hi hz0 hz1 hz2 rfl (by decide) (some a0) t.ents.length t.ents.length (t.ents.map EntV.cells).flatten rfl (fun h => by cases h) HLO.out (fun b hb => HOLD.out _ ((Kept.alloc _ _ _).trans (Kept.drew _ _)) b (HEA.out.trans hb)) ⟨w1.heap.size, 0, none⟩ 1 1 x.cells rfl x.len (HNEW.out w1 _ rfl) H1C.out (by omega) hA.out hBy.out ?_
          intro vb wb hob hgb
          obtain ⟨Ab, cb, rfl⟩ := own_shape hob
          simp only [Act.put, List.setIfInBounds_toArray, List.set_cons_zero, List.set_cons_succ]
          have hkb : Kept [] w1 wb := (((Kept.alloc _ _ _).trans (Kept.drew _ _)).grown hgb (fun q hq => by cases hq))
          have HOB : Hid (wb.ownsRow w.heap.size 43 22 (.slice Ab (t.ents.length + 1) cb) (t.ents.length + 1) ((t.ents.map EntV.cells).flatten ++ x.cells)) := own_base hob (by have := HK1.out.size; simp; omega)
          have HKB := Lib.hid hkb
          clear hob hgb d0 d1 d2 d3 d4 ix hkb
          refine hK.out _ _ (fun _ => ⟨by have h := (HTB1.out.kept HKB.out).cells.2.2.1; rw [HEA.out] at h; exact h, row_range (HKB.out.obj HXB1.out (by simp))⟩) (fun _ => ?_)
          clear hK K
          obtain ⟨d0, d1, d2, d3, d4⟩ := (HTB1.out.kept HKB.out).cells
          have fB := frozen_of_row _ _ 2 _ _ (HKB.out.obj HTB1.out.box (by simp))
          refine AnyBut.one (i := 12) rfl (by kernel_rfl) (fun K hK => ?_)
          rw [if_pos (by rfl)]
          go_simp
          refine hK.out _ _ (fun _ => ⟨by have h := (HTB1.out.kept HKB.out).cells.2.2.1; rw [HEA.out] at h; exact h, row_range (HKB.out.obj HXB1.out (by simp))⟩) (fun _ => ?_)
          clear hK K
          refine AnyBut.one (i := 13) rfl (by kernel_rfl) (fun K hK => ?_)
          rw [if_pos (by rfl)]
          go_simp
          refine hK.out _ _ (fun h => absurd rfl h) (fun _ => ?_)
          clear hK K
          refine AnyBut.done (by kernel_rfl) ?_ _
          clear d0 d1 d2 d3 d4 fB
          have HFIN := Lib.hid (add_stored (t := t) (x := x) HTB1.out.box HXB1.out HRB1.out HKB.out (by rfl) HOB.out HK1.out (by have h := HBX.out; have := HBB.out; omega) (by have h := HBX.out; omega))
          generalize wb.setCell ⟨B, 2, none⟩ (.slice Ab (t.ents.length + 1) cb) = wz at *
          obtain ⟨hbz, hrz, hoz, hkz⟩ := HFIN.out
          have HRZ := Lib.hid hrz
          have HOZ := Lib.hid hoz
          have HKZ := Lib.hid hkz
          have b0 : wz.cell? ⟨B, 0, none⟩ = some (.slice v.ta t.types.length v.tc) := (cell_of_row _ _ _ _ _ _ hbz).trans rfl
          have b1 : wz.cell? ⟨B, 1, none⟩ = some (.slice v.sa t.subs.length v.sc) := (cell_of_row _ _ _ _ _ _ hbz).trans rfl
          have b2 : wz.cell? ⟨B, 2, none⟩ = some (.slice Ab (addE t x).ents.length cb) := (cell_of_row _ _ _ _ _ _ hbz).trans rfl
          have b3 : wz.cell? ⟨B, 3, none⟩ = some (.slice v.ga v.gn v.gc) := (cell_of_row _ _ _ _ _ _ hbz).trans rfl
          have b4 : wz.cell? ⟨B, 4, none⟩ = some (.slice v.ia v.im v.ic) := (cell_of_row _ _ _ _ _ _ hbz).trans rfl
          have r0 : wz.cell? ⟨R, 0, none⟩ = some (.slice none 0 0) := (cell_of_row _ _ _ _ _ _ hrz).trans rfl
          have r1 : wz.cell? ⟨R, 1, none⟩ = some (.slice none 0 0) := (cell_of_row _ _ _ _ _ _ hrz).trans rfl
          have r2 : wz.cell? ⟨R, 2, none⟩ = some (.slice none 0 0) := (cell_of_row _ _ _ _ _ _ hrz).trans rfl
          have r3 : wz.cell? ⟨R, 3, none⟩ = some (.slice none 0 0) := (cell_of_row _ _ _ _ _ _ hrz).trans rfl
          have r4 : wz.cell? ⟨R, 4, none⟩ = some (.slice none 0 0) := (cell_of_row _ _ _ _ _ _ hrz).trans rfl
          have fR := FR.out wz hrz
          have HVV : Hid (({ v with ea := Ab, ec := cb } : TabV).cells (addE t x) = #[.slice v.ta t.types.length v.tc, .slice v.sa t.subs.length v.sc, .slice Ab (addE t x).ents.length cb, .slice v.ga v.gn v.gc, .slice v.ia v.im v.ic]) := rfl
          generalize hq : (addE t x).ents.length = q at *
          have HQ := Lib.hid hq
          clear hq HL hbz hrz hoz hkz HFIN
          go_wp2_with fail
          obtain ⟨p1, p2⟩ := tab_stored HRZ.out HVV.out _ rfl
          obtain rfl := HQ.out
          exact bodyPost_ret (results26_of (c := ({ v with ea := Ab, ec := cb } : TabV).cells (addE t x)) rfl rfl rfl p1) rfl (.inl ⟨by rw [HE.out]; rfl, Ab, cb, rfl, own_keep HOZ.out p2 (own_not HOZ.out HRZ.out), HKZ.out.above p2 (by have h := HBX.out; have := HBB.out; simp; omega)⟩)
      · rw [h2] at HE
        have r0 : w1.cell? ⟨R, 0, none⟩ = some (.slice none 0 0) := (cell_of_row _ _ _ _ _ _ HRB1.out).trans rfl
        have r1 : w1.cell? ⟨R, 1, none⟩ = some (.slice none 0 0) := (cell_of_row _ _ _ _ _ _ HRB1.out).trans rfl
        have r2 : w1.cell? ⟨R, 2, none⟩ = some (.slice none 0 0) := (cell_of_row _ _ _ _ _ _ HRB1.out).trans rfl
        have r3 : w1.cell? ⟨R, 3, none⟩ = some (.slice none 0 0) := (cell_of_row _ _ _ _ _ _ HRB1.out).trans rfl
        have r4 : w1.cell? ⟨R, 4, none⟩ = some (.slice none 0 0) := (cell_of_row _ _ _ _ _ _ HRB1.out).trans rfl
        have fR := FR.out w1 HRB1.out
        go_wp2_with fail
        obtain ⟨p1, p2⟩ := HNIL.out w1 HRB1.out HK1.out _ rfl
        exact bodyPost_ret (results26_of (c := nilT) rfl rfl rfl p1) rfl (.inr ⟨by rw [HE.out]; decide, by rw [HE.out]; rfl, p2⟩)
end Go.Proofs.Ytlgcboaojdhneaa
