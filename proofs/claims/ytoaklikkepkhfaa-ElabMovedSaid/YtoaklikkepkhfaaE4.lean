/- needs, walked. -/
import Derived.Test.YtoaklikkepkhfaaE3
namespace Go.Proofs.Ytoaklikkepkhfaa
open Go.RowKit

abbrev BM := BMap Try.prog 3 4
theorem bm_lookup {w : World} {b n : Nat} {M : Int → Option Bool} (h : BM w b n M) {x : Int} (hx : (Lit.int .i64 x).wf = true) : (Instr.lookup 65 (.map (some b)) (.int .i64 x) false).run Try.prog w = .ok (.bool ((M x).getD false)) w :=
  h.lookup Try.underlying3 Try.underlying4 Try.underlying65 Try.zeroValue4 hx
theorem bm_update {w : World} {b n : Nat} {M : Int → Option Bool} (h : BM w b n M) (hn : n < maxLen) {x : Int} (hx : (Lit.int .i64 x).wf = true) (v : Bool) :
    ∃ w', (Instr.mapUpdate 65 (.map (some b)) (.int .i64 x) (.bool v)).run Try.prog w = .ok () w' ∧ BM w' b (n + 1) (updM M x v) ∧ w.grownBy w' (some b) ∧ w'.heap.size = w.heap.size :=
  h.update Try.underlying3 Try.underlying4 Try.underlying65 hn hx v

/-- The map of what has been seen. -/
def memB (bs : List Bool) : Int → Option Bool := fun x => if 0 ≤ x ∧ bs[x.toNat]? = some true then some true else none
theorem memB_zero (n : Nat) : memB (List.replicate n false) = fun _ => none := by
  funext x
  unfold memB
  rw [if_neg]
  rintro ⟨_, h⟩
  rw [List.getElem?_replicate] at h
  split at h <;> simp at h
theorem memB_set {bs : List Bool} {s : Nat} (h : s < bs.length) : updM (memB bs) (s : Int) true = memB (bs.set s true) := by
  funext x
  unfold updM memB
  by_cases e : x = (s : Int)
  · subst e
    rw [if_pos rfl, if_pos]
    exact ⟨by omega, by simp [h]⟩
  · rw [if_neg e]
    by_cases h0 : 0 ≤ x
    · have hne : s ≠ x.toNat := by omega
      rw [List.getElem?_set_ne hne]
    · rw [if_neg (fun h => h0 h.1), if_neg (fun h => h0 h.1)]
theorem memB_at {bs : List Bool} {s : Nat} {b : Bool} (h : bs[s]? = some b) : (memB bs (s : Int)).getD false = b := by
  unfold memB
  cases b
  · rw [if_neg]; rfl
    rintro ⟨_, h'⟩
    rw [Int.toNat_natCast, h] at h'; cases h'
  · rw [if_pos]; rfl
    exact ⟨by omega, by rw [Int.toNat_natCast]; exact h⟩

/-- Two rows and a map apart. -/
structure Apart (v7 v9 : Value) (M : Nat) : Prop where
  a : v7.ownBlock = none ∨ v7.ownBlock ≠ v9.ownBlock
  m7 : v7.ownBlock ≠ some M
  m9 : v9.ownBlock ≠ some M
theorem Apart.a' {v7 v9 : Value} {M : Nat} (h : Apart v7 v9 M) : v9.ownBlock = none ∨ v9.ownBlock ≠ v7.ownBlock := by
  rcases h.a with e | e
  · cases h9 : v9.ownBlock with
    | none => exact .inl rfl
    | some k => right; rw [e]; intro h; cases h
  · exact .inr fun h => e h.symm
theorem Apart.left {v v7 v9 : Value} {M k : Nat} (h : Apart v7 v9 M) (hat : v.ownBlock = v7.ownBlock ∨ v.ownBlock = some k) (h9 : ∀ j, v9.ownBlock = some j → j < k) (hM : M < k) : Apart v v9 M := by
  rcases hat with e | e
  · exact ⟨by rw [e]; exact h.a, by rw [e]; exact h.m7, h.m9⟩
  · refine ⟨.inr fun e' => ?_, fun e' => ?_, h.m9⟩
    · rw [e] at e'; have := h9 k e'.symm; omega
    · rw [e] at e'; injection e' with e'; omega
theorem Apart.right {v v7 v9 : Value} {M k : Nat} (h : Apart v7 v9 M) (hat : v.ownBlock = v9.ownBlock ∨ v.ownBlock = some k) (h7 : ∀ j, v7.ownBlock = some j → j < k) (hM : M < k) : Apart v7 v M := by
  rcases hat with e | e
  · exact ⟨by rw [e]; exact h.a, h.m7, by rw [e]; exact h.m9⟩
  · refine ⟨.inr fun e' => ?_, h.m7, fun e' => ?_⟩
    · rw [e] at e'; have := h7 k e'; omega
    · rw [e] at e'; injection e' with e'; omega
theorem own_lt {w : World} {base e size n : Nat} {v : Value} {xs : List Value} (h : w.ownsRow base e size v n xs) : ∀ k, v.ownBlock = some k → k < w.heap.size := fun k hk => (h.lt k hk).2

/-- The loop of needs. -/
def NL (l : List UnitV) (subs : List SubV) (x : UnitV) (w : World) (N M B u P0 : Nat) (gk : Nat) (v7 v9 : Value) (wr : World) : Prop :=
  ∃ (bs : List Bool) (out todo : List Int) (n : Nat), wr.ownsRow N 3 1 v7 out.length (out.map (Value.int .i64)) ∧ wr.ownsRow N 3 1 v9 todo.length (todo.map (Value.int .i64)) ∧ Apart v7 v9 M ∧ BM wr M n (memB bs) ∧
    RInv subs x.calls bs todo ∧ OutInv subs x.needs bs out ∧ out.length + todo.length + unseen bs subs ≤ gk ∧ n + gk ≤ P0 ∧ Kept [] w wr ∧ wr.cell? ⟨B, 0, none⟩ = some (.int .i64 u)

/-- A list that says what a unit needs. -/
def RetNeed (l : List UnitV) (subs : List SubV) (u : Nat) (w : World) (e : Ending) (w' : World) : Prop := ∃ v xs, e = .returned v ∧ NeedList l subs u xs ∧ IntsC w' v xs ∧ Kept [] w w' ∧ ∀ k, v.ownBlock = some k → w.heap.size ≤ k

theorem todo_split (todo : List Int) (h : todo ≠ []) : ∃ init s, todo = init ++ [s] := ⟨todo.dropLast, todo.getLast h, (List.dropLast_concat_getLast h).symm⟩
theorem own_last {w : World} {N : Nat} {v : Value} {init : List Int} {s : Int} (h : w.ownsRow N 3 1 v (init ++ [s]).length ((init ++ [s]).map (Value.int .i64))) :
    ∃ g c, v = .slice (some ⟨g, 0, none⟩) (init.length + 1) c ∧ init.length + 1 ≤ c ∧ c ≤ 9223372036854775807 ∧ w.cell? ⟨g, init.length, none⟩ = some (.int .i64 s) ∧ w.ownsRow N 3 1 (.slice (some ⟨g, 0, none⟩) init.length c) init.length (init.map (Value.int .i64)) := by
  rw [List.length_append, List.map_append] at h
  have h' := h
  rcases h.2 with ⟨_, hn⟩ | ⟨g, cap, cur, rfl, hb, hg, hcap, hmax, _⟩
  · simp at hn
  · refine ⟨g, cap, rfl, hcap, by unfold maxLen at hmax; omega, ?_, ownsRow_pop (by simp) h'⟩
    have := h.cells (g := g) rfl init.length (.int .i64 s) (by simp)
    rwa [Addr.add_mid, Nat.zero_add] at this
theorem src_one (w : World) (x : Value) (t : TypeId) : SrcAt (w.alloc (.cells #[x] t)) 1 (some ⟨w.heap.size, 0, none⟩) 1 [x] := ⟨rfl, fun _ => ⟨_, rfl, cell_one_new w x t⟩⟩

set_option maxRecDepth 100000 in
set_option maxHeartbeats 4000000 in
theorem needs_any (w : World) (ua : Option Addr) (uc : Nat) (l : List UnitV) (sa : Option Addr) (sc : Nat) (subs : List SubV) (u : Nat) (x : UnitV) (hE : Env w ua uc l sa sc subs) (hx : l[u]? = some x) (hm : May l subs) (hb : Room l subs) :
    Calls Try.prog 20 #[.slice ua l.length uc, .slice sa subs.length sc, .int .i64 u] w (RetNeed l subs u w) := by
  have HE := Lib.hid hE
  have HM := Lib.hid hm
  have HX := Lib.hid hx
  have b1 := hE.ul
  have b2 := hE.um
  have b3 := hm.s4096
  have b4 := hm.l256
  have b5 := hE.sl
  have b6 := hE.sm
  have hul : u < l.length := (List.getElem?_eq_some_iff.1 hx).1
  have hxm := List.mem_of_getElem? hx
  have hn5 := hb.n x hxm
  have hc5 := hb.c x hxm
  obtain ⟨bu, ou, rfl, hr⟩ := hE.us.some_ hx
  obtain ⟨_, _, x2, x3⟩ := unit_cells (hr u x hx)
  have X2 := Lib.hid x2
  have X3 := Lib.hid x3
  clear hE hm hx hr x2 x3 hb
  obtain ⟨i0, hi, hz0, hz1, hz2⟩ := info_parts int_info
  go_enter Try.func20, Try.ntmps20
  go_upto_region 1 with (fail)
  refine wp_gen' ?_
  intro w1 hw1
  have hk1 : Kept [] w w1 := by rw [hw1]; exact Kept.alloc _ _ _
  have hcB : w1.cell? ⟨w.heap.size, 0, none⟩ = some (.int .i64 u) := by rw [hw1, cell_of_row _ _ _ _ _ _ (heap_alloc_new _ _)]; rfl
  have HK1 := Lib.hid hk1
  have hB1 : w.heap.size < w1.heap.size := World.block_lt_of_cell? w1 _ hcB
  have x2 := hk1.cell X2.out (by simp)
  clear hk1 hw1
  generalize hBB : w.heap.size = B at *
  go_wp2_with fail
  refine (clone_any w1 _ x.needs ((HE.out.needs HX.out).kept HK1.out) hn5).mono ?_
  rintro e w2 ⟨v7, rfl, ho7, hb2⟩
  have HO7 := Lib.hid ho7
  have HK2 := Lib.hid (HK1.out.trans (Kept.of_below hb2))
  have HK12 : Hid (Kept [] w1 w2) := Kept.of_below hb2
  have hcB2 := (Kept.of_below (X := []) hb2).cell hcB (by simp)
  clear ho7 hb2 x2 hcB
  have hmm := @run_makeMap Try.prog
  go_upto_region 3 with (fail)
  refine wp_gen' ?_
  intro w3 hw3
  have hk3 : Kept [] w2 w3 := by rw [hw3]; exact Kept.alloc _ _ _
  have HM3 : Hid (BM w3 w2.heap.size 0 (fun _ => none)) := by rw [hw3]; exact BMap.made _ _ _ _
  have HK3 := Lib.hid (HK2.out.trans hk3)
  have HO73 := Lib.hid (own_keep HO7.out hk3 (by simp))
  have h7lt := own_lt HO7.out
  have x3 := HK3.out.cell X3.out (by simp)
  have hcB3 := hk3.cell hcB2 (by simp)
  have hM3 : w2.heap.size < w3.heap.size := HM3.out.lt
  have h12 : w1.heap.size ≤ w2.heap.size := HK12.out.size
  clear hw3 hk3 hcB2 hmm
  generalize hMM : w2.heap.size = M at *
  go_wp2_with fail
  refine (clone_any w3 _ x.calls ((HE.out.calls HX.out).kept HK3.out) (by omega)).mono ?_
  rintro e w4 ⟨v9, rfl, ho9, hb4⟩
  have hk4 : Kept [] w3 w4 := Kept.of_below hb4
  have HST : Hid (NL l subs x w w1.heap.size M B u 200000 (x.needs.length + x.calls.length + allCalls subs) v7 v9 w4) :=
    ⟨List.replicate subs.length false, x.needs, x.calls, 0, own_keep HO73.out hk4 (by simp), ownsRow_base ho9 (by omega),
      ⟨by
        cases h7 : v7.ownBlock with
        | none => exact .inl rfl
        | some k => right; intro e; have := own_at ho9 k e.symm; have := h7lt k h7; omega,
       fun e => by have := h7lt M e; omega, fun e => by have := own_at ho9 M e; omega⟩,
      by rw [memB_zero]; exact HM3.out.block (hk4.block M hM3 (by simp)),
      RInv.begin _ _, OutInv.begin _ _, by rw [unseen_begin]; omega, by omega, HK3.out.trans hk4, hk4.cell hcB3 (by simp)⟩
  clear ho9 hb4 hk4 x3 hcB3 h7lt
  go_wp2_with fail
  go_loopg [7, 9] (x.needs.length + x.calls.length + allCalls subs) (fun gk v7 v9 wr => NL l subs x w w1.heap.size M B u 200000 gk v7 v9 wr)
  case atStart => exact HST.out
  case round =>
    obtain ⟨bs, out, todo, n, ho7, ho9, hap, hbm, hri, hoi, hpot, hnp, hk, hcB⟩ := hrel
    obtain ⟨A7, c7, rfl⟩ := own_shape ho7
    have HOI := Lib.hid hoi
    have HK := Lib.hid hk
    have HAP := Lib.hid hap
    have HO7 := Lib.hid ho7
    clear hoi hk hap ho7
    by_cases h0 : todo = []
    · subst h0
      obtain ⟨A9, c9, rfl⟩ := own_shape ho9
      have HNL := Lib.hid (needList_of HM.out HX.out hri HOI.out)
      have hol : out.length < 4611686018427387904 := by omega
      clear hri hbm ho9
      go_wp2_with fail
      refine (sort_own wr w1.heap.size _ out HO7.out hol).mono ?_
      rintro e w5 ⟨rfl, ho5, hg5⟩
      have hsl : (sortI out).length = out.length := by simp [sortI]
      have HO5 := Lib.hid ho5
      have HK5 : Hid (Kept [] w w5) := HK.out.grown hg5 (fun k hk => by have := own_at HO7.out k hk; omega)
      have hcB5 : w5.cell? ⟨B, 0, none⟩ = some (.int .i64 u) := hg5.cell hcB (fun e => by have := own_at HO7.out B e.symm; omega)
      clear ho5 hg5 hcB
      go_wp2_with fail
      refine (compact_own w5 w1.heap.size _ (sortI out) (by rw [hsl] at *; exact HO5.out) (by omega)).mono ?_
      rintro e w6 ⟨v6, rfl, ho6, hg6, hat6⟩
      have HO6 := Lib.hid ho6
      have HK6 : Hid (Kept [] w w6) := HK5.out.grown hg6 (fun k hk => by have := own_at HO5.out k hk; omega)
      have hcB6 : w6.cell? ⟨B, 0, none⟩ = some (.int .i64 u) := hg6.cell hcB5 (fun e => by have := own_at HO5.out B e.symm; omega)
      have hcl : (Lib.compact (sortI out)).length < 4611686018427387904 := by have := Lib.compact_length_le (sortI out); omega
      clear ho6 hg6 hat6 hcB5
      go_wp2_with fail
      refine (delete_own w6 w1.heap.size v6 (Lib.compact (sortI out)) B u HO6.out hcl hcB6 (by omega)).mono ?_
      rintro e w7 ⟨v8, rfl, ho8, hg8⟩
      have HO8 := Lib.hid (IntsC.of_owns ho8)
      have HFR : Hid (∀ k, v8.ownBlock = some k → B ≤ k) := fun k hk => by have := own_at ho8 k hk; omega
      have HK8 : Hid (Kept [] w w7) := HK6.out.grown hg8 (fun k hk => by have := own_at HO6.out k hk; omega)
      clear ho8 hg8 hcB6
      go_wp2_with fail
      go_ret
      exact ⟨v8, _, rfl, HNL.out, HO8.out, HK8.out, fun k hk => by have := HFR.out k hk; omega⟩
    · obtain ⟨init, s, rfl⟩ := todo_split todo h0
      clear h0
      obtain ⟨g9, c9, rfl, hc1, hc2, q9, ho9'⟩ := own_last ho9
      have hR := hri.todoR s (by simp)
      obtain ⟨h00, h01⟩ := hR.inr (HM.out.calls x hxm) HM.out.subc
      obtain ⟨sn, rfl⟩ := Int.eq_ofNat_of_zero_le h00
      have hsn : sn < subs.length := by omega
      obtain ⟨y, hy⟩ : ∃ y, subs[sn]? = some y := ⟨_, List.getElem?_eq_getElem hsn⟩
      obtain ⟨b, hbb⟩ := seen_at hri.len hsn
      obtain ⟨bq, oq, rfl, hr⟩ := HE.out.ss.some_ hy
      obtain ⟨y0, y1⟩ := sub_cells (hr sn y hy)
      have Y0 := Lib.hid y0
      have Y1 := Lib.hid y1
      have hwf : (Lit.int .i64 (sn : Int)).wf = true := WalkArith.wf_i64 (by omega)
      have lk := bm_lookup hbm hwf
      rw [memB_at hbb] at lk
      have hln : (init ++ [(sn : Int)]).length = init.length + 1 := by simp
      rw [hln] at hpot
      have HO9 := Lib.hid ho9'
      have HY := Lib.hid hy
      have HBB := Lib.hid hbb
      have HRI := Lib.hid hri
      have hbml : M < wr.heap.size := hbm.lt
      have hin1 : 0 ≤ (init.length : Int) := by omega
      clear hR h00 h01 hr hy hbb hri hln ho9 ho9' y0 y1
      have HAP' : Hid (Apart (.slice A7 out.length c7) (.slice (some ⟨g9, 0, none⟩) init.length c9) M) := ⟨HAP.out.a, HAP.out.m7, HAP.out.m9⟩
      clear HAP
      cases b
      · obtain ⟨w5, hup, hm5, hg5, hz5⟩ := bm_update hbm (by unfold maxLen; omega) hwf true
        have hz5a : w5.heap.size ≤ wr.heap.size := by omega
        have hz5b : wr.heap.size ≤ w5.heap.size := by omega
        have hbl := HRI.out.len
        clear hz5
        have hHU := unseen_set HBB.out HY.out
        have HK5 : Hid (Kept [] w w5) := HK.out.grown hg5 (fun k hk => by injection hk with hk; omega)
        have HO75 := Lib.hid (HO7.out.kept hg5 (.inr HAP'.out.m7))
        have HO95 := Lib.hid (HO9.out.kept hg5 (.inr HAP'.out.m9))
        have hcB5 := hg5.cell hcB (by intro e; injection e with e; have e' : B = M := e; omega)
        have HM5 := Lib.hid hm5
        have y0 := HK5.out.cell Y0.out (by simp)
        have hw5 : w1.heap.size ≤ w5.heap.size := by omega
        have HU := Lib.hid hHU
        have hA : out.length + 1 ≤ maxLen := by unfold maxLen; omega
        have hB : (out.length + 1) * 8 ≤ 140737488355328 := by omega
        have hC : w1.heap.size ≤ (w5.alloc (.cells #[.int .i64 y.unit] 3)).heap.size := by simp; omega
        have hA2 : init.length + y.calls.length ≤ maxLen := by unfold maxLen; omega
        have hB2 : (init.length + y.calls.length) * 8 ≤ 140737488355328 := by omega
        have HBM := Lib.hid hbm
        have HBL := Lib.hid hbl
        clear hm5 hg5 hHU hbm hbl
        go_upto_region 10 with (at_builtin; refine wpList_append_src _ rfl (.tmp 44) (.tmp 50) 26 rfl w1.heap.size 3 i0 (.int .i64 0) 1 8 Try.underlying26 hi hz0 hz1 hz2 rfl (by decide) (.slice A7 out.length c7) out.length (out.map (Value.int .i64)) rfl (HO75.out.alloc _) _ 1 _ [.int .i64 y.unit] rfl (src_one _ _ _) (one_int _ _) hA hB hC ?_; intro v6 w6 ho6 hg6 hat6)
        have HO6 := Lib.hid ho6
        have HAT6 := Lib.hid hat6
        have HO96 := Lib.hid ((HO95.out.alloc _).kept hg6 HAP'.out.a')
        have HK6 : Hid (Kept [] w w6) := (HK5.out.trans (Kept.alloc _ _ _)).grown hg6 (fun k hk => by have := own_at HO75.out k hk; omega)
        have y1 := HK6.out.cell Y1.out (by simp)
        have HM6 : Hid (BM w6 M (n + 1) (updM (memB bs) (sn : Int) true)) := HM5.out.block ((hg6.block M (by simp; omega) (fun e => HAP'.out.m7 e.symm)).trans (Below.heap_alloc _ _ _ (by omega)))
        have hcB6 := hg6.cell ((Kept.alloc [] _ _).cell hcB5 (by simp)) (fun e => by have := own_at HO75.out B e.symm; omega)
        have hw6 : w5.heap.size + 1 ≤ w6.heap.size := by (have := hg6.size; simp at this; omega)
        have hC2 : w1.heap.size ≤ w6.heap.size := by omega
        clear ho6 hg6 hat6 y0
        go_wp2_with (at_builtin; refine wpList_append_src _ rfl (.tmp 52) (.tmp 57) 26 rfl w1.heap.size 3 i0 (.int .i64 0) 1 8 Try.underlying26 hi hz0 hz1 hz2 rfl (by decide) (.slice (some ⟨g9, 0, none⟩) init.length c9) init.length (init.map (Value.int .i64)) rfl HO96.out _ y.calls.length _ (y.calls.map (Value.int .i64)) rfl ((HE.out.kept HK6.out).sk y (List.mem_of_getElem? HY.out)).src (ints_one _) hA2 hB2 hC2 ?_; intro v10 w10 ho10 hg10 hat10; have HO10 := Lib.hid ho10; have HG10 := Lib.hid hg10; have HAT10 := Lib.hid hat10; clear ho10 hg10 hat10)
        have HAP6 : Hid (Apart v6 (.slice (some ⟨g9, 0, none⟩) init.length c9) M) := HAP'.out.left (k := w5.heap.size + 1) (by have := HAT6.out; simpa using this) (fun j hj => by have := own_lt HO95.out j hj; omega) (by omega)
        have HAP10 : Hid (Apart v6 v10 M) := HAP6.out.right HAT10.out (fun j hj => own_lt HO6.out j hj) (by omega)
        have HO610 := Lib.hid (HO6.out.kept HG10.out HAP6.out.a)
        have HK10 : Hid (Kept [] w w10) := HK6.out.grown HG10.out (fun k hk => by have := own_at HO96.out k hk; omega)
        have HM10 : Hid (BM w10 M (n + 1) (memB (bs.set sn true))) := by rw [Hid, ← memB_set (by have := HBL.out; omega)]; exact HM6.out.block (HG10.out.block M (by omega) (fun e => HAP6.out.m9 e.symm))
        have hcB10 := HG10.out.cell hcB6 (fun e => by have := own_at HO96.out B e.symm; omega)
        have HN : Hid (RInv subs x.calls (bs.set sn true) (init ++ y.calls)) := HRI.out.new (s := (sn : Int)) (by omega) (by simpa using HBB.out) (by simp) (fun z hz => by
          rcases List.mem_append.1 hz with hz | hz
          · exact .inr (List.mem_append_left _ hz)
          · exact .inl (by simpa using hz)) (fun z hz => by rw [callsOf_nat HY.out] at hz; exact List.mem_append_right _ hz) (fun z hz => by
          rcases List.mem_append.1 hz with hz | hz
          · exact .inl (List.mem_append_left _ hz)
          · exact .inr (by rw [callsOf_nat HY.out]; exact hz))
        have HON : Hid (OutInv subs x.needs (bs.set sn true) (out ++ [y.unit])) := by
          have := HOI.out.new (s := (sn : Int)) (by omega) (by have := HBL.out; simp; omega)
          rw [unitOf_eq (by simpa using HY.out)] at this
          exact this
        go_roundg (gk - 1)
        case measure => omega
        case rel => exact ⟨bs.set sn true, out ++ [y.unit], init ++ y.calls, n + 1, by simpa using HO610.out, by simpa using HO10.out, HAP10.out, HM10.out, HN.out, HON.out, by have := HU.out; simp; omega, by omega, HK10.out, hcB10⟩
      · have HOLD : Hid (RInv subs x.calls bs init) := HRI.out.old (s := (sn : Int)) (by simpa using HBB.out) (fun z hz => by
          rcases List.mem_append.1 hz with hz | hz
          · exact .inr hz
          · exact .inl (by simpa using hz)) (fun z hz => by simp [hz])
        go_wp2_with fail
        go_roundg (gk - 1)
        case measure => omega
        case rel => exact ⟨bs, out, init, n, HO7.out, HO9.out, HAP'.out, hbm, HOLD.out, HOI.out, by omega, by omega, HK.out, hcB⟩
end Go.Proofs.Ytoaklikkepkhfaa
