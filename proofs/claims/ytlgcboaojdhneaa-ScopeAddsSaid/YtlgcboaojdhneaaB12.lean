/- Find, from what slices.Sort does. -/
import Derived.Test.YtlgcboaojdhneaaB9
namespace Go.Proofs.Ytlgcboaojdhneaa
open Go.RowKit Go.Shelf

/-- What slices.Sort does with a row of one's own: shown where the shelf is laid. -/
def SortC : Prop := ∀ (w : World) (base : Nat) (v : Value) (zs : List Int), w.ownsRow base 3 1 v zs.length (zs.map (Value.int .i64)) → zs.length < 4611686018427387904 →
    Calls Try.prog 46 #[v] w fun e w' => e = .returned (.tuple #[]) ∧ w'.ownsRow base 3 1 v (sortI zs).length ((sortI zs).map (Value.int .i64)) ∧ w.grownBy w' v.ownBlock

def findL (t : Tab) (h : WhV) (name : ByteArray) : List Int :=
  let all := allR t name h.after
  let d := dirR t h all (regs t h.region)
  d ++ usedR t h all d
def findR (t : Tab) (h : WhV) (name : ByteArray) : List Int := sortI (findL t h name)

theorem regN_len (t : Tab) : ∀ (k : Nat) (e : Int), (regN t k e).length ≤ k := by
  intro k
  induction k with
  | zero => intro e; simp [regN]
  | succ k ih =>
    intro e
    unfold regN
    split
    · simp
    · rename_i x _
      split
      · simp
      · have := ih x.owner
        simp only [List.length_cons]
        omega
theorem regs_len (t : Tab) (e : Int) : (regs t e).length ≤ t.ents.length := by
  cases h : (rowR t e).isSome
  · rw [regs_none (by simpa using h)]
    simp
  · obtain ⟨n, x, rfl, hx, _⟩ := row_at h
    have h1 := (List.getElem?_eq_some_iff.1 hx).1
    have h2 := regN_len t ((n : Int) + 1).toNat (n : Int)
    unfold regs
    omega
theorem allR_row {t : Tab} {name : ByteArray} {after : Int} {e : Int} (h : e ∈ allR t name after) : (rowR t e).isSome = true := by
  unfold allR allN at h
  obtain ⟨i, hi, rfl⟩ := List.mem_map.1 h
  have hl : i < t.ents.length := by simpa using (List.mem_filter.1 hi).1
  unfold rowR
  rw [if_neg (by omega)]
  simp [hl]
theorem usedR_len (t : Tab) (h : WhV) (all l : List Int) : (usedR t h all l).length ≤ all.length := by
  unfold usedR
  exact Nat.le_trans (List.length_filter_le _ _) (List.length_filter_le _ _)
theorem RetC_src {w : World} {v : Value} {xs : List Int} (h : IntsC w v xs) : ∃ A c, v = .slice A xs.length c ∧ SrcAt w 1 A xs.length (xs.map (Value.int .i64)) := by
  obtain ⟨A, c, rfl, h1, h2, h3, h4⟩ := h
  exact ⟨A, c, rfl, IntsIn.src (w := w) (A := A) h4⟩

set_option maxRecDepth 100000 in
set_option maxHeartbeats 4000000 in
theorem find_any (hS : SortC) (w : World) (v : TabV) (t : Tab) (h : WhV) (name : ByteArray) (hT : TabIn w v t) (hH : WhIn w h) (hs : t.ents.length ≤ 5000) (hus : h.uses.length ≤ 100000) (hwf : ∀ x, x ∈ t.ents → (Lit.int .i64 x.owner).wf = true) :
    Calls Try.prog 16 #[.agg (v.cells t), .agg h.cells.toArray, .string name] w (RetO (findR t h name) w) := by
  have HS := Lib.hid hS
  have HT := Lib.hid hT
  have HH := Lib.hid hH
  have HWF := Lib.hid hwf
  obtain ⟨i0, hi, hz0, hz1, hz2⟩ := info_parts int_info
  have HALL : Hid ((allR t name h.after).length ≤ 5000) := Nat.le_trans (allN_len _ _ _ _) hs
  have HREG : Hid ((regs t h.region).length ≤ 5000) := Nat.le_trans (regs_len _ _) hs
  clear hT hH hwf hS
  unfold TabV.cells WhV.cells
  go_enter Try.func16, Try.ntmps16
  go_upto_region 1 with (fail)
  refine wp_gen' ?_
  intro w1 hw1
  have HK1 : Hid (Kept [] w w1) := by rw [Hid, hw1]; exact (Kept.alloc _ _ _).trans (Kept.alloc _ _ _)
  have b0 : w1.heap[w.heap.size]? = some (.cells (v.cells t) 28 (0, 0)) := by rw [hw1]; exact obj_old (obj_new rfl) (by simp)
  have b1 : w1.heap[w.heap.size + 1]? = some (.cells h.cells.toArray 31 (0, 0)) := by rw [hw1]; exact obj_new (by simp)
  have c0 : ∀ j, w1.cell? ⟨w.heap.size, j, none⟩ = (v.cells t)[j]? := fun j => cell_of_row _ _ _ _ _ _ b0
  have c1 : ∀ j, w1.cell? ⟨w.heap.size + 1, j, none⟩ = h.cells.toArray[j]? := fun j => cell_of_row _ _ _ _ _ _ b1
  have e0 : w1.cell? ⟨w.heap.size, 0, none⟩ = some (.slice v.ta t.types.length v.tc) := c0 0
  have e1 : w1.cell? ⟨w.heap.size, 1, none⟩ = some (.slice v.sa t.subs.length v.sc) := c0 1
  have e2 : w1.cell? ⟨w.heap.size, 2, none⟩ = some (.slice v.ea t.ents.length v.ec) := c0 2
  have e3 : w1.cell? ⟨w.heap.size, 3, none⟩ = some (.slice v.ga v.gn v.gc) := c0 3
  have e4 : w1.cell? ⟨w.heap.size, 4, none⟩ = some (.slice v.ia v.im v.ic) := c0 4
  have a0 : w1.cell? ⟨w.heap.size + 1, 0, none⟩ = some (.int .i64 h.region) := c1 0
  have a1 : w1.cell? ⟨w.heap.size + 1, 1, none⟩ = some (.int .i64 h.after) := c1 1
  have a2 : w1.cell? ⟨w.heap.size + 1, 2, none⟩ = some (.slice h.ua h.units.length h.uc) := c1 2
  have a3 : w1.cell? ⟨w.heap.size + 1, 3, none⟩ = some (.slice h.sa h.uses.length h.sc) := c1 3
  have HC := Lib.hid (look_any w1 v t h name (HT.out.kept HK1.out) (HH.out.kept HK1.out) (by omega))
  unfold TabV.cells WhV.cells at HC
  clear hw1 b0 b1 c0 c1
  go_wp2_with fail
  refine HC.out.mono ?_
  rintro e w2 ⟨F, rfl, hF, hfi, hk2⟩
  have HFI := Lib.hid hfi
  have HK2 : Hid (Kept [] w w2) := HK1.out.trans hk2
  clear hfi hk2 HC e0 e1 e2 e3 e4 a0 a1 a2 a3 hF
  obtain ⟨all, hall⟩ : ∃ all, allR t name h.after = all := ⟨_, rfl⟩
  have HRV : Hid (∀ e, e ∈ all → (rowR t e).isSome = true) := fun e he => by rw [← hall] at he; exact allR_row he
  have HL : Hid (findR t h name = sortI (dirR t h all (regs t h.region) ++ usedR t h all (dirR t h all (regs t h.region)))) := by rw [Hid, findR, findL, hall]
  rw [hall] at HFI HALL
  have HC := Lib.hid (direct_any w2 F v t h name all HFI.out HRV.out HALL.out HREG.out)
  clear hall
  go_wp2_with fail
  refine HC.out.mono ?_
  rintro e w3 ⟨vd, rfl, ho3, hk3⟩
  have HD : Hid (∀ e, e ∈ dirR t h all (regs t h.region) → (rowR t e).isSome = true) := fun e he => HRV.out e (dirR_mem he)
  have hdl : (dirR t h all (regs t h.region)).length ≤ 5000 * 5000 := by
    have h1 := dirR_len (t := t) (h := h) (all := all) (regs t h.region) []
    have h2 : (regs t h.region).length * all.length ≤ 5000 * 5000 := Nat.mul_le_mul HREG.out HALL.out
    unfold dirR
    simp only [List.length_nil, Nat.zero_add] at h1
    omega
  generalize dirR t h all (regs t h.region) = d at *
  obtain ⟨A3, c3, rfl⟩ := own_shape ho3
  obtain ⟨_, hin3, h31, h32, _⟩ := (IntsC.of_owns ho3).at_
  have HO3 := Lib.hid ho3
  have HK3 := Lib.hid hk3
  have HC := Lib.hid (used_any w3 F v t h name all (HFI.out.kept hk3) HRV.out HALL.out hus HWF.out A3 c3 d h31 h32 hin3 HD.out)
  have hul := usedR_len t h all d
  generalize usedR t h all d = us at *
  clear ho3 hk3 hin3
  go_wp2_with fail
  refine HC.out.mono ?_
  rintro e w4 ⟨vu, rfl, hiu, hk4⟩
  obtain ⟨A5, c5, rfl, hsrc⟩ := RetC_src hiu
  have hz2' := HK2.out.size
  have HO4 : Hid (w4.ownsRow w.heap.size 3 1 (.slice A3 d.length c3) d.length (d.map (Value.int .i64))) := own_base (own_obj HO3.out (fun g cc _ hc => hk4.obj hc (by simp))) hz2'
  have HK4 : Hid (Kept [] w w4) := HK2.out.trans (HK3.out.trans hk4)
  have hA : d.length + us.length ≤ maxLen := by have := HALL.out; unfold maxLen; omega
  have hB : (d.length + us.length) * 8 ≤ 140737488355328 := by have := HALL.out; omega
  have hC : w.heap.size ≤ w4.heap.size := HK4.out.size
  have hD : d.length + us.length < 4611686018427387904 := by have := HALL.out; omega
  clear hiu hk4 HC
  go_upto_region 4 with (at_builtin; refine wpList_append_src _ rfl (.tmp 15) (.tmp 18) 29 rfl w.heap.size 3 i0 (.int .i64 0) 1 8 Try.underlying29 hi hz0 hz1 hz2 rfl (by decide) (.slice A3 d.length c3) d.length (d.map (Value.int .i64)) rfl HO4.out A5 us.length c5 (us.map (Value.int .i64)) rfl hsrc (ints_one _) hA hB hC ?_; intro v6 w6 ho6 hg6 _; have HO6 := Lib.hid ho6; have HG6 := Lib.hid hg6; clear ho6 hg6)
  have HK6 : Hid (Kept [] w w6) := HK4.out.grown HG6.out (fun q hq => own_at HO4.out q hq)
  have HO6' : Hid (w6.ownsRow w.heap.size 3 1 v6 (d ++ us).length ((d ++ us).map (Value.int .i64))) := by
    rw [Hid, List.length_append, List.map_append]
    exact HO6.out
  have HC := Lib.hid (HS.out w6 w.heap.size v6 (d ++ us) HO6'.out (by rw [List.length_append]; omega))
  clear hsrc
  go_wp2_with fail
  refine HC.out.mono ?_
  rintro e w7 ⟨rfl, ho7, hg7⟩
  have HO7 := Lib.hid ho7
  have HK7 : Hid (Kept [] w w7) := HK6.out.grown hg7 (fun q hq => own_at HO6.out q hq)
  clear ho7 hg7 HC
  go_wp2_with fail
  go_ret
  exact ⟨_, rfl, by rw [HL.out]; exact HO7.out, HK7.out⟩
end Go.Proofs.Ytlgcboaojdhneaa
