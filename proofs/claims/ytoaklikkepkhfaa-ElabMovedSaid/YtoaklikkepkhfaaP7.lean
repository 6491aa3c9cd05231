/- Plain: units and subprograms that are zero values. -/
import Derived.Test.YtoaklikkepkhfaaL4
namespace Go.Proofs.Ytoaklikkepkhfaa
open Go.RowKit

def zeroU : UnitV := ⟨⟨#[]⟩, false, none, 0, [], none, 0, []⟩
def zeroS : SubV := ⟨0, none, 0, []⟩
def zU (n : Nat) : List UnitV := List.replicate n zeroU
def zS (m : Nat) : List SubV := List.replicate m zeroS
theorem zU_len (n : Nat) : (zU n).length = n := by simp [zU]
theorem zS_len (n : Nat) : (zS n).length = n := by simp [zS]
theorem zU_at {n i : Nat} (h : i < n) : (zU n)[i]? = some zeroU := by simp [zU, h]
theorem zU_mem {n : Nat} {x : UnitV} (h : x ∈ zU n) : x = zeroU := List.eq_of_mem_replicate h
theorem zS_mem {n : Nat} {x : SubV} (h : x ∈ zS n) : x = zeroS := List.eq_of_mem_replicate h

theorem may_zero {n m : Nat} (h0 : 0 < n) : mayR (zU n) (zS m) = (decide (n ≤ 256) && decide (m ≤ 4096)) := by
  unfold mayR
  rw [zU_len, zS_len]
  have h1 : (zU n).all (unitOk n m) = true := List.all_eq_true.2 fun x hx => by rw [zU_mem hx]; rfl
  have h2 : (zS m).all (subOk n m) = true := List.all_eq_true.2 fun x hx => by
    rw [zS_mem hx]
    have : inR n zeroS.unit = true := inR_iff.2 ⟨Int.le_refl _, by show (0 : Int) < n; omega⟩
    unfold subOk
    rw [this]; rfl
  rw [h1, h2]
  simp
theorem names_zero (n : Nat) : NamesOk (zU n) (List.range n) := by
  have hb : ∀ i j, i < n → j < n → beforeB (zU n) i j = decide (i < j) := by
    intro i j hi hj
    unfold beforeB nameOf bodyOf
    rw [zU_at hi, zU_at hj]
    simp
  refine ⟨?_, fun i => by rw [List.mem_range, zU_len]⟩
  refine (List.pairwise_lt_range).imp_of_mem fun {a b} ha hb' h => ?_
  rw [hb a b (List.mem_range.1 ha) (List.mem_range.1 hb')]
  simpa using h
theorem need_zero {n m u : Nat} (hu : u < n) : NeedList (zU n) (zS m) u [] := by
  refine ⟨by simp, fun k => ⟨fun h => by simp at h, fun h => ?_⟩⟩
  obtain ⟨_, x, hx, h⟩ := h
  rw [zU_at hu] at hx
  injection hx with hx
  subst hx
  rcases h with h | ⟨s, h, _⟩
  · exact h
  · exact (reach_nil h).elim
theorem needs_zero (n m : Nat) : NeedsOk (zU n) (zS m) (List.replicate n []) := by
  refine ⟨by rw [zU_len]; simp, fun u x hx => ?_⟩
  rw [List.getElem?_replicate] at hx
  split at hx
  · rename_i h
    injection hx with hx
    subst hx
    exact need_zero h
  · cases hx
theorem orderG_zero (n : Nat) : ∀ (k d : Nat), d + k = n → orderG (List.range n) (List.replicate n []) k (List.replicate d true ++ List.replicate k false) (List.range d) = some (List.range n) := by
  intro k
  induction k with
  | zero =>
    intro d hd
    have : d = n := by omega
    subst this
    rfl
  | succ k ih =>
    intro d hd
    have hlt : d < n := by omega
    have hna : ∀ i, needAt (List.replicate n ([] : List Int)) i = [] := by
      intro i
      unfold needAt
      rw [List.getElem?_replicate]
      split <;> rfl
    have hat : (List.replicate d true ++ List.replicate (k + 1) false)[d]? = some false := by
      rw [List.getElem?_append_right (by simp)]
      simp
    have hf : (List.range n).find? (readyB (List.replicate n []) (List.replicate d true ++ List.replicate (k + 1) false)) = some d := by
      refine find_at _ d d (by simp [hlt]) ?_ fun j a hj ha => ?_
      · rw [ready_iff]
        exact ⟨hat, by rw [hna]; rfl⟩
      · have ha' : a = j := by
          rw [List.getElem?_range (by omega)] at ha
          injection ha with ha
          exact ha.symm
        subst ha'
        unfold readyB tk
        rw [List.getElem?_append_left (by simpa using hj)]
        simp [hj]
    rw [orderG, hf]
    have hset : (List.replicate d true ++ List.replicate (k + 1) false).set d true = List.replicate (d + 1) true ++ List.replicate k false := by
      rw [List.set_append_right _ _ (by simp)]
      simp only [List.length_replicate, Nat.sub_self, List.replicate_succ, List.set_cons_zero]
      rw [show true :: List.replicate d true = List.replicate d true ++ [true] by rw [← List.replicate_succ, List.replicate_succ']]
      simp
    show orderG _ _ k ((List.replicate d true ++ List.replicate (k + 1) false).set d true) (List.range d ++ [d]) = _
    rw [hset, ← List.range_succ]
    exact ih (d + 1) (by omega)
theorem orderR_zero (n : Nat) : orderR (List.range n) (List.replicate n []) = some (List.range n) := by
  unfold orderR
  have := orderG_zero n n 0 (by omega)
  simpa using this

theorem order_zero_ok {n m : Nat} (h0 : 0 < n) (h1 : n ≤ 256) (h2 : m ≤ 4096) {xs : List Int} {er : Int} (h : OrderRes (zU n) (zS m) xs er) : xs = natsI (List.range n) ∧ er = 0 :=
  h.uniq (.inr ⟨by rw [may_zero h0]; simp [h1, h2], List.range n, List.replicate n [], names_zero n, needs_zero n m, by rw [orderR_zero]; rfl, by rw [orderR_zero]; rfl⟩)
theorem order_zero_no {n m : Nat} (h0 : 0 < n) (h1 : ¬ (n ≤ 256 ∧ m ≤ 4096)) {xs : List Int} {er : Int} (h : OrderRes (zU n) (zS m) xs er) : xs = [] ∧ er = 2 :=
  h.uniq (.inl ⟨by rw [may_zero h0]; simp; omega, rfl, rfl⟩)
theorem room_zero {n m : Nat} (h1 : n ≤ 300) (h2 : m ≤ 5000) : Room (zU n) (zS m) := by
  have ha : allCalls (zS m) = m := by
    unfold allCalls zS
    rw [List.map_replicate]
    simp [zeroS]
  refine ⟨fun x hx => ?_, fun x hx => ?_, by rw [zU_len]; exact h1⟩
  · rw [zU_mem hx]; exact Nat.zero_le _
  · rw [zU_mem hx, ha]; show 0 + m ≤ _; omega

theorem made_get (z : Array Value) (hz : 0 < z.size) (n j i : Nat) (h : i < z.size) (hj : j < n) : (madeCells z (n * z.size)).toList[j * z.size + i]? = z.toList[i]? := by
  have hlt : j * z.size + i < n * z.size := by
    have : (j + 1) * z.size ≤ n * z.size := Nat.mul_le_mul_right _ hj
    rw [Nat.succ_mul] at this
    omega
  have hmod : (j * z.size + i) % z.size = i := by rw [Nat.mul_comm, Nat.mul_add_mod]; exact Nat.mod_eq_of_lt h
  rw [Array.getElem?_toList, Array.getElem?_eq_getElem (by rw [size_madeCells]; exact hlt)]
  simp [madeCells, hmod, h]

theorem zU_env {w : World} {base : Nat} {A : Option Addr} {n c : Nat} (h : w.ownsRow base 44 4 (.slice A n c) n (madeCells (Value.agg #[.string ⟨#[]⟩, .bool false, .slice none 0 0, .slice none 0 0]).cells (n * 4)).toList) (hA : A ≠ none) : UEnv w A c (zU n) := by
  rcases h.2 with ⟨e, _⟩ | ⟨g, cap, cur, e, hb, hg, hcap, hmax, _⟩
  · injection e with e; exact absurd e hA
  · injection e with e1 _ e2
    subst e1 e2
    refine ⟨.inr ⟨g, 0, rfl, fun j r hr i u hu => ?_⟩, fun x hx => by rw [zU_mem hx]; exact .inl rfl, fun x hx => by rw [zU_mem hx]; exact .inl rfl, fun x hx => by rw [zU_mem hx]; constructor <;> first | (simp [zeroU]; done) | (simp [zeroU, ByteArray.size]; done), by rw [zU_len]; exact hcap, by unfold maxLen at hmax; omega, fun h => by cases h⟩
    have hj : j < n := by have := (List.getElem?_eq_some_iff.1 hr).1; rwa [zU_len] at this
    rw [zU_at hj] at hr
    injection hr with hr
    subst hr
    have hi : i < 4 := by have := (List.getElem?_eq_some_iff.1 hu).1; exact this
    have hc := h.cells (g := g) rfl (j * 4 + i) u (by
      have := made_get (Value.agg #[.string ⟨#[]⟩, .bool false, .slice none 0 0, .slice none 0 0]).cells (by decide) n j i hi hj
      exact this.trans hu)
    rw [Addr.add_mid] at hc
    rw [Nat.add_assoc]
    exact hc
theorem zS_env {w : World} {base : Nat} {A : Option Addr} {n c : Nat} (h : w.ownsRow base 42 2 (.slice A n c) n (madeCells (Value.agg #[.int .i64 0, .slice none 0 0]).cells (n * 2)).toList) (hA : A ≠ none) : SEnv w A c (zS n) := by
  rcases h.2 with ⟨e, _⟩ | ⟨g, cap, cur, e, hb, hg, hcap, hmax, _⟩
  · injection e with e; exact absurd e hA
  · injection e with e1 _ e2
    subst e1 e2
    refine ⟨.inr ⟨g, 0, rfl, fun j r hr i u hu => ?_⟩, fun x hx => by rw [zS_mem hx]; exact .inl rfl, fun x hx => by rw [zS_mem hx]; exact ok_nil 0 (by decide), by rw [zS_len]; exact hcap, by unfold maxLen at hmax; omega, fun h => by cases h⟩
    have hj : j < n := by have := (List.getElem?_eq_some_iff.1 hr).1; rwa [zS_len] at this
    have hr' : (zS n)[j]? = some zeroS := by simp [zS, hj]
    rw [hr'] at hr
    injection hr with hr
    subst hr
    have hi : i < 2 := by have := (List.getElem?_eq_some_iff.1 hu).1; exact this
    have hc := h.cells (g := g) rfl (j * 2 + i) u (by
      have := made_get (Value.agg #[.int .i64 0, .slice none 0 0]).cells (by decide) n j i hi hj
      exact this.trans hu)
    rw [Addr.add_mid] at hc
    rw [Nat.add_assoc]
    exact hc
end Go.Proofs.Ytoaklikkepkhfaa
