/- Arguments opened, over any program: slices of rows, structs of one-cell fields, with the bound on each slice's bytes. -/
import Derived.Deep.Slices
import Derived.Deep.Fields
import Derived.ChangeSame
import Derived.SizedLaws
import Derived.Deep.MidRow
namespace Go.Proofs.Ytbjnoffdafpkgaa
open Go.ChangeShapes Go.WideShapes Go.Deep

section
variable {H : Type} {enc : TypeId × Value → H} {P : Program} {w : World} {base : Nat} {spare : Nat → Bool} {held : Bool}

/-- Each slice, string and map in a datum is within reach. -/
def SzD (P : Program) (t : TypeId) (d : DataW H) : Prop := ∀ n, n ∈ d.weights P t → n ≤ reachBytes

theorem SzD.arg {ts : List TypeId} {ds : List (DataW H)} (h : (DataW.weightsEach P ts ds).all (· ≤ reachBytes) = true) {j : Nat} {t : TypeId} {d : DataW H} (ht : ts[j]? = some t) (hd : ds[j]? = some d) : SzD P t d :=
  fun n hn => by simpa using List.all_eq_true.1 h _ (DataW.weights_mem_each ht hd n hn)

theorem weights_mem_all {e : TypeId} {n : Nat} : ∀ {ds : List (DataW H)} {d : DataW H}, d ∈ ds → n ∈ d.weights P e → n ∈ DataW.weightsAll P e ds := by
  intro ds
  induction ds with
  | nil => intro d h; simp at h
  | cons a ds ih =>
    intro d h hn
    simp only [DataW.weightsAll, List.mem_append]
    rcases List.mem_cons.1 h with rfl | h
    · exact .inl hn
    · exact .inr (ih h hn)

theorem SzD.elem {t e : TypeId} {elems sp : List (DataW H)} (h : SzD P t (.slice elems sp)) (ht : P.underlying t = some (.slice e)) {d : DataW H} (hd : d ∈ elems) : SzD P e d :=
  fun n hn => h n (by simp only [DataW.weights, ht, List.mem_cons, List.mem_append]; exact .inr (.inl (weights_mem_all hd hn)))
theorem SzD.len {t e : TypeId} {elems sp : List (DataW H)} (h : SzD P t (.slice elems sp)) (ht : P.underlying t = some (.slice e)) : (elems.length + sp.length) * P.bytesOf e ≤ reachBytes :=
  h _ (by simp [DataW.weights, ht])
theorem SzD.str {t : TypeId} {b : List UInt8} (h : SzD P t (.lit (.string b) : DataW H)) : b.length ≤ reachBytes :=
  h _ (by simp [DataW.weights])
theorem SzD.field {t : TypeId} {fs : Array Field} {parts : List (DataW H)} (h : SzD P t (.agg parts)) (ht : P.underlying t = some (.struct fs)) {j : Nat} {f : Field} {d : DataW H} (hf : fs[j]? = some f) (hd : parts[j]? = some d) : SzD P f.type d :=
  fun n hn => h n (by
    simp only [DataW.weights, ht]
    refine DataW.weights_mem_each (j := j) (t := f.type) ?_ hd n hn
    rw [List.getElem?_map, Array.getElem?_toList, hf]; rfl)

/-- A slice of rows, whatever a row is. -/
def RowsAt (α : Type) (k : Nat) (cells : α → List Value) (w : World) (A : Option Addr) (l : List α) : Prop :=
  l = [] ∨ ∃ b o, A = some ⟨b, o, none⟩ ∧ ∀ j r, l[j]? = some r → w.rangeAt b (o + j * k) (cells r)

theorem rows_open {α : Type} [Inhabited α] {k : Nat} {cells : α → List Value} {G : α → Prop} {t e : TypeId} {fuel : Nat} {cs : List Value} {x : DataW H × List MemPlace}
    (ht : P.underlying t = some (.slice e)) (hk : P.cellsOf e = k) (h0 : 0 < k) (h : DataW.trod enc P w base spare held fuel t cs = some x) (hs : SzD P t x.1)
    (R : ∀ n cs' y, DataW.trod enc P w base spare held n e cs' = some y → SzD P e y.1 → ∃ r : α, cs' = cells r ∧ G r) :
    ∃ (A : Option Addr) (c : Nat) (l : List α), cs = [.slice A l.length c] ∧ l.length ≤ c ∧ c ≤ maxLen ∧ (A = none → c = 0) ∧ RowsAt α k cells w A l ∧ (∀ r, r ∈ l → G r) ∧ l.length * P.bytesOf e ≤ reachBytes := by
  rcases open_slice ht h with ⟨rfl, _⟩ | ⟨a, len, cap, m, n, D, Pl, rfl, hb, hl, hm, hmm, hx, hi⟩
  · exact ⟨none, 0, [], rfl, Nat.le_refl _, Nat.zero_le _, fun _ => rfl, .inl rfl, (fun r hr => by simp at hr), by simp⟩
  · have hlm : len ≤ m := by rw [hmm]; split <;> omega
    have hx1 : x.1 = .slice ((List.range len).map D) ((List.range (m - len)).map fun j => D (len + j)) := by rw [hx]
    rw [hx1] at hs
    have hr : ∀ i, i < len → ∃ r : α, w.cells? base (a.add (i * k)) k = some (cells r) ∧ G r := by
      intro i hil
      obtain ⟨cs', hc, ht'⟩ := hi i (by omega)
      rw [hk] at hc
      obtain ⟨r, rfl, hG⟩ := R n cs' _ ht' (hs.elem ht (List.mem_map.2 ⟨i, List.mem_range.2 hil, rfl⟩))
      exact ⟨r, hc, hG⟩
    obtain ⟨f, hf⟩ := choose_lt hr
    refine ⟨some a, cap, (List.range len).map f, by simp, by simpa using hl, hm, (fun h => by cases h), ?_, ?_, ?_⟩
    · rcases Nat.eq_zero_or_pos len with rfl | hpos
      · exact .inl rfl
      · have hc0 := (World.cells?_some (hf 0 hpos).1)
        obtain ⟨b, o, sp⟩ := a
        have hsp : sp = none := by
          have := hc0.2.2 0 h0
          have hlt : 0 < (cells (f 0)).length := by rw [hc0.2.1]; exact h0
          rw [List.getElem?_eq_getElem hlt] at this
          simpa [Addr.add] using World.cell?_spot this
        subst hsp
        refine .inr ⟨b, o, rfl, fun j r hj => ?_⟩
        rw [List.getElem?_map] at hj
        have hjl : j < len := by
          rcases Nat.lt_or_ge j len with h | h
          · exact h
          · rw [List.getElem?_eq_none (by simpa using h)] at hj; simp at hj
        rw [List.getElem?_range hjl] at hj
        simp only [Option.map_some, Option.some.injEq] at hj
        subst hj
        obtain ⟨_, hcl, hat⟩ := World.cells?_some (hf j hjl).1
        intro i u hu
        have hik : i < k := by
          rw [← hcl]
          exact (List.getElem?_eq_some_iff.1 hu).1
        have h1 := hat i hik
        rw [Go.Deep.add_add, Addr.add_mid] at h1
        rw [Nat.add_assoc, h1, hu]
    · intro r hr'
      obtain ⟨i, hi', rfl⟩ := List.mem_map.1 hr'
      exact (hf i (List.mem_range.1 hi')).2
    · have := hs.len ht
      rw [List.length_map, List.length_range, List.length_map, List.length_range] at this
      rw [List.length_map, List.length_range]
      exact Nat.le_trans (Nat.mul_le_mul_right _ (Nat.le_add_right _ _)) this

/-- A struct of one-cell fields: each field's own cell and reading. -/
theorem row_open {e : TypeId} {fs : Array Field} {n : Nat} {cs : List Value} {y : DataW H × List MemPlace} (he : P.underlying e = some (.struct fs)) (hone : oneCellFields P fs = true) (hC : P.cellsOf e = fs.size)
    (h : DataW.trod enc P w base spare held n e cs = some y) (hs : SzD P e y.1) :
    cs.length = fs.size ∧ ∃ m, ∀ (j : Nat) (f : Field), fs[j]? = some f → ∃ (v : Value) (z : DataW H × List MemPlace), cs[j]? = some v ∧ DataW.trod enc P w base spare held m f.type [v] = some z ∧ SzD P f.type z.1 := by
  obtain ⟨ys, m, _, hy, hlen, hyl, hf⟩ := DataW.trod_struct he h
  refine ⟨by rw [hlen, hC], m, fun j f hj => ?_⟩
  obtain ⟨ho, hk⟩ := hone_of hone j f hj
  have hjl : j < fs.size := (Array.getElem?_eq_some_iff.1 hj).1
  have hv : cs[j]? = some (cs[j]'(by omega)) := List.getElem?_eq_getElem (by omega)
  have h1 := hf j f hj
  rw [ho, hk] at h1
  have hone' : (cs.drop j).take 1 = [cs[j]'(by omega)] := by
    rw [List.drop_eq_getElem_cons (by omega)]
    rfl
  rw [hone'] at h1
  have hys : ys[j]? = some (ys[j]'(by omega)) := List.getElem?_eq_getElem (by omega)
  refine ⟨_, _, hv, h1.trans hys, ?_⟩
  have hy1 : y.1 = .agg (ys.map (·.1)) := by rw [hy]
  rw [hy1] at hs
  exact hs.field he hj (by rw [List.getElem?_map, hys]; rfl)

theorem slice_len {t e : TypeId} {fuel : Nat} {v : Value} {x : DataW H × List MemPlace} (ht : P.underlying t = some (.slice e)) (h : DataW.trod enc P w base spare held fuel t [v] = some x) :
    ∃ A n c, v = .slice A n c ∧ n ≤ c ∧ c ≤ maxLen := by
  rcases open_slice ht h with ⟨h, _⟩ | ⟨a, len, cap, m, n, D, Pl, h, _, hl, hm, _⟩
  · exact ⟨none, 0, 0, by simpa using h, Nat.le_refl _, Nat.zero_le _⟩
  · exact ⟨some a, len, cap, by simpa using h, hl, hm⟩
end
end Go.Proofs.Ytbjnoffdafpkgaa
