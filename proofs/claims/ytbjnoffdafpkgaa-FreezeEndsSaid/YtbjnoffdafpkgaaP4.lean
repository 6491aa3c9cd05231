/- The program's states and the reference's. -/
import Derived.Test.YtbjnoffdafpkgaaP3
namespace Go.Proofs.Ytbjnoffdafpkgaa

def conAt (l : List (Int × Int × Bool)) (x : Int) : Option (Int × Bool) := (l.find? (fun c => c.1 == x)).map (·.2)

/-- The state of the program reads as that of the reference. -/
structure Sim (t : Tab) (s : PS) (r : RS) : Prop where
  dec : ∀ x, Wf x → s.dec x = if r.dec.contains x then some true else none
  com : ∀ x, Wf x → (s.com x).getD false = r.com.contains x
  frz : ∀ x, Wf x → (s.frz x).getD false = r.frz.contains x
  con : ∀ x, Wf x → s.con x = conAt r.con x
  ascD : Asc r.dec
  ascC : Asc r.com
  ascF : Asc r.frz
  exD : ∀ x, x ∈ r.dec → exI t.types.length x = true
  exC : ∀ x, x ∈ r.com → exI t.types.length x = true
  exF : ∀ x, x ∈ r.frz → exI t.types.length x = true
  conE : ∀ c, c ∈ r.con → Wf c.1 ∧ exI t.types.length c.2.1 = true
  conN : (r.con.map (·.1)).Nodup

theorem Sim.zero (t : Tab) : Sim t PS.zero RS.zero := by
  constructor <;> simp [PS.zero, RS.zero, conAt, Asc]

theorem has_iff {l : List Int} {x : Int} : l.contains x = true ↔ x ∈ l := List.contains_iff_mem

theorem Sim.ok {t : Tab} {s : PS} {r : RS} (h : Sim t s r) {x : Int} (hx : Wf x) : okM s.dec s.com x = !(r.dec.contains x && !r.com.contains x) := by
  unfold okM
  rw [h.dec x hx, h.com x hx]
  cases r.dec.contains x <;> cases r.com.contains x <;> rfl

theorem wf_ex {t : Tab} (hn : t.types.length ≤ 1000) {x : Int} (h : exI t.types.length x = true) : Wf x := wf_of_exI hn h

/-- Freezing a list of types: the program. -/
theorem frzF_read {t : Tab} {s : PS} {r : RS} (h : Sim t s r) {ls : List Int} (hls : ∀ x, x ∈ ls → exI t.types.length x = true) {x : Int} (hx : Wf x) :
    (frzF s.frz (meetAll t (okM s.dec s.com) ls) x).getD false = (r.frz.contains x || ((meetAll t (okM s.dec s.com) ls).1.contains x && (meetAll t (okM s.dec s.com) ls).2)) := by
  unfold frzF
  have hf := h.frz x hx
  cases (meetAll t (okM s.dec s.com) ls).1.contains x
  · simp [hf]
  · simp [hf]

/-- All that the list reaches is fine. -/
def FineR (t : Tab) (r : RS) (ls : List Int) : Prop := ∀ y x, y ∈ ls → Reach t y x → (r.dec.contains x && !r.com.contains x) = false

theorem fine_iff {t : Tab} {s : PS} {r : RS} (hn : t.types.length ≤ 1000) (h : Sim t s r) {ls : List Int} (hls : ∀ x, x ∈ ls → exI t.types.length x = true) : (meetAll t (okM s.dec s.com) ls).2 = true ↔ FineR t r ls := by
  obtain ⟨h1, h2⟩ := meetAll_res t (okM s.dec s.com) ls hls
  rw [h2]
  constructor
  · intro hall y x hy hr
    have hx := hall x ((h1 x).2 ⟨y, hy, hr⟩)
    rw [h.ok (wf_ex hn (hr.exists (hls y hy)))] at hx
    cases hb : (r.dec.contains x && !r.com.contains x)
    · rfl
    · rw [hb] at hx; cases hx
  · intro hall x hx
    obtain ⟨y, hy, hr⟩ := (h1 x).1 hx
    rw [h.ok (wf_ex hn (hr.exists (hls y hy))), hall y x hy hr]
    rfl

theorem freezeR_fine {t : Tab} {r : RS} {ty : Int} (hty : exI t.types.length ty = true) : (freezeR t r ty).2 = true ↔ FineR t r [ty] := by
  have hnd := (needs_res t ty hty).2
  unfold freezeR
  split
  · rename_i hany
    simp only [Bool.false_eq_true, false_iff]
    intro hf
    obtain ⟨x, hx, hb⟩ := List.any_eq_true.1 hany
    rw [hf ty x (by simp) ((hnd x).1 hx)] at hb
    cases hb
  · rename_i hany
    simp only [true_iff]
    intro y x hy hr
    simp at hy
    subst hy
    cases hb : (r.dec.contains x && !r.com.contains x)
    · rfl
    · exact absurd (List.any_eq_true.2 ⟨x, (hnd x).2 hr, hb⟩) hany

theorem freezeR_yes {t : Tab} {r : RS} {ty : Int} (hty : exI t.types.length ty = true) (h : FineR t r [ty]) : freezeR t r ty = ({ r with frz := (needs t ty).foldl withR r.frz }, true) := by
  have h2 := (freezeR_fine (r := r) hty).2 h
  unfold freezeR at h2 ⊢
  split
  · rename_i hany; rw [if_pos hany] at h2; cases h2
  · rfl
theorem freezeR_no {t : Tab} {r : RS} {ty : Int} (hty : exI t.types.length ty = true) (h : ¬ FineR t r [ty]) : freezeR t r ty = (r, false) := by
  have h2 : ¬ (freezeR t r ty).2 = true := fun e => h ((freezeR_fine (r := r) hty).1 e)
  unfold freezeR at h2 ⊢
  split
  · rfl
  · rename_i hany; rw [if_neg hany] at h2; exact absurd rfl h2

/-- The reference freezes a list. -/
theorem freezeAll {t : Tab} : ∀ (ls : List Int) (r : RS), (∀ x, x ∈ ls → exI t.types.length x = true) → FineR t r ls → Asc r.frz →
    let r' := ls.foldl (fun s x => (freezeR t s x).1) r
    r'.dec = r.dec ∧ r'.com = r.com ∧ r'.con = r.con ∧ Asc r'.frz ∧ ∀ x, x ∈ r'.frz ↔ x ∈ r.frz ∨ ∃ y, y ∈ ls ∧ Reach t y x := by
  intro ls
  induction ls with
  | nil => intro r _ _ ha; exact ⟨rfl, rfl, rfl, ha, by simp⟩
  | cons a ls ih =>
    intro r hex hf ha
    have hae := hex a (by simp)
    have h1 := freezeR_yes (r := r) hae (fun y x hy hr => hf y x (by simp at hy; simp [hy]) hr)
    have hnd := needs_res t a hae
    have hfa := foldl_with_asc (needs t a) r.frz ha
    have h2 := ih (freezeR t r a).1 (fun x hx => hex x (by simp [hx])) (by
      rw [h1]
      exact fun y x hy hr => hf y x (by simp [hy]) hr) (by rw [h1]; exact hfa.1)
    simp only [List.foldl_cons]
    rw [h1] at h2 ⊢
    refine ⟨h2.1, h2.2.1, h2.2.2.1, h2.2.2.2.1, fun x => ?_⟩
    rw [h2.2.2.2.2 x, hfa.2, hnd.2]
    constructor
    · rintro ((h | h) | ⟨y, hy, h⟩)
      · exact .inr ⟨a, by simp, h⟩
      · exact .inl h
      · exact .inr ⟨y, by simp [hy], h⟩
    · rintro (h | ⟨y, hy, h⟩)
      · exact .inl (.inr h)
      · rcases List.mem_cons.1 hy with rfl | hy
        · exact .inl (.inl h)
        · exact .inr ⟨y, hy, h⟩

/-- The states behind freezing a list that is fine. -/
theorem Sim.freeze {t : Tab} {s : PS} {r r' : RS} {ls : List Int} (h : Sim t s r) (hn : t.types.length ≤ 1000) (hls : ∀ x, x ∈ ls → exI t.types.length x = true) (hf : FineR t r ls)
    (h1 : r'.dec = r.dec) (h2 : r'.com = r.com) (h3 : r'.con = r.con) (h4 : Asc r'.frz) (h5 : ∀ x, x ∈ r'.frz ↔ x ∈ r.frz ∨ ∃ y, y ∈ ls ∧ Reach t y x) :
    Sim t { s with frz := frzF s.frz (meetAll t (okM s.dec s.com) ls) } r' where
  dec := by rw [h1]; exact h.dec
  com := by rw [h2]; exact h.com
  con := by rw [h3]; exact h.con
  frz := fun x hx => by
    show (frzF s.frz (meetAll t (okM s.dec s.com) ls) x).getD false = _
    rw [frzF_read h hls hx, (fine_iff hn h hls).2 hf, Bool.eq_iff_iff]
    simp only [Bool.or_eq_true, Bool.and_true, has_iff]
    rw [h5, (meetAll_res t _ ls hls).1]
  ascD := by rw [h1]; exact h.ascD
  ascC := by rw [h2]; exact h.ascC
  ascF := h4
  exD := by rw [h1]; exact h.exD
  exC := by rw [h2]; exact h.exC
  exF := fun x hx => by
    rcases (h5 x).1 hx with hx | ⟨y, hy, hr⟩
    · exact h.exF x hx
    · exact hr.exists (hls y hy)
  conE := by rw [h3]; exact h.conE
  conN := by rw [h3]; exact h.conN

/-- Behind a refused freezing nothing reads otherwise. -/
theorem Sim.refused {t : Tab} {s : PS} {r : RS} {ls : List Int} (h : Sim t s r) (hn : t.types.length ≤ 1000) (hls : ∀ x, x ∈ ls → exI t.types.length x = true) (hf : ¬ FineR t r ls) {x : Int} (hx : Wf x) :
    (frzF s.frz (meetAll t (okM s.dec s.com) ls) x).getD false = r.frz.contains x := by
  rw [frzF_read h hls hx]
  have : (meetAll t (okM s.dec s.com) ls).2 = false := by
    cases hq : (meetAll t (okM s.dec s.com) ls).2
    · rfl
    · exact absurd ((fine_iff hn h hls).1 hq) hf
  rw [this]
  simp
end Go.Proofs.Ytbjnoffdafpkgaa
