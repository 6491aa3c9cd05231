/- meet: the closure of freeze. -/
import Derived.Test.YtbjnoffdafpkgaaM2
namespace Go.Proofs.Ytbjnoffdafpkgaa
open Go.RowKit

def memM (met : List Int) : Int → Option Bool := fun x => if met.contains x then some true else none

abbrev BM := BMap Try.prog 3 4
theorem bm_lookup {w : World} {b n : Nat} {M : Int → Option Bool} (h : BM w b n M) {x : Int} (hx : (Lit.int .i64 x).wf = true) : (Instr.lookup 64 (.map (some b)) (.int .i64 x) false).run Try.prog w = .ok (.bool ((M x).getD false)) w :=
  h.lookup Try.underlying3 Try.underlying4 Try.underlying64 Try.zeroValue4 hx
theorem bm_update {w : World} {b n : Nat} {M : Int → Option Bool} (h : BM w b n M) (hn : n < maxLen) {x : Int} (hx : (Lit.int .i64 x).wf = true) (v : Bool) :
    ∃ w', (Instr.mapUpdate 64 (.map (some b)) (.int .i64 x) (.bool v)).run Try.prog w = .ok () w' ∧ BM w' b (n + 1) (updM M x v) ∧ w.grownBy w' (some b) ∧ w'.heap.size = w.heap.size :=
  h.update Try.underlying3 Try.underlying4 Try.underlying64 hn hx v

/-- The state's struct in block S. -/
structure StAt (v : TabV) (t : Tab) (S dB cB fB kB : Nat) (w : World) : Prop where
  tab : w.rangeAt S 0 (v.cells t).toList
  dec : w.cell? ⟨S, 5, none⟩ = some (.map (some dB))
  com : w.cell? ⟨S, 6, none⟩ = some (.map (some cB))
  frz : w.cell? ⟨S, 7, none⟩ = some (.map (some fB))
  con : w.cell? ⟨S, 8, none⟩ = some (.map (some kB))

theorem StAt.kept {v : TabV} {t : Tab} {S dB cB fB kB : Nat} {w w' : World} {X : List Nat} (h : StAt v t S dB cB fB kB w) (hk : Kept X w w') (hS : S ∉ X) : StAt v t S dB cB fB kB w' :=
  ⟨fun j u hu => hk.cell (h.tab j u hu) hS, hk.cell h.dec hS, hk.cell h.com hS, hk.cell h.frz hS, hk.cell h.con hS⟩

structure MEnv (v : TabV) (t : Tab) (B S dB cB fB kB Mp Fp Sp Rp mB nd nc : Nat) (dec com : Int → Option Bool) (w : World) : Prop where
  tab : TabUnder B w v t
  small : Small t
  st : StAt v t S dB cB fB kB w
  mp : w.cell? ⟨Mp, 0, none⟩ = some (.map (some mB))
  sp : w.cell? ⟨Sp, 0, none⟩ = some (.pointer (some ⟨S, 0, none⟩))
  rp : w.cell? ⟨Rp, 0, none⟩ = some (.func (.func 61) #[] #[.pointer (some ⟨Mp, 0, none⟩), .pointer (some ⟨Fp, 0, none⟩), .pointer (some ⟨Sp, 0, none⟩), .pointer (some ⟨Rp, 0, none⟩)])
  decl : BM w dB nd dec
  comp : BM w cB nc com
  n0 : S ∉ [mB, Fp]
  n1 : Mp ∉ [mB, Fp]
  n2 : Sp ∉ [mB, Fp]
  n3 : Rp ∉ [mB, Fp]
  n4 : dB ∉ [mB, Fp]
  n5 : cB ∉ [mB, Fp]
  n6 : mB ≠ Fp
  b1 : B ≤ mB
  b2 : B ≤ Fp

theorem MEnv.kept {v : TabV} {t : Tab} {B S dB cB fB kB Mp Fp Sp Rp mB nd nc : Nat} {dec com : Int → Option Bool} {w w' : World} (h : MEnv v t B S dB cB fB kB Mp Fp Sp Rp mB nd nc dec com w) (hk : Kept [mB, Fp] w w') :
    MEnv v t B S dB cB fB kB Mp Fp Sp Rp mB nd nc dec com w' :=
  { h with
    tab := h.tab.kept hk (fun x hx => by have := h.b1; have := h.b2; simp at hx; omega)
    st := h.st.kept hk h.n0
    mp := hk.cell h.mp h.n1
    sp := hk.cell h.sp h.n2
    rp := hk.cell h.rp h.n3
    decl := h.decl.block (hk.block _ h.decl.lt h.n4)
    comp := h.comp.block (hk.block _ h.comp.lt h.n5) }

def okM (dec com : Int → Option Bool) (x : Int) : Bool := !(dec x).getD false || (com x).getD false

/-- What meet leaves. -/
def MPost (Fp mB : Nat) (r : List Int × Bool) (w : World) (e : Ending) (w' : World) : Prop :=
  e = .returned (.tuple #[]) ∧ BM w' mB r.1.length (memM r.1) ∧ w'.heap[Fp]? = some (.cells #[.bool r.2] 4 (0, 0)) ∧ Kept [mB, Fp] w w'

theorem wf_of_exI {n : Nat} {x : Int} (hn : n ≤ 1000) (h : exI n x = true) : (Lit.int .i64 x).wf = true := by
  have h0 : 0 ≤ x ∧ x < n := by simpa [exI] using h
  exact WalkArith.wf_i64 (by omega)

theorem memM_add (met : List Int) (x : Int) : updM (memM met) x true = memM (met ++ [x]) := by
  funext y
  unfold updM memM
  by_cases h : y = x
  · subst h; simp
  · simp [h]

/-- The invariant of the search. -/
def MInv (t : Tab) (met : List Int) : Prop := (∀ x, x ∈ met → exI t.types.length x = true) ∧ met.Nodup

theorem MInv.add {t : Tab} {met : List Int} {x : Int} (h : MInv t met) (hx : exI t.types.length x = true) (hn : met.contains x = false) : MInv t (met ++ [x]) := by
  refine ⟨fun y hy => ?_, ?_⟩
  · rcases List.mem_append.1 hy with hy | hy
    · exact h.1 y hy
    · simp at hy; subst hy; exact hx
  · rw [List.nodup_append]
    refine ⟨h.2, by simp, fun a ha b hb => ?_⟩
    simp at hb
    subst hb
    intro e
    subst e
    have : met.contains a = true := by rw [List.contains_iff_mem]; exact ha
    rw [this] at hn
    cases hn

theorem meetF_inv (t : Tab) (ok : Int → Bool) : ∀ (f : Nat) (ty : Int) (s : List Int × Bool), exI t.types.length ty = true → MInv t s.1 → MInv t (meetF t ok f ty s).1 ∧ s.1.length ≤ (meetF t ok f ty s).1.length := by
  intro f
  induction f with
  | zero => intro ty s _ h; exact ⟨h, Nat.le_refl _⟩
  | succ f ih =>
    intro ty s hty h
    have hfold : ∀ (l : List Int) (s : List Int × Bool), (∀ p, p ∈ l → exI t.types.length p = true) → MInv t s.1 → MInv t (l.foldl (fun s p => meetF t ok f p s) s).1 ∧ s.1.length ≤ (l.foldl (fun s p => meetF t ok f p s) s).1.length := by
      intro l
      induction l with
      | nil => intro s _ h; exact ⟨h, Nat.le_refl _⟩
      | cons p l ihl =>
        intro s hl hs
        have h1 := ih p s (hl p (by simp)) hs
        have h2 := ihl (meetF t ok f p s) (fun q hq => hl q (by simp [hq])) h1.1
        exact ⟨h2.1, Nat.le_trans h1.2 h2.2⟩
    unfold meetF
    split
    · exact ⟨h, Nat.le_refl _⟩
    · rename_i hc
      have hc' : s.1.contains ty = false := by simpa using hc
      have h1 := hfold (partsT t ty) (s.1 ++ [ty], s.2 && ok ty) (fun p hp => (mem_partsT hp).1) (h.add hty hc')
      refine ⟨h1.1, Nat.le_trans ?_ h1.2⟩
      simp

theorem MInv.length_le {t : Tab} {met : List Int} (h : MInv t met) : met.length ≤ t.types.length := by
  have h1 : met.map Int.toNat ⊆ List.range t.types.length := by
    intro y hy
    obtain ⟨x, hx, rfl⟩ := List.mem_map.1 hy
    have := h.1 x hx
    have h0 : 0 ≤ x ∧ x < t.types.length := by simpa [exI] using this
    rw [List.mem_range]; omega
  have h2 : (met.map Int.toNat).Nodup := by
    unfold List.Nodup
    rw [List.pairwise_map]
    refine List.Pairwise.imp_of_mem ?_ h.2
    intro a b ha hb hne
    have h0 : 0 ≤ a ∧ a < t.types.length := by simpa [exI] using h.1 a ha
    have h1 : 0 ≤ b ∧ b < t.types.length := by simpa [exI] using h.1 b hb
    omega
  have := h2.length_le_of_subset h1
  simpa using this
end Go.Proofs.Ytbjnoffdafpkgaa
