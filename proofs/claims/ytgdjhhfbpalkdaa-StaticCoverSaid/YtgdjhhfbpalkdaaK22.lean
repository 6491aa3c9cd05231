/- Lists of lists of choices, cut to twenty of twenty. Choices of a list that lies, its bounds as rows. Regions as in K18, whose chains of operations are longer. -/
import Derived.Test.YtgdjhhfbpalkdaaX1
import Derived.Test.YtgdjhhfbpalkdaaL6
import Derived.Test.YtgdjhhfbpalkdaaP5
import Derived.Test.YtgdjhhfbpalkdaaO1
import Derived.Test.YtgdjhhfbpalkdaaK18
namespace Go.Proofs.Ytgdjhhfbpalkdaa
open Go.RowKit
def cutOp (x h : Value) : Sem Next := do return .value (← Instr.sliceAt 49 x none (some h) none)
@[go_sem ↓] theorem execOp_cutOp (ρ : Operand → Value) (dst : Option Tmp) (x h : Operand) (ty : TypeId) (pos : String) (after : Array Edge) (guard : Option (Nat × Bool)) :
    execOp ρ { dst, op := .slice 49 x none (some h) none, type := ty, pos, after, guard } = cutOp (ρ x) (ρ h) := by simp [execOp, cutOp]
theorem add_zero (a : Addr) : a.add 0 = a := by
  cases a
  rename_i b o p
  cases p <;> simp [Addr.add]
theorem Try.under_cl : Try.prog.underlying 49 = some (.slice (Try.prog.elem 49)) := by kernel_rfl
theorem Try.size_cl (w : World) : (sizeOf (Try.prog.elem 49)).run Try.prog w = .ok 2 w := by kernel_rfl
@[go_sem] theorem run_cutOp (w : World) (a : Option Addr) (len cap : Nat) (h : Int) (h0 : 0 ≤ h) (h1 : h ≤ (cap : Int)) : Sem.run Try.prog (cutOp (.slice a len cap) (.int .i64 h)) w = .ok (.value (.slice a h.toNat cap)) w := by
  unfold cutOp
  simp only [Sem.run_bind]
  rw [run_sliceAt_slice w 49 _ _ _ _ Try.under_cl, run_slice_h w 49 a len cap Try.under_cl .i64 h h0 h1, Try.size_cl]
  simp only [Result.andThen_ok, Sem.run_pure, sliced, Nat.zero_mul, Nat.sub_zero]
  have e : a.map (fun x => x.add 0) = a := by
    cases a <;> simp [add_zero]
  rw [e]
  split <;> rfl
def cutC (y : ChL) : ChL := ⟨y.a, y.c, y.l.take 20⟩
def cutK (ls : List ChL) : List ChL := (ls.take 20).map cutC
theorem cutK_len (ls : List ChL) : (cutK ls).length = min 20 ls.length := by simp [cutK]
theorem cutK_get {ls : List ChL} {k : Nat} {y : ChL} (h : ls[k]? = some y) (hk : k < 20) : (cutK ls)[k]? = some (cutC y) := by
  simp [cutK, List.getElem?_take_of_lt hk, h]
theorem cutK_mem {ls : List ChL} {x : ChL} (h : x ∈ cutK ls) : ∃ y, y ∈ ls ∧ x = cutC y := by
  obtain ⟨y, h1, h2⟩ := List.mem_map.1 h
  exact ⟨y, List.mem_of_mem_take h1, h2.symm⟩
theorem rows_take {α : Type} {m : Nat} {cells : α → List Value} {w : World} {a : Option Addr} {l : List α} (h : RowsAt α m cells w a l) (q : Nat) : RowsAt α m cells w a (l.take q) := by
  rcases h with h | ⟨b, o, ha, hr⟩
  · left
    rw [h]
    simp
  · refine .inr ⟨b, o, ha, fun j r hj => hr j r ?_⟩
    rw [List.getElem?_take] at hj
    split at hj
    · exact hj
    · cases hj
theorem cut_in {w : World} {n : Nat} {y : ChL} (h : ChLIn w n y) : RowsAt ChV 2 ChV.cells w (cutC y).a (cutC y).l ∧ (∀ z, z ∈ (cutC y).l → ChIn w n z) ∧ (cutC y).l.length ≤ 20 :=
  ⟨rows_take h.rows 20, fun z hz => h.all z (List.mem_of_mem_take hz), by simp [cutC]; omega⟩
theorem Try.infoClM : (Try.prog.info? 49).map (fun i => (i.zero, i.size, i.bytes)) = some (some (.slice none 0 0), 1, 24) := by kernel_rfl
theorem Try.cl_parts : ∃ i, Try.prog.info? 49 = some i ∧ i.zero = some (.slice none 0 0) ∧ i.size = 1 ∧ i.bytes = 24 := by
  have h := Try.infoClM
  cases hi : Try.prog.info? 49 with
  | none => simp [hi] at h
  | some i => simp [hi] at h; exact ⟨i, rfl, h⟩
def clsC (l : List ChL) : List Value := (l.map ChL.cells).flatten
theorem clsC_snoc (l : List ChL) (y : ChL) : clsC (l ++ [y]) = clsC l ++ [.slice y.a y.l.length y.c] := by simp [clsC, ChL.cells]
/-- What the first loop holds. -/
def CutL (K : List ChL) (w1 : World) (v7 i : Value) (wr : World) : Prop := ∃ k : Nat, k ≤ K.length ∧ i = .int .i64 k ∧ wr.ownsRow w1.heap.size 49 1 v7 k (clsC (K.take k)) ∧ Kept [] w1 wr
end Go.Proofs.Ytgdjhhfbpalkdaa
namespace Go.Proofs.Ytgdjhhfbpalkdaa
open Go.RowKit
/-- Bounds in a slice, with what else Choices returns. -/
def SP.bt (l : List Bd) (o : Bool) (e : Int) : SP := ⟨fun v w => ∃ A c, v = .tuple #[.slice A l.length c, .bool o, .int .i64 e] ∧ RowsAt Bd 2 bdC w A l, fun _ _ _ ⟨A, c, h1, h2⟩ hk => ⟨A, c, h1, h2.kept hk⟩⟩
def SP.bl (l : List Bd) : SP := ⟨fun v w => ∃ A c, v = .slice A l.length c ∧ RowsAt Bd 2 bdC w A l, fun _ _ _ ⟨A, c, h1, h2⟩ hk => ⟨A, c, h1, h2.kept hk⟩⟩
def RetBt (l : List Bd) (o : Bool) (x : Int) (w : World) (e : Ending) (w' : World) : Prop := ∃ A c, e = .returned (.tuple #[.slice A l.length c, .bool o, .int .i64 x]) ∧ RowsAt Bd 2 bdC w' A l ∧ Kept [] w w'
theorem choices_val (w : World) (v : TabV) (t : Tab) (sub : Int) (y : ChL) (n : Nat) (hT : TabIn w v t) (hy : RowsAt ChV 2 ChV.cells w y.a y.l ∧ (∀ z, z ∈ y.l → ChIn w n z) ∧ y.l.length ≤ 1000) :
    Calls Try.prog 17 #[.agg (v.cells t), .int .i64 sub, .slice y.a y.l.length y.c] w (RetBt (chB t n sub y.l) (chO t n sub y.l) (chE t n sub y.l) w) := by
  refine (Choices_any w v t sub y.a y.c y.l n hT hy.1 hy.2.1 hy.2.2).mono ?_
  rintro e w' ⟨bs, rfl, hown, hk⟩
  obtain ⟨A, c, rfl, _, _, _, hr⟩ := rows_own (α := Bd) (m := 2) (cells := bdC) (l := (choicesP t n sub y.l).1) hown (fun _ => rfl) rfl
  exact ⟨A, c, rfl, hr, hk⟩
theorem wrong_step {t : Tab} {n : Nat} {sub : Int} {K : List ChL} {j : Nat} {y : ChL} (h : K[j]? = some y) :
    wrongTo t n sub K (j + 1) = (wrongTo t n sub K j || (chO t n sub y.l && (decide (j + 1 < K.length) || decide (1 < y.l.length)))) := by
  have e : K.getD j default = y := by simp [List.getD_eq_getElem?_getD, h]
  show (wrongTo t n sub K j || (chO t n sub (K.getD j default).l && (decide (j + 1 < K.length) || decide (1 < (K.getD j default).l.length)))) = _
  rw [e]
theorem rest_step {t : Tab} {n : Nat} {sub : Int} {K : List ChL} {j : Nat} {y : ChL} (h : K[j]? = some y) : restTo t n sub K (j + 1) = (restTo t n sub K j || chO t n sub y.l) := by
  have e : K.getD j default = y := by simp [List.getD_eq_getElem?_getD, h]
  show (restTo t n sub K j || chO t n sub (K.getD j default).l) = _
  rw [e]
theorem cnt_step {t : Tab} {n : Nat} {sub : Int} {K : List ChL} {j : Nat} {y : ChL} (h : K[j]? = some y) (v : Int) : cntTo t n sub K v (j + 1) = cntTo t n sub K v j + (chB t n sub y.l).countP (hasB v) := by
  have e : K.getD j default = y := by simp [List.getD_eq_getElem?_getD, h]
  rw [cntTo_step, e]
theorem others_some {t : Tab} {n : Nat} {sub : Int} {l : List ChV} (h : chO t n sub l = true) : 0 < l.length := by
  cases l with
  | nil => cases h
  | cons a l => simp
theorem cnt_le {t : Tab} {n : Nat} {sub : Int} {K : List ChL} (h : ∀ x, x ∈ K → x.l.length ≤ 1000) (hk : K.length ≤ 20) (v : Int) (j : Nat) (hj : j ≤ K.length) : cntTo t n sub K v j ≤ 20000 := by
  have h1 := all_len (t := t) (n := n) (sub := sub) h j hj
  have h2 := List.countP_le_length (p := hasB v) (l := allTo t n sub K j)
  unfold cntTo
  omega
theorem chB_len {t : Tab} {n : Nat} {sub : Int} {y : ChL} (h : y.l.length ≤ 1000) : (chB t n sub y.l).length ≤ 1000 := Nat.le_trans (choices_len t n sub y.l) h
theorem countP_snoc {l : List Bd} {k : Nat} {b : Bd} (h : l[k]? = some b) (v : Int) : (l.take (k + 1)).countP (hasB v) = (l.take k).countP (hasB v) + (if hasB v b = true then 1 else 0) := by
  rw [take_snoc h, List.countP_append]
  simp [List.countP_cons]
/-- The loops' states. -/
def RelA (t : Tab) (n : Nat) (sub : Int) (K : List ChL) (w0 : World) (v13 v14 i : Value) (wr : World) : Prop :=
  ∃ j : Nat, j ≤ K.length ∧ i = .int .i64 j ∧ v13 = .bool (!wrongTo t n sub K j) ∧ v14 = .bool (restTo t n sub K j) ∧ Kept [] w0 wr
def RelV (t : Tab) (n : Nat) (sub : Int) (K : List ChL) (lo : Int) (C : Nat) (w0 : World) (v13 v19 : Value) (wr : World) : Prop :=
  ∃ c : Nat, c ≤ C ∧ v19 = .int .i64 (lo + c) ∧ v13 = .bool (rightTo t n sub K lo c) ∧ Kept [] w0 wr
def RelJ (t : Tab) (n : Nat) (sub : Int) (K : List ChL) (v : Int) (w0 : World) (v20 i : Value) (wr : World) : Prop :=
  ∃ j : Nat, j ≤ K.length ∧ i = .int .i64 j ∧ v20 = .int .i64 (cntTo t n sub K v j : Nat) ∧ Kept [] w0 wr
def RelB (bs : List Bd) (v : Int) (m : Nat) (w0 : World) (v20 i : Value) (wr : World) : Prop :=
  ∃ k : Nat, k ≤ bs.length ∧ i = .int .i64 k ∧ v20 = .int .i64 ((m + (bs.take k).countP (hasB v) : Nat) : Int) ∧ Kept [] w0 wr
end Go.Proofs.Ytgdjhhfbpalkdaa
namespace Go.Proofs.Ytgdjhhfbpalkdaa
open Go.RowKit
section
variable {P : Program} {md : Region.Mode} {ops : Array Oper} {Q : Exit → Act → World → Prop} {w0 : World}
/-- All but the heads wait for it, however long the chain. -/
def heldD (md : Region.Mode) (ops : Array Oper) (hd : List Nat) (i : Nat) : Bool := (List.range ops.size).all fun t => hd.contains t || viaT md ops 12 t i
theorem heldD_spec {i : Nat} {done : Array Bool} {hd : List Nat} (h : heldD md ops hd i = true) (hc : Closed md ops done) (hun : done.getD i true = false) : ∀ t, t ∉ hd → t ∉ Region.ready md ops done := fun t ht hr => by
  obtain ⟨_, ot, hot, _⟩ := mem_ready.1 hr
  have := List.all_eq_true.1 h t (List.mem_range.2 (Array.getElem?_eq_some_iff.1 hot).1)
  simp only [Bool.or_eq_true] at this
  rcases this with h1 | h1
  · exact ht (by simpa using h1)
  · exact viaT_ready hc hun h1 hr

def checkD (l : List Oper) (S : List PSp) (size : Nat) : Bool :=
  decide (S.length ≤ l.length) && dstsP S l && (S.all fun s => decide (s.d < size)) && nodupB (S.map (·.d)) && depsP .any S S l &&
  ((List.range S.length).all fun i => heldD .any l.toArray (List.range S.length) i) && edgesP .any 0 (l.take S.length) &&
  seqL .any l.toArray (List.range' S.length (l.length - S.length)) (canon S.length l.length)

theorem AnyRD {l : List Oper} {S : List PSp} {a : Act} (hB : checkD l S a.tmps.size = true)
    (hO : obls P l.toArray Q w0 S (fun vs => fill (S.map (·.d)) vs a) S l)
    (hT : ∀ vs w', Kept [] w0 w' → allGiven vs w' S → wpList P l.toArray Q (l.drop S.length) (fill (S.map (·.d)) vs a) w') :
    ∀ (k : Nat) (done : Array Bool) (vs : Nat → Value) (w' : World), Closed .any l.toArray done → done.size = l.length → (∀ t, S.length ≤ t → done.getD t false = false) → Kept [] w0 w' →
      (∀ (i : Nat) s, S[i]? = some s → done.getD i false = true → s.sp.p (vs s.d) w') → cntU done S.length = k → wpAny P .any l.toArray Q (k + (l.length - S.length)) done (fill (S.map (·.d)) vs a) w' := by
  simp only [checkD, Bool.and_eq_true, decide_eq_true_eq, List.all_eq_true] at hB
  obtain ⟨⟨⟨⟨⟨⟨⟨b1, b2⟩, b3⟩, b4⟩, b5⟩, b6⟩, b7⟩, b8⟩ := hB
  intro k
  induction k with
  | zero =>
    intro done vs w' hc hs ht hk hp h0
    have hd : done = canon S.length l.length := by
      apply Array.ext
      · simp [canon, hs]
      · intro i h1 h2
        have e1 : done.getD i true = done[i] := by simp [Array.getD, h1]
        have e2 : done.getD i false = done[i] := by simp [Array.getD, h1]
        by_cases c : i < S.length
        · rw [← e1, cntU_zero h0 i c]
          simp [canon, c]
        · rw [← e2, ht i (by omega)]
          simp [canon, c]
    subst hd
    have h1 := hT vs w' hk (allGiven_of fun i s hi => hp i s hi (by
      have hil := (List.getElem?_eq_some_iff.1 hi).1
      have hil2 : i < l.length := by omega
      simp [canon, Array.getD, hil, hil2]))
    rw [← pick_drop l (l.length - S.length) S.length (by omega)] at h1
    have := wpAny_of_seqL (P := P) (md := .any) (ops := l.toArray) (Q := Q) (l := l) rfl (List.range' S.length (l.length - S.length)) (canon S.length l.length) _ w' (fun i hi => by
      have := List.mem_range'.1 hi
      omega) b8 h1
    rw [List.length_range'] at this
    rw [Nat.zero_add]
    exact this
  | succ k ih =>
    intro done vs w' hc hs ht hk hp h0
    obtain ⟨m, hm1, hm2, hm3⟩ := cntU_some (done := done) (m := S.length) (by omega)
    have hml : m < l.length := by omega
    have hmr : m ∈ Region.ready .any l.toArray done := by
      refine mem_ready.2 ⟨hm2, l[m], by simp [hml], fun e he hb => ?_⟩
      have := edgesP_at b7 (i := m) (o := l[m]) (by rw [List.getElem?_take_of_lt hm1]; simp [hml]) e he hb
      have h3 := hm3 e.on (by omega)
      have hlt : e.on < done.size := by omega
      simpa [Array.getD, hlt] using h3
    rw [show k + 1 + (l.length - S.length) = (k + (l.length - S.length)) + 1 by omega]
    refine ⟨fun h => by rw [h] at hmr; simp at hmr, fun i hi => ?_⟩
    have hin : i < S.length := by
      rcases Nat.lt_or_ge i S.length with h | h
      · exact h
      · exact absurd hi (heldD_spec (b6 m (List.mem_range.2 hm1)) hc hm2 i (by simp [h]))
    obtain ⟨s, hsi⟩ : ∃ s, S[i]? = some s := ⟨_, List.getElem?_eq_getElem hin⟩
    obtain ⟨o, ho, hod⟩ := dstsP_at b2 hsi
    have ho2 : l.toArray[i]? = some o := by simpa using ho
    obtain ⟨hun, o', ho', hall⟩ := mem_ready.1 hi
    obtain rfl : o' = o := Option.some.inj (ho'.symm.trans ho2)
    have hgv : given S vs w' s.deps := given_of fun d hd => by
      obtain ⟨e, he, hb, t, ht1, ht2⟩ := depsP_at b5 hsi ho d hd
      have h1 := hp _ t ht1 (hall e he hb)
      rw [← ht2, look_at b4 ht1]
      exact h1
    have hone := obls_at hO hsi ho vs w' hk hgv
    have h2 := wpOp_of_one (P := P) (ops := l.toArray) (Q := Q) ho2 (fun a' w'' h => h.2.1) hone
    refine wpOp_mono ?_ h2
    rintro a' w'' ⟨⟨hk2, _, hps⟩, v, hv⟩
    have hdm : s.d ∈ S.map (·.d) := List.mem_map.2 ⟨s, List.mem_of_getElem? hsi, rfl⟩
    have hdl : s.d < a.tmps.size := by
      have := b3 s (List.mem_of_getElem? hsi)
      simpa using this
    rw [hod, fill_put hdm] at hv
    subst hv
    rw [fill_slot hdm hdl] at hps
    have hil : i < done.size := by omega
    refine ih (done.setIfInBounds i true) (updV vs s.d v) w'' (hc.set hi) (by simpa using hs) (fun t htn => ?_) (hk.trans hk2) (fun j t htj hdj => ?_) ?_
    · have := ht t htn
      have hne : i ≠ t := by omega
      rw [getD_set_ne false hne]
      exact this
    · by_cases e : j = i
      · subst e
        rw [hsi] at htj
        cases htj
        exact hps
      · have hne : t.d ≠ s.d := fun h => e (nodup_at b4 htj hsi h)
        have hdj2 : done.getD j false = true := by rwa [getD_set_ne false (fun h => e h.symm)] at hdj
        have h1 := hp j t htj hdj2
        have h3 : updV vs s.d v t.d = vs t.d := by simp [updV, hne]
        rw [h3]
        exact t.sp.st _ _ _ h1 hk2
    · have := cntU_set hun (m := S.length) hin
      omega

/-- Whatever order: one proof an operation, then the tail. -/
theorem wp_region_deep {id : Nat} {a : Act} {w : World} {l : List Oper} (S : List PSp) (hm : P.follows .mixedOrders = true) (hB : checkD l S a.tmps.size = true)
    (h : ∃ A : (Nat → Value) → Act, (∀ vs, puts vs (S.map (·.d)) a = A vs) ∧ obls P l.toArray Q w S A S l ∧
      ∀ vs w', Kept [] w w' → allGiven vs w' S → wpList P l.toArray Q (l.drop S.length) (A vs) w') :
    (Code.region id l.toArray true).wp P Q a w := by
  obtain ⟨A, hA, h1, h2⟩ := h
  have hA2 : A = fun vs => fill (S.map (·.d)) vs a := by
    funext vs
    rw [fill_puts]
    exact (hA vs).symm
  subst hA2
  have hsz : l.toArray.size = l.length := by simp
  refine wp_region_any hm ?_
  have hle : S.length ≤ l.length := by
    simp only [checkD, Bool.and_eq_true, decide_eq_true_eq] at hB
    exact hB.1.1.1.1.1.1.1
  have hcnt : ∀ m, m ≤ l.length → cntU (Array.replicate l.length false) m = m := by
    intro m
    induction m with
    | zero => intro _; rfl
    | succ m ih =>
      intro hml
      have : (Array.replicate l.length false).getD m true = false := by simp [Array.getD, show m < l.length by omega]
      simp only [cntU, ih (by omega), this]
      simp
  have key := AnyRD (P := P) (Q := Q) (w0 := w) (a := a) hB h1 h2 S.length (Array.replicate l.length false) (fun s => a.tmps.getD s undef) { w with drawn := w.drawn + 1 }
    (by simpa using Closed.none (md := .any) (ops := l.toArray)) (by simp) (fun t _ => by simp [Array.getD]) ⟨rfl, rfl, rfl, Nat.le_refl _, fun _ _ _ => rfl⟩ (fun i s _ hd => by simp [Array.getD] at hd) (hcnt _ hle)
  rw [fill_self] at key
  rw [show S.length + (l.length - S.length) = l.length by omega] at key
  rw [hsz]
  exact key
end
end Go.Proofs.Ytgdjhhfbpalkdaa
