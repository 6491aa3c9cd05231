/- Choices. -/
import Derived.Test.YtgdjhhfbpalkdaaGreatV17
import Derived.Deep.AppendLies
namespace Go.Proofs.YtgdjhhfbpalkdaaGreat
open Go.RowKit
theorem Tryz.infoBdM : (Tryz.prog.info? 43).map (fun i => (i.zero, i.size, i.bytes)) = some (some (.agg #[.int .i64 0, .int .i64 0]), 2, 16) := by kernel_rfl
theorem Tryz.bd_parts : ∃ i, Tryz.prog.info? 43 = some i ∧ i.zero = some (.agg #[.int .i64 0, .int .i64 0]) ∧ i.size = 2 ∧ i.bytes = 16 := by
  have h := Tryz.infoBdM
  cases hi : Tryz.prog.info? 43 with
  | none => simp [hi] at h
  | some i => simp [hi] at h; exact ⟨i, rfl, h⟩
def bdC (b : Bd) : List Value := [.int .i64 b.1, .int .i64 b.2]
theorem bdC_len (b : Bd) : (bdC b).length = 2 := rfl
def bdsC (l : List Bd) : List Value := (l.map bdC).flatten
theorem bdsC_snoc (l : List Bd) (b : Bd) : bdsC (l ++ [b]) = bdsC l ++ [.int .i64 b.1, .int .i64 b.2] := by simp [bdsC, bdC]
/-- The error of a choice that is not others. -/
def chErr (t : Tab) (n : Nat) (sub : Int) (c : ChV) : Int := if (choiceP t n c).2 = 0 then insideP t sub (choiceP t n c).1 else (choiceP t n c).2
abbrev ChSt := List Bd × Bool × Int
def chStep (t : Tab) (n : Nat) (sub : Int) (s : ChSt) (c : ChV) : ChSt :=
  if s.2.2 ≠ 0 then s else if c.kind = 3 then (s.1, true, 0)
  else if chErr t n sub c ≠ 0 then ([], false, chErr t n sub c)
  else if (choiceP t n c).1.1 ≤ (choiceP t n c).1.2 then (s.1 ++ [(choiceP t n c).1], s.2.1, 0) else s
def choicesP (t : Tab) (n : Nat) (sub : Int) (l : List ChV) : ChSt := l.foldl (chStep t n sub) ([], false, 0)
theorem fold_err {t : Tab} {n : Nat} {sub : Int} {s : ChSt} (h : s.2.2 ≠ 0) (l : List ChV) : l.foldl (chStep t n sub) s = s := by
  induction l with
  | nil => rfl
  | cons c l ih =>
    have : chStep t n sub s c = s := by unfold chStep; rw [if_pos h]
    rw [List.foldl_cons, this, ih]
/-- What is known behind the first k choices. -/
def ChAt (t : Tab) (n : Nat) (sub : Int) (l : List ChV) (k : Nat) (bs : List Bd) (o : Bool) : Prop := choicesP t n sub (l.take k) = (bs, o, 0)
theorem take_snoc {α : Type} {l : List α} {k : Nat} {y : α} (h : l[k]? = some y) : l.take (k + 1) = l.take k ++ [y] := by
  obtain ⟨h1, h2⟩ := List.getElem?_eq_some_iff.1 h
  rw [List.take_succ_eq_append_getElem h1, h2]
theorem ChAt.others {t : Tab} {n : Nat} {sub : Int} {l : List ChV} {k : Nat} {bs : List Bd} {o : Bool} {y : ChV} (h : ChAt t n sub l k bs o) (hy : l[k]? = some y) (hk : y.kind = 3) : ChAt t n sub l (k + 1) bs true := by
  unfold ChAt choicesP at *
  rw [take_snoc hy, List.foldl_append, h]
  simp [chStep, hk]
theorem ChAt.err {t : Tab} {n : Nat} {sub : Int} {l : List ChV} {k : Nat} {bs : List Bd} {o : Bool} {y : ChV} (h : ChAt t n sub l k bs o) (hy : l[k]? = some y) (hk : y.kind ≠ 3) (he : chErr t n sub y ≠ 0) : choicesP t n sub l = ([], false, chErr t n sub y) := by
  have h1 : choicesP t n sub (l.take (k + 1)) = ([], false, chErr t n sub y) := by
    unfold ChAt choicesP at *
    rw [take_snoc hy, List.foldl_append, h]
    simp [chStep, hk, he]
  unfold choicesP at *
  have e : l.foldl (chStep t n sub) ([], false, 0) = (l.drop (k + 1)).foldl (chStep t n sub) ((l.take (k + 1)).foldl (chStep t n sub) ([], false, 0)) := by
    rw [← List.foldl_append, List.take_append_drop]
  rw [e, h1]
  exact fold_err he _
theorem ChAt.add {t : Tab} {n : Nat} {sub : Int} {l : List ChV} {k : Nat} {bs : List Bd} {o : Bool} {y : ChV} (h : ChAt t n sub l k bs o) (hy : l[k]? = some y) (hk : y.kind ≠ 3) (he : chErr t n sub y = 0) (hb : (choiceP t n y).1.1 ≤ (choiceP t n y).1.2) : ChAt t n sub l (k + 1) (bs ++ [(choiceP t n y).1]) o := by
  unfold ChAt choicesP at *
  rw [take_snoc hy, List.foldl_append, h]
  simp [chStep, hk, he, hb]
theorem ChAt.none {t : Tab} {n : Nat} {sub : Int} {l : List ChV} {k : Nat} {bs : List Bd} {o : Bool} {y : ChV} (h : ChAt t n sub l k bs o) (hy : l[k]? = some y) (hk : y.kind ≠ 3) (he : chErr t n sub y = 0) (hb : ¬ (choiceP t n y).1.1 ≤ (choiceP t n y).1.2) : ChAt t n sub l (k + 1) bs o := by
  unfold ChAt choicesP at *
  rw [take_snoc hy, List.foldl_append, h]
  simp [chStep, hk, he, hb]
theorem ChAt.all {t : Tab} {n : Nat} {sub : Int} {l : List ChV} {bs : List Bd} {o : Bool} (h : ChAt t n sub l l.length bs o) : choicesP t n sub l = (bs, o, 0) := by
  unfold ChAt at h
  rwa [List.take_length] at h
theorem fold_len {t : Tab} {n : Nat} {sub : Int} : ∀ (l : List ChV) (s : ChSt), (l.foldl (chStep t n sub) s).1.length ≤ s.1.length + l.length
  | [], _ => by simp
  | c :: l, s => by
    rw [List.foldl_cons, List.length_cons]
    have ih := fold_len (t := t) (n := n) (sub := sub) l (chStep t n sub s c)
    have : (chStep t n sub s c).1.length ≤ s.1.length + 1 := by
      unfold chStep
      repeat' split
      all_goals simp
    omega
theorem ChAt.len {t : Tab} {n : Nat} {sub : Int} {l : List ChV} {k : Nat} {bs : List Bd} {o : Bool} (h : ChAt t n sub l k bs o) : bs.length ≤ k := by
  have h1 := fold_len (t := t) (n := n) (sub := sub) (l.take k) ([], false, 0)
  unfold ChAt choicesP at h
  rw [h] at h1
  simp only [List.length_nil, Nat.zero_add, List.length_take] at h1
  omega
theorem choices_len (t : Tab) (n : Nat) (sub : Int) (l : List ChV) : (choicesP t n sub l).1.length ≤ l.length := by
  have := fold_len (t := t) (n := n) (sub := sub) l ([], false, 0)
  simpa [choicesP] using this
/-- What Choices leaves: a row of its own. -/
def RetCh (r : ChSt) (w : World) (e : Ending) (w' : World) : Prop :=
  ∃ bs, e = .returned (.tuple #[bs, .bool r.2.1, .int .i64 r.2.2]) ∧ w'.ownsRow w.heap.size 43 2 bs r.1.length (bdsC r.1) ∧ Kept [] w w'
theorem own_base {w : World} {b b' : Nat} {e : TypeId} {size : Nat} {v : Value} {n : Nat} {xs : List Value} (h : w.ownsRow b e size v n xs) (hb : b' ≤ b) : w.ownsRow b' e size v n xs := by
  refine ⟨h.1, ?_⟩
  rcases h.2 with hn | ⟨g, cap, cur, rfl, hg, rest⟩
  · exact .inl hn
  · exact .inr ⟨g, cap, cur, rfl, by omega, rest⟩
/-- The loop's state. -/
def ChL1 (t : Tab) (n : Nat) (sub : Int) (l : List ChV) (w1 : World) (v6 v7 i : Value) (wr : World) : Prop :=
  ∃ k : Nat, k ≤ l.length ∧ i = .int .i64 k ∧ ∃ bs o, ChAt t n sub l k bs o ∧ v7 = .bool o ∧ wr.ownsRow w1.heap.size 43 2 v6 bs.length (bdsC bs) ∧ Kept [] w1 wr
set_option maxRecDepth 100000 in
set_option maxHeartbeats 4000000 in
theorem Choices_any (w : World) (v : TabV) (t : Tab) (sub : Int) (a : Option Addr) (c : Nat) (l : List ChV) (n : Nat) (hT : TabIn w v t) (hR : RowsAt ChV 2 ChV.cells w a l) (hA : ∀ y, y ∈ l → ChIn w n y) (hl : l.length ≤ 1000) :
    Calls Tryz.prog 13 #[.agg (v.cells t), .int .i64 sub, .slice a l.length c] w (RetCh (choicesP t n sub l) w) := by
  have HT := Lib.hid hT
  have HR := Lib.hid hR
  have HA := Lib.hid hA
  clear hT hR hA
  obtain ⟨ib, ib0, ib1, ib2, ib3⟩ := Tryz.bd_parts
  have HI := Lib.hid (fun w' b (hk : Kept [] w w') => inside_any w' v t sub b (HT.out.kept hk))
  have HC := Lib.hid (fun w' y (hk : Kept [] w w') hy => choice_any w' v t y n (HT.out.kept hk) ((HA.out y hy).kept hk))
  clear HT HA
  unfold TabV.cells at *
  go_enter Tryz.func13, Tryz.ntmps13
  go_wp2_with fail
  refine wp_gen' ?_
  intro w1 hw1
  haveI p_w1 : PrevWorld w1 w := ⟨by rw [hw1]; exact (by repeat (first | with_reducible exact HK.out | with_reducible exact Kept.refl _ _ | with_reducible refine Kept.prev ?_ | with_reducible refine Kept.alloc' ?_ _ | with_reducible refine Kept.drew' ?_ | with_reducible refine Kept.setB ?_ _ _ _ (by omega) | with_reducible refine Kept.row' ?_ _ _ (by omega) | with_reducible refine Kept.map' ?_ _ _ (by omega)))⟩
  haveI bx1 : BoxIs w1 w.heap.size 28 _ := by rw [hw1]; infer_instance
  have hz1 : w.heap.size ≤ w1.heap.size := Kept.size (X := []) (by repeat (first | with_reducible exact HK.out | with_reducible exact Kept.refl _ _ | with_reducible refine Kept.prev ?_ | with_reducible refine Kept.alloc' ?_ _ | with_reducible refine Kept.drew' ?_ | with_reducible refine Kept.setB ?_ _ _ _ (by omega) | with_reducible refine Kept.row' ?_ _ _ (by omega) | with_reducible refine Kept.map' ?_ _ _ (by omega)))
  clear hw1
  go_loopw [6, 7, 15] (fun v6 v7 i wr => ChL1 t n sub l w1 v6 v7 i wr) (fun _ _ i _ => l.length - (intOf i).toNat)
  case atStart => exact ⟨0, Nat.zero_le _, rfl, [], false, rfl, rfl, World.ownsRow_nil _ _ _ _, Kept.refl _ _⟩
  case round =>
    obtain ⟨k, hk, rfl, bs, o, hat, rfl, hown, hkr⟩ := hrel
    obtain ⟨A6, c6, rfl⟩ := own_shape hown
    have HOWN := Lib.hid hown
    have HAT := Lib.hid hat
    have hlen := hat.len
    have hkz := hkr.size
    haveI p_wr : PrevWorld wr w1 := ⟨hkr⟩
    have HKR := Lib.hid hkr
    clear hown hat hkr
    by_cases hlt : k < l.length
    · obtain ⟨y, hy⟩ : ∃ y, l[k]? = some y := ⟨_, List.getElem?_eq_getElem hlt⟩
      obtain ⟨b, of, rfl, hr⟩ := HR.out.some_ hy
      have y0 : wr.cell? ⟨b, of + k * 2, none⟩ = some (.int .u8 y.kind) := (show Kept [] w wr from (by repeat (first | with_reducible exact HK.out | with_reducible exact Kept.refl _ _ | with_reducible refine Kept.prev ?_ | with_reducible refine Kept.alloc' ?_ _ | with_reducible refine Kept.drew' ?_ | with_reducible refine Kept.setB ?_ _ _ _ (by omega) | with_reducible refine Kept.row' ?_ _ _ (by omega) | with_reducible refine Kept.map' ?_ _ _ (by omega)))).cell (hr k y hy 0 _ rfl) (by simp)
      have y1 : wr.cell? ⟨b, of + k * 2 + 1, none⟩ = some (.slice y.la y.ls.length y.lc) := (show Kept [] w wr from (by repeat (first | with_reducible exact HK.out | with_reducible exact Kept.refl _ _ | with_reducible refine Kept.prev ?_ | with_reducible refine Kept.alloc' ?_ _ | with_reducible refine Kept.drew' ?_ | with_reducible refine Kept.setB ?_ _ _ _ (by omega) | with_reducible refine Kept.row' ?_ _ _ (by omega) | with_reducible refine Kept.map' ?_ _ _ (by omega)))).cell (hr k y hy 1 _ rfl) (by simp)
      have HCY := Lib.hid (fun w' (hk : Kept [] w w') => HC.out w' y hk (List.mem_of_getElem? hy))
      have HO := Lib.hid (fun h => HAT.out.others hy h)
      have HERR0 := Lib.hid (fun h1 h2 => HAT.out.err hy h1 h2)
      have HADD := Lib.hid (fun h1 h2 h3 => HAT.out.add hy h1 h2 h3)
      have HNON := Lib.hid (fun h1 h2 h3 => HAT.out.none hy h1 h2 h3)
      have HCE : Hid (chErr t n sub y = if (choiceP t n y).2 = 0 then insideP t sub (choiceP t n y).1 else (choiceP t n y).2) := rfl
      have j1 : (0 : Int) ≤ (k : Int) := by omega
      have j2 : (k : Int) < (l.length : Int) := by omega
      clear hr hy HC HAT
      generalize choiceP t n y = r at *
      obtain ⟨⟨rl, rh⟩, re⟩ := r
      by_cases k3 : y.kind = 3
      · clear HERR0 HADD HNON HCE HCY HI
        have e1 : (y.kind == 3) = true := by simp [k3]
        go_wp2_with fail
        go_roundw
        case rel => exact ⟨k + 1, by omega, by go_num, bs, true, HO.out k3, rfl, own_keep HOWN.out (X := []) (by repeat (first | with_reducible exact HK.out | with_reducible exact Kept.refl _ _ | with_reducible refine Kept.prev ?_ | with_reducible refine Kept.alloc' ?_ _ | with_reducible refine Kept.drew' ?_ | with_reducible refine Kept.setB ?_ _ _ _ (by omega) | with_reducible refine Kept.row' ?_ _ _ (by omega) | with_reducible refine Kept.map' ?_ _ _ (by omega))) (by simp), (by repeat (first | with_reducible exact HK.out | with_reducible exact Kept.refl _ _ | with_reducible refine Kept.prev ?_ | with_reducible refine Kept.alloc' ?_ _ | with_reducible refine Kept.drew' ?_ | with_reducible refine Kept.setB ?_ _ _ _ (by omega) | with_reducible refine Kept.row' ?_ _ _ (by omega) | with_reducible refine Kept.map' ?_ _ _ (by omega)))⟩
        case measure => simp [intOf]; omega
      have e1 : (y.kind == 3) = false := by simp [k3]
      by_cases e0 : re = 0
      rotate_left
      · have HE2 : Hid (chErr t n sub y = re) := by rw [Hid, HCE.out, if_neg e0]
        have HERR : Hid (choicesP t n sub l = ([], false, re)) := by
          rw [Hid, HERR0.out k3 (by rw [HE2.out]; exact e0), HE2.out]
        have e2 : (re == 0) = false := by simp [e0]
        have e3 : (re != 0) = true := by simp [e0]
        clear HO HADD HNON HCE HERR0 HE2 HI e0 k3
        go_wp2_with fail
        refine (HCY.out _ (by repeat (first | with_reducible exact HK.out | with_reducible exact Kept.refl _ _ | with_reducible refine Kept.prev ?_ | with_reducible refine Kept.alloc' ?_ _ | with_reducible refine Kept.drew' ?_ | with_reducible refine Kept.setB ?_ _ _ _ (by omega) | with_reducible refine Kept.row' ?_ _ _ (by omega) | with_reducible refine Kept.map' ?_ _ _ (by omega)))).mono ?_; rintro e w2 ⟨rfl, hk_w2⟩; haveI p_w2 : PrevWorld w2 _ := ⟨hk_w2⟩; have hz_w2 : w.heap.size ≤ w2.heap.size := Kept.size (by repeat (first | with_reducible exact HK.out | with_reducible exact Kept.refl _ _ | with_reducible refine Kept.prev ?_ | with_reducible refine Kept.alloc' ?_ _ | with_reducible refine Kept.drew' ?_ | with_reducible refine Kept.setB ?_ _ _ _ (by omega) | with_reducible refine Kept.row' ?_ _ _ (by omega) | with_reducible refine Kept.map' ?_ _ _ (by omega))); clear hk_w2
        go_wp2_with fail
        rw [HERR.out]
        refine bodyPost_ret (res3 Tryz.results13 (resT rfl) (resT rfl) (resT rfl)) rfl ?_
        exact ⟨_, rfl, World.ownsRow_nil _ _ _ _, (by repeat (first | with_reducible exact HK.out | with_reducible exact Kept.refl _ _ | with_reducible refine Kept.prev ?_ | with_reducible refine Kept.alloc' ?_ _ | with_reducible refine Kept.drew' ?_ | with_reducible refine Kept.setB ?_ _ _ _ (by omega) | with_reducible refine Kept.row' ?_ _ _ (by omega) | with_reducible refine Kept.map' ?_ _ _ (by omega)))⟩
      subst e0
      have HIY := Lib.hid (fun w' (hk : Kept [] w w') => HI.out w' (rl, rh) hk)
      have HCE2 : Hid (chErr t n sub y = insideP t sub (rl, rh)) := by rw [Hid, HCE.out, if_pos rfl]
      clear HI HCE
      generalize insideP t sub (rl, rh) = z at *
      by_cases e0 : z = 0
      rotate_left
      · have HERR : Hid (choicesP t n sub l = ([], false, z)) := by
          rw [Hid, HERR0.out k3 (by rw [HCE2.out]; exact e0), HCE2.out]
        have e2 : (z == 0) = false := by simp [e0]
        have e3 : (z != 0) = true := by simp [e0]
        clear HO HADD HNON HCE2 HERR0 e0 k3
        go_wp2_with fail
        refine (HCY.out _ (by repeat (first | with_reducible exact HK.out | with_reducible exact Kept.refl _ _ | with_reducible refine Kept.prev ?_ | with_reducible refine Kept.alloc' ?_ _ | with_reducible refine Kept.drew' ?_ | with_reducible refine Kept.setB ?_ _ _ _ (by omega) | with_reducible refine Kept.row' ?_ _ _ (by omega) | with_reducible refine Kept.map' ?_ _ _ (by omega)))).mono ?_; rintro e w2 ⟨rfl, hk_w2⟩; haveI p_w2 : PrevWorld w2 _ := ⟨hk_w2⟩; have hz_w2 : w.heap.size ≤ w2.heap.size := Kept.size (by repeat (first | with_reducible exact HK.out | with_reducible exact Kept.refl _ _ | with_reducible refine Kept.prev ?_ | with_reducible refine Kept.alloc' ?_ _ | with_reducible refine Kept.drew' ?_ | with_reducible refine Kept.setB ?_ _ _ _ (by omega) | with_reducible refine Kept.row' ?_ _ _ (by omega) | with_reducible refine Kept.map' ?_ _ _ (by omega))); clear hk_w2
        go_wp2_with fail
        refine (HIY.out _ (by repeat (first | with_reducible exact HK.out | with_reducible exact Kept.refl _ _ | with_reducible refine Kept.prev ?_ | with_reducible refine Kept.alloc' ?_ _ | with_reducible refine Kept.drew' ?_ | with_reducible refine Kept.setB ?_ _ _ _ (by omega) | with_reducible refine Kept.row' ?_ _ _ (by omega) | with_reducible refine Kept.map' ?_ _ _ (by omega)))).mono ?_; rintro e w3 ⟨rfl, hk_w3⟩; haveI p_w3 : PrevWorld w3 _ := ⟨hk_w3⟩; have hz_w3 : w.heap.size ≤ w3.heap.size := Kept.size (by repeat (first | with_reducible exact HK.out | with_reducible exact Kept.refl _ _ | with_reducible refine Kept.prev ?_ | with_reducible refine Kept.alloc' ?_ _ | with_reducible refine Kept.drew' ?_ | with_reducible refine Kept.setB ?_ _ _ _ (by omega) | with_reducible refine Kept.row' ?_ _ _ (by omega) | with_reducible refine Kept.map' ?_ _ _ (by omega))); clear hk_w3
        go_wp2_with fail
        rw [HERR.out]
        refine bodyPost_ret (res3 Tryz.results13 (resT rfl) (resT rfl) (resT rfl)) rfl ?_
        exact ⟨_, rfl, World.ownsRow_nil _ _ _ _, (by repeat (first | with_reducible exact HK.out | with_reducible exact Kept.refl _ _ | with_reducible refine Kept.prev ?_ | with_reducible refine Kept.alloc' ?_ _ | with_reducible refine Kept.drew' ?_ | with_reducible refine Kept.setB ?_ _ _ _ (by omega) | with_reducible refine Kept.row' ?_ _ _ (by omega) | with_reducible refine Kept.map' ?_ _ _ (by omega)))⟩
      subst e0
      by_cases e2 : rl ≤ rh
      · have HS : Hid (ChAt t n sub l (k + 1) (bs ++ [(rl, rh)]) o) := HADD.out k3 HCE2.out e2
        clear HO HADD HNON HCE2 HERR0 k3
        go_wp2_with fail
        refine (HCY.out _ (by repeat (first | with_reducible exact HK.out | with_reducible exact Kept.refl _ _ | with_reducible refine Kept.prev ?_ | with_reducible refine Kept.alloc' ?_ _ | with_reducible refine Kept.drew' ?_ | with_reducible refine Kept.setB ?_ _ _ _ (by omega) | with_reducible refine Kept.row' ?_ _ _ (by omega) | with_reducible refine Kept.map' ?_ _ _ (by omega)))).mono ?_; rintro e w2 ⟨rfl, hk_w2⟩; haveI p_w2 : PrevWorld w2 _ := ⟨hk_w2⟩; have hz_w2 : w.heap.size ≤ w2.heap.size := Kept.size (by repeat (first | with_reducible exact HK.out | with_reducible exact Kept.refl _ _ | with_reducible refine Kept.prev ?_ | with_reducible refine Kept.alloc' ?_ _ | with_reducible refine Kept.drew' ?_ | with_reducible refine Kept.setB ?_ _ _ _ (by omega) | with_reducible refine Kept.row' ?_ _ _ (by omega) | with_reducible refine Kept.map' ?_ _ _ (by omega))); clear hk_w2
        go_wp2_with fail
        refine (HIY.out _ (by repeat (first | with_reducible exact HK.out | with_reducible exact Kept.refl _ _ | with_reducible refine Kept.prev ?_ | with_reducible refine Kept.alloc' ?_ _ | with_reducible refine Kept.drew' ?_ | with_reducible refine Kept.setB ?_ _ _ _ (by omega) | with_reducible refine Kept.row' ?_ _ _ (by omega) | with_reducible refine Kept.map' ?_ _ _ (by omega)))).mono ?_; rintro e w3 ⟨rfl, hk_w3⟩; haveI p_w3 : PrevWorld w3 _ := ⟨hk_w3⟩; have hz_w3 : w.heap.size ≤ w3.heap.size := Kept.size (by repeat (first | with_reducible exact HK.out | with_reducible exact Kept.refl _ _ | with_reducible refine Kept.prev ?_ | with_reducible refine Kept.alloc' ?_ _ | with_reducible refine Kept.drew' ?_ | with_reducible refine Kept.setB ?_ _ _ _ (by omega) | with_reducible refine Kept.row' ?_ _ _ (by omega) | with_reducible refine Kept.map' ?_ _ _ (by omega))); clear hk_w3
        have HOW := Lib.hid (own_keep HOWN.out (show Kept [] wr w3 from (by repeat (first | with_reducible exact HK.out | with_reducible exact Kept.refl _ _ | with_reducible refine Kept.prev ?_ | with_reducible refine Kept.alloc' ?_ _ | with_reducible refine Kept.drew' ?_ | with_reducible refine Kept.setB ?_ _ _ _ (by omega) | with_reducible refine Kept.row' ?_ _ _ (by omega) | with_reducible refine Kept.map' ?_ _ _ (by omega)))) (by simp))
        have hz3 : w1.heap.size ≤ w3.heap.size := Kept.size (X := []) (by repeat (first | with_reducible exact HK.out | with_reducible exact Kept.refl _ _ | with_reducible refine Kept.prev ?_ | with_reducible refine Kept.alloc' ?_ _ | with_reducible refine Kept.drew' ?_ | with_reducible refine Kept.setB ?_ _ _ _ (by omega) | with_reducible refine Kept.row' ?_ _ _ (by omega) | with_reducible refine Kept.map' ?_ _ _ (by omega)))
        have HK3 := Lib.hid (show Kept [] w1 w3 from (by repeat (first | with_reducible exact HK.out | with_reducible exact Kept.refl _ _ | with_reducible refine Kept.prev ?_ | with_reducible refine Kept.alloc' ?_ _ | with_reducible refine Kept.drew' ?_ | with_reducible refine Kept.setB ?_ _ _ _ (by omega) | with_reducible refine Kept.row' ?_ _ _ (by omega) | with_reducible refine Kept.map' ?_ _ _ (by omega))))
        have hA : bs.length + 1 ≤ maxLen := by unfold maxLen; omega
        have hB : (bs.length + 1) * 16 ≤ 140737488355328 := by omega
        have hC : w1.heap.size ≤ (w3.alloc (.cells #[.int .i64 rl, .int .i64 rh] 43)).heap.size := by simp; omega
        go_wp2_with (at_builtin; refine wpList_append_own _ rfl _ _ 51 rfl w1.heap.size 43 ib (.agg #[.int .i64 0, .int .i64 0]) 2 16 Tryz.underlying51 ib0 ib1 ib2 ib3 rfl (by decide) (.slice A6 bs.length c6) bs.length (bdsC bs) rfl (HOW.out.alloc _) ⟨w3.heap.size, 0, none⟩ 1 1 [.int .i64 rl, .int .i64 rh] rfl rfl (World.news_of_block (cs := #[.int .i64 rl, .int .i64 rh]) (t := 43) (fr := (0, 0)) (heap_alloc_new w3 _)) (by simp [Value.oneCell']) hA hB hC ?_; intro v' w4 ho4 hg4 _; have HO4 := Lib.hid ho4; have HG4 := Lib.hid hg4; clear ho4 hg4)
        have HROW : Hid (w4.ownsRow w1.heap.size 43 2 v' (bs ++ [(rl, rh)]).length (bdsC (bs ++ [(rl, rh)]))) := by
          rw [Hid, bdsC_snoc, List.length_append]
          exact HO4.out
        have HK4 : Hid (Kept [] w1 w4) := (HK3.out.trans (Kept.alloc _ _ _)).grown HG4.out (fun q hq => own_at HOWN.out q hq)
        go_roundw
        case rel => exact ⟨k + 1, by omega, by go_num, bs ++ [(rl, rh)], o, HS.out, rfl, HROW.out, HK4.out⟩
        case measure => simp [intOf]; omega
      · have HS : Hid (ChAt t n sub l (k + 1) bs o) := HNON.out k3 HCE2.out e2
        have e3 : decide (rl ≤ rh) = false := by simp [e2]
        clear HO HADD HNON HCE2 HERR0 k3 e2
        go_wp2_with fail
        refine (HCY.out _ (by repeat (first | with_reducible exact HK.out | with_reducible exact Kept.refl _ _ | with_reducible refine Kept.prev ?_ | with_reducible refine Kept.alloc' ?_ _ | with_reducible refine Kept.drew' ?_ | with_reducible refine Kept.setB ?_ _ _ _ (by omega) | with_reducible refine Kept.row' ?_ _ _ (by omega) | with_reducible refine Kept.map' ?_ _ _ (by omega)))).mono ?_; rintro e w2 ⟨rfl, hk_w2⟩; haveI p_w2 : PrevWorld w2 _ := ⟨hk_w2⟩; have hz_w2 : w.heap.size ≤ w2.heap.size := Kept.size (by repeat (first | with_reducible exact HK.out | with_reducible exact Kept.refl _ _ | with_reducible refine Kept.prev ?_ | with_reducible refine Kept.alloc' ?_ _ | with_reducible refine Kept.drew' ?_ | with_reducible refine Kept.setB ?_ _ _ _ (by omega) | with_reducible refine Kept.row' ?_ _ _ (by omega) | with_reducible refine Kept.map' ?_ _ _ (by omega))); clear hk_w2
        go_wp2_with fail
        refine (HIY.out _ (by repeat (first | with_reducible exact HK.out | with_reducible exact Kept.refl _ _ | with_reducible refine Kept.prev ?_ | with_reducible refine Kept.alloc' ?_ _ | with_reducible refine Kept.drew' ?_ | with_reducible refine Kept.setB ?_ _ _ _ (by omega) | with_reducible refine Kept.row' ?_ _ _ (by omega) | with_reducible refine Kept.map' ?_ _ _ (by omega)))).mono ?_; rintro e w3 ⟨rfl, hk_w3⟩; haveI p_w3 : PrevWorld w3 _ := ⟨hk_w3⟩; have hz_w3 : w.heap.size ≤ w3.heap.size := Kept.size (by repeat (first | with_reducible exact HK.out | with_reducible exact Kept.refl _ _ | with_reducible refine Kept.prev ?_ | with_reducible refine Kept.alloc' ?_ _ | with_reducible refine Kept.drew' ?_ | with_reducible refine Kept.setB ?_ _ _ _ (by omega) | with_reducible refine Kept.row' ?_ _ _ (by omega) | with_reducible refine Kept.map' ?_ _ _ (by omega))); clear hk_w3
        go_wp2_with fail
        go_roundw
        case rel => exact ⟨k + 1, by omega, by go_num, bs, o, HS.out, rfl, own_keep HOWN.out (X := []) (by repeat (first | with_reducible exact HK.out | with_reducible exact Kept.refl _ _ | with_reducible refine Kept.prev ?_ | with_reducible refine Kept.alloc' ?_ _ | with_reducible refine Kept.drew' ?_ | with_reducible refine Kept.setB ?_ _ _ _ (by omega) | with_reducible refine Kept.row' ?_ _ _ (by omega) | with_reducible refine Kept.map' ?_ _ _ (by omega))) (by simp), (by repeat (first | with_reducible exact HK.out | with_reducible exact Kept.refl _ _ | with_reducible refine Kept.prev ?_ | with_reducible refine Kept.alloc' ?_ _ | with_reducible refine Kept.drew' ?_ | with_reducible refine Kept.setB ?_ _ _ _ (by omega) | with_reducible refine Kept.row' ?_ _ _ (by omega) | with_reducible refine Kept.map' ?_ _ _ (by omega)))⟩
        case measure => simp [intOf]; omega
    · obtain rfl : k = l.length := by omega
      have HW := Lib.hid HAT.out.all
      clear HC HR HAT HI
      go_wp2_with fail
      rw [HW.out]
      refine bodyPost_ret (res3 Tryz.results13 (resT rfl) (resT rfl) (resT rfl)) rfl ?_
      exact ⟨_, rfl, own_base HOWN.out hz1, (by repeat (first | with_reducible exact HK.out | with_reducible exact Kept.refl _ _ | with_reducible refine Kept.prev ?_ | with_reducible refine Kept.alloc' ?_ _ | with_reducible refine Kept.drew' ?_ | with_reducible refine Kept.setB ?_ _ _ _ (by omega) | with_reducible refine Kept.row' ?_ _ _ (by omega) | with_reducible refine Kept.map' ?_ _ _ (by omega)))⟩
end Go.Proofs.YtgdjhhfbpalkdaaGreat
