/- Order of the reference. -/
import Derived.Test.YtoaklikkepkhfaaS5
namespace Go.Proofs.Ytoaklikkepkhfaa
open Go.RowKit

/-- What Order hands back. -/
def OrderRes (l : List UnitV) (subs : List SubV) (xs : List Int) (er : Int) : Prop :=
  (mayR l subs = false ∧ xs = [] ∧ er = 2) ∨ (mayR l subs = true ∧ ∃ ns nl, NamesOk l ns ∧ NeedsOk l subs nl ∧ xs = (orderI (orderR ns nl)).1 ∧ er = (orderI (orderR ns nl)).2)
theorem NeedsOk.uniq {l : List UnitV} {subs : List SubV} {a b : List (List Int)} (ha : NeedsOk l subs a) (hb : NeedsOk l subs b) : a = b := by
  apply List.ext_getElem?
  intro i
  cases hx : a[i]? with
  | none =>
    rw [List.getElem?_eq_none_iff] at hx
    have := ha.len
    have := hb.len
    rw [List.getElem?_eq_none (by omega)]
  | some x =>
    have hi := (List.getElem?_eq_some_iff.1 hx).1
    have h1 := ha.len
    have h2 := hb.len
    have hy : b[i]? = some (b[i]'(by omega)) := List.getElem?_eq_getElem (by omega)
    rw [hy, (ha.at' i _ hx).uniq (hb.at' i _ hy)]
theorem OrderRes.uniq {l : List UnitV} {subs : List SubV} {xs ys : List Int} {er fr : Int} (h : OrderRes l subs xs er) (h' : OrderRes l subs ys fr) : xs = ys ∧ er = fr := by
  rcases h with A | ⟨A, ns, nl, A1, A2, A3, A4⟩ <;> rcases h' with B | ⟨B, ns', nl', B1, B2, B3, B4⟩
  · exact ⟨A.2.1.trans B.2.1.symm, A.2.2.trans B.2.2.symm⟩
  · have := A.1.symm.trans B; cases this
  · have := B.1.symm.trans A; cases this
  · obtain rfl := A1.uniq B1
    obtain rfl := A2.uniq B2
    exact ⟨A3.trans B3.symm, A4.trans B4.symm⟩

/-- The cell of a row of bools in a row of rows. -/
def rowV (n : Nat) (g : Nat) : Value := .slice (some ⟨g, 0, none⟩) n n
def BRows (w : World) (gs : List Nat) (bss : List (List Bool)) : Prop := gs.length = bss.length ∧ ∀ (i : Nat) g b, gs[i]? = some g → bss[i]? = some b → BRow w g b
theorem BRows.kept {w w' : World} {gs : List Nat} {bss : List (List Bool)} (h : BRows w gs bss) (hk : Kept [] w w') : BRows w' gs bss := ⟨h.1, fun i g b h1 h2 => (h.2 i g b h1 h2).kept hk (by simp)⟩
theorem BRow.ne_own {w : World} {g : Nat} {bs : List Bool} {base n : Nat} {v : Value} {xs : List Value} (h : BRow w g bs) (ho : w.ownsRow base 39 1 v n xs) : some g ≠ v.ownBlock := by
  intro e
  rcases ho.2 with ⟨rfl, _⟩ | ⟨g', cap, cur, rfl, _, hg, _⟩
  · cases e
  · injection e with e
    subst e
    unfold BRow at h
    rw [hg] at h
    injection h with h
    injection h with _ h _
    cases h
theorem BRows.grown {w w' : World} {gs : List Nat} {bss : List (List Bool)} {base n : Nat} {v : Value} {xs : List Value} (h : BRows w gs bss) (ho : w.ownsRow base 39 1 v n xs) (hg : w.grownBy w' v.ownBlock) : BRows w' gs bss :=
  ⟨h.1, fun i g b h1 h2 => (hg.block g (h.2 i g b h1 h2).lt ((h.2 i g b h1 h2).ne_own ho)).trans (h.2 i g b h1 h2)⟩
theorem BRows.snoc {w : World} {gs : List Nat} {bss : List (List Bool)} {g : Nat} {b : List Bool} (h : BRows w gs bss) (hb : BRow w g b) : BRows w (gs ++ [g]) (bss ++ [b]) := by
  refine ⟨by simp [h.1], fun i g' b' h1 h2 => ?_⟩
  by_cases e : i < gs.length
  · rw [List.getElem?_append_left e] at h1
    rw [List.getElem?_append_left (by rw [← h.1]; exact e)] at h2
    exact h.2 i g' b' h1 h2
  · rw [List.getElem?_append_right (by omega)] at h1
    rw [List.getElem?_append_right (by rw [← h.1]; omega), ← h.1] at h2
    have hz : i - gs.length = 0 := by
      have := (List.getElem?_eq_some_iff.1 h1).1
      simp at this
      omega
    rw [hz] at h1 h2
    simp at h1 h2
    rw [← h1, ← h2]; exact hb

def BitsUp (l : List UnitV) (subs : List SubV) (bss : List (List Bool)) : Prop := ∀ (i : Nat) b, bss[i]? = some b → NeedBits l subs i b
theorem BitsUp.snoc {l : List UnitV} {subs : List SubV} {bss : List (List Bool)} {b : List Bool} (h : BitsUp l subs bss) (hb : NeedBits l subs bss.length b) : BitsUp l subs (bss ++ [b]) := by
  intro i b' h2
  by_cases e : i < bss.length
  · rw [List.getElem?_append_left e] at h2
    exact h i b' h2
  · rw [List.getElem?_append_right (by omega)] at h2
    have hz : i - bss.length = 0 := by
      have := (List.getElem?_eq_some_iff.1 h2).1
      simp at this
      omega
    rw [hz] at h2
    simp at h2
    rw [← h2, show i = bss.length by omega]; exact hb
theorem needsOk_bits {l : List UnitV} {subs : List SubV} {bss : List (List Bool)} (hm : May l subs) (hl : bss.length = l.length) (h : BitsUp l subs bss) : NeedsOk l subs (bss.map (fun b => trueAt b l.length)) := by
  refine ⟨by rw [List.length_map, hl], fun u x hx => ?_⟩
  rw [List.getElem?_map] at hx
  cases hb : bss[u]? with
  | none => rw [hb] at hx; cases hx
  | some b =>
    rw [hb] at hx
    injection hx with hx
    subst hx
    exact needList_bits hm (h u b hb) fun n hn => need_range hm hn

/-- May unit i be taken, as far as the first j units tell? -/
def rdK (t b : List Bool) (i j : Nat) : Bool := !tk t i && (List.range j).all (fun j' => !((b[j']?).getD false) || tk t j')
theorem rdK_zero (t b : List Bool) (i : Nat) : rdK t b i 0 = !tk t i := by simp [rdK]
theorem rdK_succ (t b : List Bool) (i j : Nat) : rdK t b i (j + 1) = (rdK t b i j && (!((b[j]?).getD false) || tk t j)) := by
  unfold rdK
  rw [List.range_succ, List.all_append]
  simp [Bool.and_assoc]
theorem rdK_all {t b : List Bool} {bss : List (List Bool)} {i n : Nat} (hb : bss[i]? = some b) : rdK t b i n = readyB (bss.map (fun b => trueAt b n)) t i := by
  unfold rdK readyB needAt allTk
  rw [List.getElem?_map, hb]
  simp only [Option.map_some, Option.getD_some]
  congr 1
  rw [Bool.eq_iff_iff, List.all_eq_true, List.all_eq_true]
  constructor
  · intro h x hx
    obtain ⟨j, hj, h1, rfl⟩ := trueAt_mem.1 hx
    have := h j (List.mem_range.2 hj)
    rw [h1] at this
    simpa using this
  · intro h j hj
    cases hbj : (b[j]?).getD false
    · rfl
    · have : b[j]? = some true := by
        cases hq : b[j]? with
        | none => rw [hq] at hbj; cases hbj
        | some c => rw [hq] at hbj; simp at hbj; rw [hbj]
      have := h j (trueAt_mem.2 ⟨j, List.mem_range.1 hj, this, rfl⟩)
      simpa using this

def optI : Option Nat → Int
  | none => -1
  | some i => i
def natsI (o : List Nat) : List Int := o.map (fun i : Nat => (i : Int))

theorem bools_info : (Try.prog.info? 39).map (fun i => (i.zero, i.size, i.bytes)) = some (some (.slice none 0 0), 1, 24) := by kernel_rfl

theorem one_slice (a : Option Addr) (n c : Nat) : ∀ u, u ∈ [Value.slice a n c] → u.oneCell' = true := by
  intro u hu
  simp at hu
  subst hu
  rfl

/-- The first loop of Order. -/
def Rows1 (l : List UnitV) (subs : List SubV) (w1 : World) (v i : Value) (wr : World) : Prop :=
  ∃ (k : Nat) (gs : List Nat) (bss : List (List Bool)), k ≤ l.length ∧ i = .int .i64 k ∧ gs.length = k ∧ wr.ownsRow w1.heap.size 39 1 v k (gs.map (rowV l.length)) ∧ BRows wr gs bss ∧ BitsUp l subs bss ∧ Kept [] w1 wr

theorem own_keep {w w' : World} {base e size n : Nat} {v : Value} {xs : List Value} {X : List Nat} (h : w.ownsRow base e size v n xs) (hk : Kept X w w') (hx : ∀ k, v.ownBlock = some k → k ∉ X) : w'.ownsRow base e size v n xs := by
  refine ⟨h.1, ?_⟩
  rcases h.2 with hn | ⟨g, cap, cur, rfl, hb, hg, rest⟩
  · exact .inl hn
  · exact .inr ⟨g, cap, cur, rfl, hb, hk.obj hg (hx g rfl), rest⟩

/-- The outer loop of the order. -/
def OutO (l : List UnitV) (ns : List Nat) (nl : List (List Int)) (w3 : World) (G gk : Nat) (v : Value) (wr : World) : Prop :=
  ∃ (o : List Nat) (t : List Bool), gk + o.length = l.length ∧ wr.ownsRow w3.heap.size 3 1 v o.length ((natsI o).map (Value.int .i64)) ∧ BRow wr G t ∧ t.length = l.length ∧ orderG ns nl gk t o = orderR ns nl ∧ Kept [G] w3 wr
def NextCut (l : List UnitV) (p : Nat → Bool) (k : Nat) (wo : World) (v : Value) (wc : World) : Prop := ∃ o, v = .int .i64 (optI o) ∧ LeastB l p k o ∧ Kept [] wo wc
def BoolCut (b : Bool) (w0 : World) (v : Value) (w : World) : Prop := v = .bool b ∧ w = w0

theorem rows_need {w : World} {base n : Nat} {v : Value} {k : Nat} {gs : List Nat} (h : w.ownsRow base 39 1 v k (gs.map (rowV n))) (hk : 0 < k) : ∃ gA c, v = .slice (some ⟨gA, 0, none⟩) k c ∧ gA < w.heap.size ∧ k ≤ c ∧ c ≤ 9223372036854775807 ∧ ∀ (i g : Nat), gs[i]? = some g → w.cell? ⟨gA, i, none⟩ = some (.slice (some ⟨g, 0, none⟩) n n) := by
  rcases h.2 with ⟨_, hn⟩ | ⟨g, cap, cur, rfl, hb, hg, hcap, hmax, _⟩
  · omega
  · refine ⟨g, cap, rfl, (Array.getElem?_eq_some_iff.1 hg).1, hcap, by unfold maxLen at hmax; omega, fun i g' hx => ?_⟩
    have := h.cells (g := g) rfl i (rowV n g') (by simp [hx])
    rw [Addr.add_mid, Nat.zero_add] at this
    exact this

set_option maxRecDepth 100000 in
set_option maxHeartbeats 8000000 in
theorem refOrder_any (w : World) (ua : Option Addr) (uc : Nat) (l : List UnitV) (sa : Option Addr) (sc : Nat) (subs : List SubV) (hE : Env w ua uc l sa sc subs) (hb : Room l subs) :
    Calls Try.prog 12 #[.slice ua l.length uc, .slice sa subs.length sc] w (RetTwo (OrderRes l subs) w) := by
  have HE := Lib.hid hE
  have HBD := Lib.hid hb
  have b1 := hE.ul
  have b2 := hE.um
  have b3 := hb.l300
  clear hE hb
  obtain ⟨i0, hi, hz0, hz1, hz2⟩ := info_parts int_info
  obtain ⟨i1, hi1, hz10, hz11, hz12⟩ := info_parts bool_info
  obtain ⟨i2, hi2, hz20, hz21, hz22⟩ := info_parts bools_info
  go_enter Try.func12, Try.ntmps12
  go_wp2_with fail
  refine (may_any w ua uc l sa sc subs HE.out).mono ?_
  rintro e w1 ⟨rfl, hk1⟩
  have HK1 := Lib.hid hk1
  clear hk1
  cases hm : mayR l subs
  · have HR : Hid (OrderRes l subs [] 2) := .inl ⟨hm, rfl, rfl⟩
    clear hm
    go_wp2_with fail
    go_ret2
    exact ⟨_, _, _, rfl, HR.out, IntsC.nil _, HK1.out⟩
  · have HM := Lib.hid (may_of hm)
    have HMB := Lib.hid hm
    clear hm
    go_upto_block 0 with (fail)
    go_cut [6] (fun v6 wc => Rows1 l subs w1 v6 (.int .i64 l.length) wc)
    case first =>
      go_wp2_with fail
      go_loopw [6, 7] (fun v i wr => Rows1 l subs w1 v i wr) (fun _ i _ => l.length - (intOf i).toNat)
      case atStart => exact ⟨0, [], [], Nat.zero_le _, rfl, rfl, World.ownsRow_nil _ _ _ _, ⟨rfl, fun i g b h => by simp at h⟩, fun i b h => by simp at h, Kept.refl _ _⟩
      case round =>
        obtain ⟨k, gs, bss, hk, rfl, hgl, hown, hrows, hbits, hkr⟩ := hrel
        obtain ⟨A9, c9, rfl⟩ := own_shape hown
        have HOWN := Lib.hid hown
        have HROWS := Lib.hid hrows
        have HBITS := Lib.hid hbits
        have HKR := Lib.hid hkr
        have HGL := Lib.hid hgl
        have hzr := hkr.size
        clear hown hrows hbits hkr hgl
        by_cases hlt : k < l.length
        · obtain ⟨x, hx⟩ : ∃ x, l[k]? = some x := ⟨_, List.getElem?_eq_getElem hlt⟩
          have HX := Lib.hid hx
          clear hx
          have hA : k + 1 ≤ maxLen := by unfold maxLen; omega
          have hB : (k + 1) * 24 ≤ 140737488355328 := by omega
          go_wp2_with (first
            | (go_at_call 21; refine (refNeeds_any wr ua uc l sa sc subs k x (HE.out.kept (HK1.out.trans HKR.out)) HX.out HM.out HBD.out).mono ?_; rintro e w3 ⟨g, b, rfl, hbr, hg, hnb, hk3⟩; have HBR := Lib.hid hbr; have HNB := Lib.hid hnb; have HK3 := Lib.hid hk3; have HO3 := Lib.hid (own_keep HOWN.out hk3 (by simp)); have hC : w1.heap.size ≤ (w3.alloc (.cells #[.slice (some ⟨g, 0, none⟩) l.length l.length] 39)).heap.size := by (have := hk3.size; simp; omega)
               clear hbr hnb hk3)
            | (at_builtin; refine wpList_append_own _ rfl _ _ 57 rfl w1.heap.size 39 i2 (.slice none 0 0) 1 24 Try.underlying57 hi2 hz20 hz21 hz22 rfl (by decide) (.slice A9 k c9) k (gs.map (rowV l.length)) rfl (HO3.out.alloc _) ⟨w3.heap.size, 0, none⟩ 1 1 [rowV l.length g] rfl rfl (cell_one_new _ _ _) (one_slice _ _ _) hA hB hC ?_; intro v4 w4 ho4 hg4 _; have HO4 := Lib.hid ho4; have HG4 := Lib.hid hg4; clear ho4 hg4 hC))
          have HR4 : Hid (BRows w4 (gs ++ [g]) (bss ++ [b])) := (((HROWS.out.kept HK3.out).snoc HBR.out).kept (Kept.alloc _ _ _)).grown (HO3.out.alloc _) HG4.out
          have HK4 : Hid (Kept [] w1 w4) := ((HKR.out.trans HK3.out).trans (Kept.alloc _ _ _)).grown HG4.out (fun q hq => own_at HOWN.out q hq)
          have HB4 : Hid (BitsUp l subs (bss ++ [b])) := HBITS.out.snoc (by have h1 := HROWS.out.1; have h2 := HGL.out; rw [show bss.length = k by omega]; exact HNB.out)
          have HO5 : Hid (w4.ownsRow w1.heap.size 39 1 v4 (k + 1) ((gs ++ [g]).map (rowV l.length))) := by rw [Hid, List.map_append]; exact HO4.out
          have HGL4 : Hid ((gs ++ [g]).length = k + 1) := by have := HGL.out; rw [Hid]; simp; omega
          go_roundw
          case rel => exact ⟨k + 1, gs ++ [g], bss ++ [b], by omega, by go_num, HGL4.out, HO5.out, HR4.out, HB4.out, HK4.out⟩
          case measure => simp [intOf]; omega
        · obtain rfl : k = l.length := by omega
          go_wp2_with fail
          go_meet
          exact ⟨l.length, gs, bss, Nat.le_refl _, rfl, HGL.out, HOWN.out, HROWS.out, HBITS.out, HKR.out⟩
    case rest =>
      obtain ⟨k, gs, bss, hk, e, hgl, hown, hrows, hbits, hkr⟩ := hcut
      obtain rfl : l.length = k := by injection e with _ e; omega
      obtain ⟨w2, rfl⟩ : ∃ w2 : World, w2 = wc := ⟨_, rfl⟩
      obtain ⟨A6, c6, rfl⟩ := own_shape hown
      have HOWN := Lib.hid hown
      have HROWS := Lib.hid hrows
      have HK2 := Lib.hid (HK1.out.trans hkr)
      have hbl : bss.length = l.length := by have := hrows.1; omega
      have HGL := Lib.hid hgl
      have HNL := Lib.hid (needsOk_bits HM.out hbl hbits)
      have HBITS := Lib.hid hbits
      obtain ⟨ns, hns⟩ := names_exist l
      have HNS := Lib.hid hns
      have hnll := HNL.out.len
      clear hown hrows hkr hbits hns e hgl hk
      have hmb : i1.bytes * l.length ≤ 281474976710656 := by rw [hz12]; omega
      go_upto_region 9 with (at_make; refine wpList_make_row _ rfl _ _ 39 rfl 4 i1 (.bool false) Try.underlying39 hi1 hz10 hz11 rfl .i64 .i64 l.length rfl rfl hmb (by omega) ?_)
      refine wp_gen ?_
      intro w3 hw3
      have hk3 : Kept [] w2 w3 := by rw [hw3]; exact Kept.alloc _ _ _
      have HB3 : Hid (BRow w3 w2.heap.size (List.replicate l.length false)) := by rw [hw3]; exact BRow.made w2 _
      have HK3 := Lib.hid (HK2.out.trans hk3)
      have HK23 := Lib.hid hk3
      have hG3 : w2.heap.size < w3.heap.size := HB3.out.lt
      have hGw : w.heap.size ≤ w2.heap.size := HK2.out.size
      generalize hGG : w2.heap.size = G at *
      clear hw3 hk3
      have HST : Hid (OutO l ns (bss.map (fun b => trueAt b l.length)) w3 G l.length (.slice none 0 0) w3) :=
        ⟨[], _, by simp, World.ownsRow_nil _ _ _ _, HB3.out, by simp, by unfold orderR; rw [hnll], Kept.refl _ _⟩
      go_wp2_with fail
      go_loopg [9] l.length (fun gk v wr => OutO l ns (bss.map (fun b => trueAt b l.length)) w3 G gk v wr)
      case atStart => exact HST.out
      case round =>
        obtain ⟨o, t, hgo, ho, ht, htl, hord, hkg⟩ := hrel
        obtain ⟨wo, rfl⟩ : ∃ wo : World, wo = wr := ⟨_, rfl⟩
        obtain ⟨A9, c9, rfl⟩ := own_shape ho
        have HO := Lib.hid ho
        have HT := Lib.hid ht
        have HTL := Lib.hid htl
        have HORD := Lib.hid hord
        have HKG := Lib.hid hkg
        have HKW : Hid (Kept [] w wo) := HK3.out.trans0 hkg (by omega)
        have hwo3 : w3.heap.size ≤ wo.heap.size := hkg.size
        clear ho ht htl hord hkg
        by_cases hlt : o.length < l.length
        · obtain ⟨gA, cA, e6, hgA, hc1, hc2, hcells⟩ := rows_need HOWN.out (by omega)
          injection e6 with e6 _ e7
          subst e6 e7
          have HCELLS := Lib.hid hcells
          have hgAG : gA ≠ G := by omega
          clear hcells
          obtain ⟨bu, ou, rfl, hru⟩ := HE.out.us.some_ (j := 0) (x := l[0]'(by omega)) (List.getElem?_eq_getElem (by omega))
          have HRU := Lib.hid hru
          clear hru
          have HRD : Hid (∀ k b, bss[k]? = some b → rdK t b k l.length = readyB (bss.map (fun b => trueAt b l.length)) t k) := fun k b hb => rdK_all hb
          generalize hP : readyB (bss.map (fun b => trueAt b l.length)) t = P at *
          have HP := Lib.hid hP
          clear hP
          go_upto_block 4 with (fail)
          go_cut [10] (fun v10 wc => NextCut l P l.length wo v10 wc)
          case first =>
            go_wp2_with fail
            go_loopw [10, 11] (fun v i wr => ∃ k : Nat, k ≤ l.length ∧ i = .int .i64 k ∧ NextCut l P k wo v wr) (fun _ i _ => l.length - (intOf i).toNat)
            case atStart => exact ⟨0, Nat.zero_le _, rfl, none, rfl, LeastB.zero _ _, Kept.refl _ _⟩
            case round =>
              obtain ⟨k, hk, rfl, on, rfl, hle, hkr⟩ := hrel
              obtain ⟨wi, rfl⟩ : ∃ wi : World, wi = wr := ⟨_, rfl⟩
              have HLE := Lib.hid hle
              have HKR := Lib.hid hkr
              generalize hz : optI on = z at *
              have HZ := Lib.hid hz
              clear hle hkr hz
              by_cases hlk : k < l.length
              · obtain ⟨g, hg⟩ : ∃ g, gs[k]? = some g := ⟨_, List.getElem?_eq_getElem (by have := HGL.out; omega)⟩
                obtain ⟨b, hb⟩ : ∃ b, bss[k]? = some b := ⟨_, List.getElem?_eq_getElem (by omega)⟩
                obtain ⟨tb, htb⟩ : ∃ tb, t[k]? = some tb := ⟨_, List.getElem?_eq_getElem (by have := HTL.out; omega)⟩
                have HTI : Hid (BRow wi G t) := HT.out.kept HKR.out (by simp)
                have q0 := HTI.out.cell htb
                have hgr := HROWS.out.2 k g b hg hb
                have hgl : g < G := by have := hgr.lt; omega
                have HRB : Hid (BRow wi g b) := (hgr.kept HK23.out (by simp)).kept (HKG.out.trans (HKR.out.mono (by simp))) (by simp; omega)
                have q1 := (HKG.out.trans (HKR.out.mono (by simp))).cell (HK23.out.cell (HCELLS.out k g hg) (by simp)) (by simpa using hgAG)
                have HTK : Hid (tk t k = tb) := by rw [Hid, tk, htb]; rfl
                have HRDK := Lib.hid (HRD.out k b hb)
                have HNB : Hid (b.length = l.length) := (HBITS.out k b hb).1
                clear hg hb htb hgr
                go_upto_block 6 with (fail)
                go_cut [12] (fun v12 wc => BoolCut (P k) wi v12 wc)
                case first =>
                  have HR0 : Hid (rdK t b k 0 = !tb) := by rw [Hid, rdK_zero, HTK.out]
                  go_wp2_with fail
                  go_loopw [12, 13] (fun v i wr => ∃ j : Nat, j ≤ l.length ∧ i = .int .i64 j ∧ v = .bool (rdK t b k j) ∧ wr = wi) (fun _ i _ => l.length - (intOf i).toNat)
                  case atStart => exact ⟨0, Nat.zero_le _, rfl, by rw [HR0.out], rfl⟩
                  case round =>
                    obtain ⟨j, hj, rfl, rfl, rfl⟩ := hrel
                    by_cases hlj : j < l.length
                    · obtain ⟨nb, hnb⟩ : ∃ nb, b[j]? = some nb := ⟨_, List.getElem?_eq_getElem (by have := HNB.out; omega)⟩
                      obtain ⟨tj, htj⟩ : ∃ tj, t[j]? = some tj := ⟨_, List.getElem?_eq_getElem (by have := HTL.out; omega)⟩
                      have q2 := HRB.out.cell hnb
                      have q3 := HTI.out.cell htj
                      have HRS : Hid (rdK t b k (j + 1) = (rdK t b k j && (!nb || tj))) := by rw [Hid, rdK_succ, hnb, tk, htj]; rfl
                      clear hnb htj
                      generalize rdK t b k j = r at *
                      cases r
                      · go_wp2_with fail
                        go_roundw
                        case rel => exact ⟨j + 1, by omega, by go_num, by rw [HRS.out]; rfl, trivial⟩
                        case measure => simp [intOf]; omega
                      · cases nb
                        · go_wp2_with fail
                          go_roundw
                          case rel => exact ⟨j + 1, by omega, by go_num, by rw [HRS.out]; rfl, trivial⟩
                          case measure => simp [intOf]; omega
                        · cases tj
                          all_goals
                            go_wp2_with fail
                            go_roundw
                            case rel => exact ⟨j + 1, by omega, by go_num, by rw [HRS.out]; rfl, trivial⟩
                            case measure => simp [intOf]; omega
                    · obtain rfl : j = l.length := by omega
                      have HF := HRDK.out
                      generalize rdK t b k l.length = r at *
                      go_wp2_with fail
                      go_meet
                      exact ⟨by rw [HF], rfl⟩
                case rest =>
                  obtain ⟨rfl, rfl⟩ := hcut
                  cases hp : P k
                  · have HNO := Lib.hid (HLE.out.no hp)
                    clear hp
                    go_wp2_with fail
                    go_roundw
                    case rel => exact ⟨k + 1, by omega, by go_num, on, by rw [HZ.out], HNO.out, HKR.out⟩
                    case measure => simp [intOf]; omega
                  · have HPK := Lib.hid hp
                    clear hp
                    cases on with
                    | none =>
                      obtain rfl : z = -1 := HZ.out.symm
                      have HFI := Lib.hid (LeastB.first HLE.out HPK.out)
                      clear HZ
                      go_wp2_with fail
                      go_roundw
                      case rel => exact ⟨k + 1, by omega, by go_num, some k, rfl, HFI.out, HKR.out⟩
                      case measure => simp [intOf]; omega
                    | some m =>
                      obtain rfl : z = (m : Int) := HZ.out.symm
                      clear HZ
                      have hmk : m < k := HLE.out.1
                      have hm0 : (0 : Int) ≤ (m : Int) := by omega
                      have hml : m < l.length := by omega
                      go_wp2_with fail
                      refine (before_any _ bu ou uc l k m (fun j r h i u hu => (HKW.out.trans HKR.out).cell (HRU.out j r h i u hu) (by simp)) (by omega) hlk hml).mono ?_
                      rintro e w5 ⟨rfl, hk5⟩
                      have HK5 := Lib.hid (HKR.out.trans hk5)
                      clear hk5
                      cases hbf : beforeB l k m
                      · have HWO := Lib.hid (LeastB.worse HLE.out hbf)
                        clear hbf
                        go_wp2_with fail
                        go_roundw
                        case rel => exact ⟨k + 1, by omega, by go_num, some m, rfl, HWO.out, HK5.out⟩
                        case measure => simp [intOf]; omega
                      · have HWO := Lib.hid (LeastB.better HLE.out HPK.out hbf)
                        clear hbf
                        go_wp2_with fail
                        go_roundw
                        case rel => exact ⟨k + 1, by omega, by go_num, some k, rfl, HWO.out, HK5.out⟩
                        case measure => simp [intOf]; omega
              · obtain rfl : k = l.length := by omega
                go_wp2_with fail
                go_meet
                exact ⟨on, by rw [HZ.out], HLE.out, HKR.out⟩
          case rest =>
            obtain ⟨on, rfl, hle, hkr⟩ := hcut
            obtain ⟨w7, rfl⟩ : ∃ w7 : World, w7 = wc := ⟨_, rfl⟩
            have HF := Lib.hid (hle.find HNS.out)
            have HLE := Lib.hid hle
            have HKR := Lib.hid hkr
            generalize hz : optI on = z at *
            have HZ := Lib.hid hz
            have hw7 : w3.heap.size ≤ w7.heap.size := by have := hkr.size; omega
            obtain ⟨g1, rfl⟩ : ∃ g1, gk = g1 + 1 := ⟨gk - 1, by omega⟩
            have hO := HORD.out
            rw [orderG, HP.out, HF.out] at hO
            clear hle hkr hz
            cases on with
            | none =>
              obtain rfl : z = -1 := HZ.out.symm
              have HRES : Hid (OrderRes l subs [] 150) := .inr ⟨HMB.out, ns, _, HNS.out, HNL.out, by rw [← hO]; rfl, by rw [← hO]; rfl⟩
              clear hO HZ
              go_wp2_with fail
              go_ret2
              exact ⟨_, _, _, rfl, HRES.out, IntsC.nil _, HKW.out.trans HKR.out⟩
            | some m =>
              obtain rfl : z = (m : Int) := HZ.out.symm
              have HO' := Lib.hid hO
              clear hO HZ
              have hml : m < l.length := HLE.out.1
              have hm0 : (0 : Int) ≤ (m : Int) := by omega
              obtain ⟨tm, htm⟩ : ∃ tm, t[m]? = some tm := ⟨_, List.getElem?_eq_getElem (by have := HTL.out; omega)⟩
              have HT7 : Hid (BRow w7 G t) := HT.out.kept HKR.out (by simp)
              have q0 := HT7.out.cell htm
              have qf := HT7.out.frozen m
              have HO7 := Lib.hid (own_keep HO.out HKR.out (by simp))
              clear htm
              go_upto_region 25 with (fail)
              refine wp_gen ?_
              intro w8 hw8
              have hk8 : Kept [G] w7 w8 := by rw [hw8]; exact Kept.setCell _ _ _ (by simp)
              have HT8 : Hid (BRow w8 G (t.set m true)) := by rw [hw8]; exact HT7.out.set m true
              have HO8 : Hid (w8.ownsRow w3.heap.size 3 1 (.slice A9 o.length c9) o.length ((natsI o).map (Value.int .i64))) := by rw [hw8]; exact ownsRow_setCell_below HO7.out (show G < _ from hG3) _
              have hs8 : w3.heap.size ≤ w8.heap.size := by have := hk8.size; omega
              have HKG8 : Hid (Kept [G] w3 w8) := (HKG.out.trans (HKR.out.mono (by simp))).trans hk8
              clear hw8 hk8 q0 qf
              have hA : o.length + 1 ≤ maxLen := by unfold maxLen; omega
              have hB : (o.length + 1) * 8 ≤ 140737488355328 := by omega
              have hC : w3.heap.size ≤ (w8.alloc (.cells #[.int .i64 m] 3)).heap.size := by simp; omega
              go_wp2_with (at_builtin; refine wpList_append_own _ rfl _ _ 26 rfl w3.heap.size 3 i0 (.int .i64 0) 1 8 Try.underlying26 hi hz0 hz1 hz2 rfl (by decide) (.slice A9 o.length c9) o.length ((natsI o).map (Value.int .i64)) rfl (HO8.out.alloc _) ⟨w8.heap.size, 0, none⟩ 1 1 [.int .i64 m] rfl rfl (cell_one_new _ _ _) (one_int _ _) hA hB hC ?_; intro v' w9 ho9 hg9 _; have HO9 := Lib.hid ho9; have HG9 := Lib.hid hg9; clear ho9 hg9)
              have HOW : Hid (w9.ownsRow w3.heap.size 3 1 v' (o ++ [m]).length ((natsI (o ++ [m])).map (Value.int .i64))) := by have := HO9.out; rw [Hid]; simpa [natsI] using this
              have HK9 : Hid (Kept [G] w3 w9) := (HKG8.out.trans (Kept.alloc _ _ _)).grown HG9.out (fun q hq => own_at HO8.out q hq)
              have HT9 : Hid (BRow w9 G (t.set m true)) := (HG9.out.block G (by simp; omega) (fun e => by have := own_at HO8.out G e.symm; omega)).trans ((HT8.out.kept (Kept.alloc [] _ _) (by simp)))
              go_roundg g1
              case measure => omega
              case rel => exact ⟨o ++ [m], t.set m true, by simp; omega, HOW.out, HT9.out, by rw [List.length_set]; exact HTL.out, HO'.out, HK9.out⟩
        · have h0 : gk = 0 := by omega
          subst h0
          have HRES : Hid (OrderRes l subs (natsI o) 0) := .inr ⟨HMB.out, ns, _, HNS.out, HNL.out, by have := HORD.out; rw [← this]; rfl, by have := HORD.out; rw [← this]; rfl⟩
          go_wp2_with fail
          go_ret2
          exact ⟨_, _, _, rfl, HRES.out, IntsC.of_owns (by simpa [natsI] using HO.out), HKW.out⟩
end Go.Proofs.Ytoaklikkepkhfaa
