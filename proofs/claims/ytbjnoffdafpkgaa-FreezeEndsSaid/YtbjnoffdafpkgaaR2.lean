/- The reference's Parts. -/
import Derived.Test.YtbjnoffdafpkgaaR1
import Derived.BigQuiet
import Derived.Deep.QuietTactic
import Derived.Deep.DeepCutAuto
import Derived.Deep.CutBlock
import Derived.StillTailTactics
namespace Go.Proofs.Ytbjnoffdafpkgaa
open Go.RowKit

def addW (n : Nat) (ty p : Int) (l : List Int) : List Int := if exI n p && (p != ty) then withR l p else l
def subW (t : Tab) (ty s : Int) (l : List Int) : List Int := if exI t.subs.length s then addW t.types.length ty (t.subs.getD s.toNat 0) l else l
def discR (x : TyRow) : List Int := if x.disc == -1 then [] else [x.disc]
def subsR (x : TyRow) : List Int := if x.kind == 4 then [x.index, x.elem] else if x.kind == 5 then discR x ++ x.comps.map (·.sub) else []
def l0R (t : Tab) (k : Nat) (x : TyRow) : List Int := if x.kind == 2 || x.kind == 3 then addW t.types.length k x.parent [] else []

theorem fold_addI (n : Nat) (ty x : Int) (xs a : List Int) : (addI n ty x xs).foldl withR a = addW n ty x (xs.foldl withR a) := by
  unfold addI addW
  split
  · rw [List.foldl_append]; rfl
  · rfl
theorem fold_subI (t : Tab) (ty s : Int) (xs a : List Int) : (subI t.types.length ty t.subs s xs).foldl withR a = subW t ty s (xs.foldl withR a) := by
  unfold subI subW
  split
  · exact fold_addI _ _ _ _ _
  · rfl
theorem fold_comps (t : Tab) (ty : Int) : ∀ (l : List CRow) (a : List Int), (l.foldl (fun l c => subI t.types.length ty t.subs c.sub l) a).foldl withR [] = (l.map (·.sub)).foldl (fun l s => subW t ty s l) (a.foldl withR []) := by
  intro l
  induction l with
  | nil => intro a; rfl
  | cons c l ih => intro a; rw [List.foldl_cons, ih, fold_subI]; rfl
theorem raw_fold (t : Tab) (k : Nat) (x : TyRow) : (rawI t k x).foldl withR [] = (subsR x).foldl (fun l s => subW t k s l) (l0R t k x) := by
  unfold rawI subsR l0R
  by_cases h23 : (x.kind == 2 || x.kind == 3) = true
  · have h4 : (x.kind == 4) = false := by simp at h23 ⊢; omega
    have h5 : (x.kind == 5) = false := by simp at h23 ⊢; omega
    rw [if_pos h23, if_pos h23, h4, h5]
    exact fold_addI _ _ _ _ _
  · rw [if_neg h23, if_neg h23]
    by_cases h4 : (x.kind == 4) = true
    · rw [if_pos h4, if_pos h4, fold_subI, fold_subI]; rfl
    · rw [if_neg h4, if_neg h4]
      by_cases h5 : (x.kind == 5) = true
      · rw [if_pos h5, if_pos h5, fold_comps, fold_subI, List.foldl_append]
        congr 1
        unfold discR
        by_cases hd : (x.disc == -1) = true
        · rw [if_pos hd]
          have : x.disc = -1 := by simpa using hd
          rw [this]
          rfl
        · rw [if_neg hd]; rfl
      · rw [if_neg h5, if_neg h5]; rfl

theorem IntsC.of_block {W : World} {b : Nat} {l : List Int} (h : W.heap[b]? = some (.cells (l.map (Value.int .i64)).toArray 3 (0, 0))) (hl : l.length ≤ 9223372036854775807) : IntsC W (.slice (some ⟨b, 0, none⟩) l.length l.length) l :=
  ⟨_, _, rfl, Nat.le_refl _, hl, (fun h => by cases h), .inr ⟨b, 0, rfl, fun j x hx => by
    rw [cell_of_row _ _ _ _ _ _ h, Nat.zero_add]
    simp [hx]⟩⟩
theorem IntsC.nil (w : World) : IntsC w (.slice none 0 0) [] := ⟨none, 0, rfl, Nat.le_refl _, by omega, fun _ => rfl, .inl rfl⟩

theorem RetC.mono {w0 w : World} {xs ys : List Int} (hk : Kept [] w0 w) (h : xs = ys) : ∀ e w', RetC xs w e w' → RetC ys w0 e w' := by
  rintro e w' ⟨v, he, hi, hk'⟩
  subst h
  exact ⟨v, he, hi, hk.trans hk'⟩

theorem refParts_none (w : World) (v : TabV) (t : Tab) (ty : Int) (hn : t.types.length ≤ 9223372036854775807) (hx : exI t.types.length ty = false) : Calls Try.prog 15 #[.agg (v.cells t), .int .i64 ty] w (RetC [] w) := by
  have HX := Lib.hid hx
  clear hx
  unfold TabV.cells
  go_enter Try.func15, Try.ntmps15
  go_wp2_with fail
  refine (refExists_any v t ty _ hn).mono ?_
  rintro e w1 ⟨rfl, hk1⟩
  have HK := Lib.hid ((Kept.alloc [] w _).trans hk1)
  clear hk1
  rw [HX.out]
  go_wp2_with fail
  go_ret
  exact ⟨_, rfl, IntsC.nil _, HK.out⟩

/-- The table's box and the type's row. -/
structure PBox (v : TabV) (t : Tab) (x : TyRow) (B X : Nat) (w : World) : Prop where
  c0 : w.cell? ⟨B, 0, none⟩ = some (.slice v.ta t.types.length v.tc)
  c1 : w.cell? ⟨B, 1, none⟩ = some (.slice v.sa t.subs.length v.sc)
  c2 : w.cell? ⟨B, 2, none⟩ = some (.slice v.ea v.en v.ec)
  c3 : w.cell? ⟨B, 3, none⟩ = some (.slice v.ga v.gn v.gc)
  c4 : w.cell? ⟨B, 4, none⟩ = some (.slice v.ia v.im v.ic)
  row : w.heap[X]? = some (.cells x.cells.toArray 51 (0, 0))
  tab : TabIn w v t
theorem PBox.kept {v : TabV} {t : Tab} {x : TyRow} {B X : Nat} {w w' : World} (h : PBox v t x B X w) (hk : Kept [] w w') : PBox v t x B X w' :=
  ⟨hk.cell h.c0 (by simp), hk.cell h.c1 (by simp), hk.cell h.c2 (by simp), hk.cell h.c3 (by simp), hk.cell h.c4 (by simp), hk.obj h.row (by simp), h.tab.kept (hk.toBelow (Nat.le_refl _) (by simp))⟩
theorem PBox.cell {v : TabV} {t : Tab} {x : TyRow} {B X : Nat} {w : World} (h : PBox v t x B X w) {i : Nat} {u : Value} (hu : x.cells[i]? = some u) : w.cell? ⟨X, i, none⟩ = some u := by
  rw [cell_of_row _ _ _ _ _ _ h.row]; simpa using hu

/-- The list of subtypes as it grows: a row of the call's own. -/
def Subs5 (x : TyRow) (w6 : World) (j : Nat) (lv : Value) (wr : World) : Prop :=
  wr.ownsRow w6.heap.size 3 1 lv (discR x ++ (x.comps.take j).map (·.sub)).length ((discR x ++ (x.comps.take j).map (·.sub)).map (Value.int .i64)) ∧ Below w6.heap.size w6 wr
theorem discR_le (x : TyRow) : (discR x).length ≤ 1 := by unfold discR; split <;> simp
theorem Subs5.len {x : TyRow} {j : Nat} (hj : j ≤ x.comps.length) : (discR x ++ (x.comps.take j).map (·.sub)).length = (discR x).length + j := by simp; omega
theorem Subs5.next {x : TyRow} {w6 wr w1 : World} {j : Nat} {lv v1 : Value} {c : CRow} {o : Obj} (h : Subs5 x w6 j lv wr) (hc : x.comps[j]? = some c)
    (hown : w1.ownsRow w6.heap.size 3 1 v1 ((discR x ++ (x.comps.take j).map (·.sub)).length + 1) ((discR x ++ (x.comps.take j).map (·.sub)).map (Value.int .i64) ++ [.int .i64 c.sub]))
    (hg : (wr.alloc o).grownBy w1 lv.ownBlock) : Subs5 x w6 (j + 1) v1 w1 := by
  obtain ⟨h1, rfl⟩ := List.getElem?_eq_some_iff.1 hc
  refine ⟨?_, (h.2.alloc h.2.size _).grown hg (by have := h.2.size; simp; omega) (fun g hg' => (h.1.lt g hg').1)⟩
  rw [List.take_succ_eq_append_getElem h1, List.map_append, ← List.append_assoc, List.length_append, List.map_append (f := Value.int .i64)]
  exact hown

theorem withR_len (l : List Int) (n : Int) : (withR l n).length ≤ l.length + 1 := by
  unfold withR
  split
  · omega
  · have := (List.takeWhile_prefix (fun x => decide (x < n)) (l := l)).length_le
    simp; omega
theorem subW_len (t : Tab) (ty s : Int) (l : List Int) : (subW t ty s l).length ≤ l.length + 1 := by
  unfold subW addW
  split
  · split
    · exact withR_len _ _
    · omega
  · omega
theorem foldW_len (t : Tab) (ty : Int) : ∀ (ss l : List Int), (ss.foldl (fun l s => subW t ty s l) l).length ≤ l.length + ss.length := by
  intro ss
  induction ss with
  | nil => intro l; simp
  | cons s ss ih => intro l; have := ih (subW t ty s l); have := subW_len t ty s l; simp only [List.foldl_cons, List.length_cons]; omega
theorem subsR_len (x : TyRow) : (subsR x).length ≤ x.comps.length + 2 := by
  unfold subsR
  have := discR_le x
  split
  · simp
  · split
    · simp; omega
    · simp
theorem l0R_len (t : Tab) (k : Nat) (x : TyRow) : (l0R t k x).length ≤ 1 := by
  unfold l0R addW
  split
  · split
    · exact withR_len _ _
    · simp
  · simp
theorem fold_succ (t : Tab) (k : Int) (ss l0 : List Int) {j : Nat} {s : Int} (h : ss[j]? = some s) : (ss.take (j + 1)).foldl (fun l s => subW t k s l) l0 = subW t k s ((ss.take j).foldl (fun l s => subW t k s l) l0) := by
  obtain ⟨h1, rfl⟩ := List.getElem?_eq_some_iff.1 h
  rw [List.take_succ_eq_append_getElem h1, List.foldl_append]; rfl

def PCut (x : TyRow) (l0 : List Int) (w6 : World) (v6 v7 : Value) (wc : World) : Prop := IntsC wc v6 (subsR x) ∧ IntsC wc v7 l0 ∧ Kept [] w6 wc

set_option maxRecDepth 100000 in
set_option maxHeartbeats 1000000 in
theorem refParts_some (w : World) (v : TabV) (t : Tab) (k : Nat) (x : TyRow) (hT : TabIn w v t) (hx : t.types[k]? = some x) (hcs : x.comps.length ≤ 1000000) :
    Calls Try.prog 15 #[.agg (v.cells t), .int .i64 k] w (RetC ((subsR x).foldl (fun l s => subW t k s l) (l0R t k x)) w) := by
  have hn := hT.2.2.1
  have hsn := hT.2.2.2
  have HT := Lib.hid hT
  have hk : k < t.types.length := (List.getElem?_eq_some_iff.1 hx).1
  have HEX : Hid (exI t.types.length k = true) := by simp [Hid, exI]; omega
  obtain ⟨b, o, ha, hr⟩ := hT.1 k x hx
  have HR := Lib.hid hr
  clear hT hx hr
  obtain ⟨ta, tc, sa, sc, ea, en, ec, ga, gn, gc, ia, im, ic⟩ := v
  obtain rfl : ta = some ⟨b, o, none⟩ := ha
  unfold TabV.cells
  dsimp only
  go_enter Try.func15, Try.ntmps15
  go_wp2_with fail
  generalize hW1 : (w.alloc (Obj.cells #[.slice (some ⟨b, o, none⟩) t.types.length tc, .slice sa t.subs.length sc, .slice ea en ec, .slice ga gn gc, .slice ia im ic] 28)) = w1
  have hk1 : Kept [] w w1 := by rw [← hW1]; exact Kept.alloc _ _ _
  have c0 : w1.cell? ⟨w.heap.size, 0, none⟩ = some (.slice (some ⟨b, o, none⟩) t.types.length tc) := by rw [← hW1]; clear hk1 hW1; go_simp
  have c1 : w1.cell? ⟨w.heap.size, 1, none⟩ = some (.slice sa t.subs.length sc) := by rw [← hW1]; clear hk1 hW1; go_simp
  have c2 : w1.cell? ⟨w.heap.size, 2, none⟩ = some (.slice ea en ec) := by rw [← hW1]; clear hk1 hW1; go_simp
  have c3 : w1.cell? ⟨w.heap.size, 3, none⟩ = some (.slice ga gn gc) := by rw [← hW1]; clear hk1 hW1; go_simp
  have c4 : w1.cell? ⟨w.heap.size, 4, none⟩ = some (.slice ia im ic) := by rw [← hW1]; clear hk1 hW1; go_simp
  clear hW1
  refine (refExists_any ⟨some ⟨b, o, none⟩, tc, sa, sc, ea, en, ec, ga, gn, gc, ia, im, ic⟩ t k _ hn).mono ?_
  rintro e w2 ⟨rfl, hk2⟩
  rw [HEX.out]
  have HK2 := Lib.hid (hk1.trans hk2)
  replace c0 := hk2.cell c0 (by simp)
  replace c1 := hk2.cell c1 (by simp)
  replace c2 := hk2.cell c2 (by simp)
  replace c3 := hk2.cell c3 (by simp)
  replace c4 := hk2.cell c4 (by simp)
  clear hk1 hk2
  have HROW := Lib.hid (HR.out.kept (HK2.out.toBelow (Nat.le_refl _) (by simp))).1
  have HPB : Hid (PBox ⟨some ⟨b, o, none⟩, tc, sa, sc, ea, en, ec, ga, gn, gc, ia, im, ic⟩ t x w.heap.size w2.heap.size (w2.alloc (Obj.cells x.cells.toArray 51))) := by
    have hk3 := Kept.alloc [] w2 (Obj.cells x.cells.toArray 51)
    exact ⟨hk3.cell c0 (by simp), hk3.cell c1 (by simp), hk3.cell c2 (by simp), hk3.cell c3 (by simp), hk3.cell c4 (by simp), heap_alloc_new _ _, HT.out.kept ((HK2.out.trans hk3).toBelow (Nat.le_refl _) (by simp))⟩
  have HK6 : Hid (Kept [] w (w2.alloc (Obj.cells x.cells.toArray 51))) := HK2.out.trans (Kept.alloc _ _ _)
  go_upto_region 4 with (first | (refine wpList_load_mid rfl 51 (.tmp 18) rfl b (o + k * 18) rfl x.cells _ HROW.out Try.underlying51 rfl (Try.info51 x) ?_))
  clear c0 c1 c2 c3 c4 HROW
  refine wp_gen ?_
  intro w6 hw6
  rw [← hw6] at HPB HK6
  have HCO0 := (HR.out.kept (HK6.out.toBelow (Nat.le_refl _) (by simp))).2.split
  clear hw6 HK2 HR
  generalize w2.heap.size = X at *
  have q0 := HPB.out.cell (i := 0) rfl
  go_upto_block 0 with (fail)
  clear q0
  have HCO := Lib.hid HCO0
  clear HCO0
  go_cut [6, 7] (fun v6 v7 wc => PCut x (l0R t k x) w6 v6 v7 wc)
  case first =>
    cases h4 : (x.kind == 4)
    · cases h5 : (x.kind == 5)
      · have HSU : Hid (subsR x = []) := by simp [Hid, subsR, h4, h5]
        cases h2 : (x.kind == 2)
        · cases h3 : (x.kind == 3)
          · have HL : Hid (l0R t k x = []) := by simp [Hid, l0R, h2, h3]
            go_wp2_with fail
            go_meet
            exact ⟨by rw [HSU.out]; exact IntsC.nil _, by rw [HL.out]; exact IntsC.nil _, Kept.refl _ _⟩
          · have HK23 : Hid ((x.kind == 2 || x.kind == 3) = true) := by simp [Hid, h2, h3]
            have hP := HPB.out
            obtain ⟨c0, c1, c2, c3, c4, _, _⟩ := hP
            have q2 := HPB.out.cell (i := 2) rfl
            go_wp2_with fail
            refine (refExists_any ⟨some ⟨b, o, none⟩, tc, sa, sc, ea, en, ec, ga, gn, gc, ia, im, ic⟩ t x.parent _ hn).mono ?_
            rintro e w7 ⟨rfl, hk7⟩
            have HK7 := Lib.hid hk7
            replace q2 := hk7.cell q2 (by simp)
            clear hk7 c0 c1 c2 c3 c4
            cases hep : exI t.types.length x.parent
            · have HL : Hid (l0R t k x = []) := by simp [Hid, l0R, addW, hep]
              clear hep
              go_wp2_with fail
              go_meet
              exact ⟨by rw [HSU.out]; exact IntsC.nil _, by rw [HL.out]; exact IntsC.nil _, HK7.out⟩
            · cases hpk : (x.parent == (k : Int))
              · have HL : Hid (l0R t k x = withR [] x.parent) := by simp only [Hid, l0R, addW, hep, HK23.out, bne, hpk]; rfl
                have hpk' : (x.parent != (k : Int)) = true := by rw [bne, hpk]; rfl
                clear hep hpk
                go_wp2_with fail
                refine (with_any w7 _ [] x.parent (IntsC.nil _) (by simp)).mono ?_
                rintro e w8 ⟨u8, rfl, hi8, hk8⟩
                have HI8 := Lib.hid hi8
                have HK8 := Lib.hid (HK7.out.trans hk8)
                clear hi8 hk8
                go_wp2_with fail
                go_meet
                exact ⟨by rw [HSU.out]; exact IntsC.nil _, by rw [HL.out]; exact HI8.out, HK8.out⟩
              · have HL : Hid (l0R t k x = []) := by simp only [Hid, l0R, addW, hep, bne, hpk]; simp
                have hpk' : (x.parent != (k : Int)) = false := by rw [bne, hpk]; rfl
                clear hep hpk
                go_wp2_with fail
                go_meet
                exact ⟨by rw [HSU.out]; exact IntsC.nil _, by rw [HL.out]; exact IntsC.nil _, HK7.out⟩
        · have HK23 : Hid ((x.kind == 2 || x.kind == 3) = true) := by simp [Hid, h2]
          have hP := HPB.out
          obtain ⟨c0, c1, c2, c3, c4, _, _⟩ := hP
          have q2 := HPB.out.cell (i := 2) rfl
          go_wp2_with fail
          refine (refExists_any ⟨some ⟨b, o, none⟩, tc, sa, sc, ea, en, ec, ga, gn, gc, ia, im, ic⟩ t x.parent _ hn).mono ?_
          rintro e w7 ⟨rfl, hk7⟩
          have HK7 := Lib.hid hk7
          replace q2 := hk7.cell q2 (by simp)
          clear hk7 c0 c1 c2 c3 c4
          cases hep : exI t.types.length x.parent
          · have HL : Hid (l0R t k x = []) := by simp [Hid, l0R, addW, hep]
            clear hep
            go_wp2_with fail
            go_meet
            exact ⟨by rw [HSU.out]; exact IntsC.nil _, by rw [HL.out]; exact IntsC.nil _, HK7.out⟩
          · cases hpk : (x.parent == (k : Int))
            · have HL : Hid (l0R t k x = withR [] x.parent) := by simp only [Hid, l0R, addW, hep, HK23.out, bne, hpk]; rfl
              have hpk' : (x.parent != (k : Int)) = true := by rw [bne, hpk]; rfl
              clear hep hpk
              go_wp2_with fail
              refine (with_any w7 _ [] x.parent (IntsC.nil _) (by simp)).mono ?_
              rintro e w8 ⟨u8, rfl, hi8, hk8⟩
              have HI8 := Lib.hid hi8
              have HK8 := Lib.hid (HK7.out.trans hk8)
              clear hi8 hk8
              go_wp2_with fail
              go_meet
              exact ⟨by rw [HSU.out]; exact IntsC.nil _, by rw [HL.out]; exact HI8.out, HK8.out⟩
            · have HL : Hid (l0R t k x = []) := by simp only [Hid, l0R, addW, hep, bne, hpk]; simp
              have hpk' : (x.parent != (k : Int)) = false := by rw [bne, hpk]; rfl
              clear hep hpk
              go_wp2_with fail
              go_meet
              exact ⟨by rw [HSU.out]; exact IntsC.nil _, by rw [HL.out]; exact IntsC.nil _, HK7.out⟩
      · have HSU : Hid (subsR x = discR x ++ x.comps.map (·.sub)) := by simp [Hid, subsR, h4, h5]
        have HL : Hid (l0R t k x = []) := by
          have h' : x.kind = 5 := by simpa using h5
          simp [Hid, l0R, h']
        have q7 := HPB.out.cell (i := 7) rfl
        obtain ⟨i0, hi, hz0, hz1, hz2⟩ := info_parts Try.info3
        go_upto_if 33 with (fail)
        go_cut [6] (fun v6 wc => Subs5 x w6 0 v6 wc)
        case first =>
          cases hd : (x.disc == -1)
          · have hd' : (x.disc != -1) = true := by rw [bne, hd]; rfl
            have HD : Hid (discR x = [x.disc]) := by simp [Hid, discR, hd]
            have hA : 0 + 1 ≤ maxLen := by unfold maxLen; omega
            have hB : (0 + 1) * 8 ≤ 140737488355328 := by omega
            have hC : w6.heap.size ≤ (w6.alloc (.cells #[.int .i64 x.disc] 3)).heap.size := by simp
            clear hd
            go_wp2_with (at_builtin; refine wpList_append_own _ rfl (.tmp 34) (.tmp 37) 38 rfl w6.heap.size 3 i0 (.int .i64 0) 1 8 Try.underlying38 hi hz0 hz1 hz2 rfl (by decide) _ _ _ rfl (World.ownsRow_nil _ _ _ _) ⟨w6.heap.size, 0, none⟩ 1 1 [.int .i64 x.disc] rfl rfl (cell_one_new _ _ _) (one_int _ _) hA hB hC ?_; intro v1 w1 hown1 hg1 hnil1; have HR1 : Hid (Subs5 x w6 0 v1 w1) := ⟨by rw [HD.out]; exact hown1, ((Below.refl w6.heap.size w6).alloc (Nat.le_refl _) _).grown hg1 (by simp) (fun g hg => by cases hg)⟩; clear hown1 hg1 hnil1)
            go_meet
            exact HR1.out
          · have hd' : (x.disc != -1) = false := by rw [bne, hd]; rfl
            have HD : Hid (discR x = []) := by simp [Hid, discR, hd]
            clear hd
            go_wp2_with fail
            go_meet
            exact ⟨by rw [HD.out]; exact World.ownsRow_nil _ _ _ _, Below.refl _ _⟩
        case rest =>
          have HS0 := Lib.hid hcut
          clear hcut q7
          obtain ⟨w7, rfl⟩ : ∃ w7 : World, w7 = wc := ⟨_, rfl⟩
          rcases HCO.out with hnil | ⟨b2, o2, hA, hcr⟩
          · have HM : Hid (x.comps.map (·.sub) = []) := by rw [Hid, hnil]; rfl
            have hl0 : x.comps.length ≤ 0 := by rw [hnil]; simp
            have HT0 : Hid (discR x ++ (x.comps.take 0).map (·.sub) = subsR x) := by rw [Hid, HSU.out, hnil]; rfl
            clear hnil
            go_wp2_with fail
            go_loopw [6, 8] (fun lv i wr => i = .int .i64 0 ∧ Subs5 x w6 0 lv wr) (fun _ _ _ => 0)
            case atStart => exact ⟨rfl, HS0.out⟩
            case round =>
              obtain ⟨rfl, hsub⟩ := hrel
              have HSB := Lib.hid hsub
              have q11 := (HPB.out.kept (Kept.of_below hsub.2)).cell (i := 11) rfl
              clear hsub
              go_wp2_with fail
              go_meet
              exact ⟨by have := HSB.out.1; rw [HT0.out] at this; exact IntsC.of_owns this, by rw [HL.out]; exact IntsC.nil _, Kept.of_below HSB.out.2⟩
          · have HCR := Lib.hid hcr
            clear hcr
            go_wp2_with fail
            go_loopw [6, 8] (fun lv i wr => ∃ j : Nat, j ≤ x.comps.length ∧ i = .int .i64 j ∧ Subs5 x w6 j lv wr) (fun _ i _ => x.comps.length - (intOf i).toNat)
            case atStart => exact ⟨0, Nat.zero_le _, rfl, HS0.out⟩
            case round =>
              obtain ⟨j, hj, rfl, hsub⟩ := hrel
              have HSB := Lib.hid hsub
              clear hsub
              have q11 := (HPB.out.kept (Kept.of_below HSB.out.2)).cell (i := 11) rfl
              rw [hA] at q11
              by_cases hlt : j < x.comps.length
              · obtain ⟨c, hc⟩ : ∃ c, x.comps[j]? = some c := ⟨_, List.getElem?_eq_getElem hlt⟩
                have qc := cell_kept' HSB.out.2 (HCR.out j c hc 1 _ rfl)
                have HC' := Lib.hid hc
                have hdl := discR_le x
                have HLN := Lib.hid (Subs5.len hj)
                clear hc
                have hA1 : (discR x ++ (x.comps.take j).map (·.sub)).length + 1 ≤ maxLen := by rw [HLN.out]; unfold maxLen; omega
                have hB1 : ((discR x ++ (x.comps.take j).map (·.sub)).length + 1) * 8 ≤ 140737488355328 := by rw [HLN.out]; omega
                have hC1 : w6.heap.size ≤ (wr.alloc (.cells #[.int .i64 c.sub] 3)).heap.size := by have := HSB.out.2.size; simp; omega
                have HA1 := Lib.hid hA1
                have HB1 := Lib.hid hB1
                clear hA1 hB1
                go_wp2_with (at_builtin; refine wpList_append_own _ rfl (.tmp 46) (.tmp 53) 38 rfl w6.heap.size 3 i0 (.int .i64 0) 1 8 Try.underlying38 hi hz0 hz1 hz2 rfl (by decide) _ _ _ rfl (HSB.out.1.alloc _) ⟨wr.heap.size, 0, none⟩ 1 1 [.int .i64 c.sub] rfl rfl (cell_one_new _ _ _) (one_int _ _) HA1.out HB1.out hC1 ?_; intro v1 w1 hown1 hg1 hnil1; have HR1 := Lib.hid (Subs5.next HSB.out HC'.out hown1 hg1); clear hown1 hg1 hnil1)
                go_roundw
                case rel => exact ⟨j + 1, by omega, by go_num, HR1.out⟩
                case measure => simp [intOf]; omega
              · obtain rfl : j = x.comps.length := by omega
                have HT0 : Hid (discR x ++ (x.comps.take x.comps.length).map (·.sub) = subsR x) := by rw [Hid, HSU.out, List.take_length]
                go_wp2_with fail
                go_meet
                exact ⟨by have := HSB.out.1; rw [HT0.out] at this; exact IntsC.of_owns this, by rw [HL.out]; exact IntsC.nil _, Kept.of_below HSB.out.2⟩
    · have HSU : Hid (subsR x = [x.index, x.elem]) := by simp [Hid, subsR, h4]
      have HL : Hid (l0R t k x = []) := by
        have h' : x.kind = 4 := by simpa using h4
        simp [Hid, l0R, h']
      have q5 := HPB.out.cell (i := 5) rfl
      have q6 := HPB.out.cell (i := 6) rfl
      go_wp2_with fail
      go_meet
      exact ⟨by rw [HSU.out]; exact IntsC.of_block (l := [x.index, x.elem]) (heap_alloc_new _ _) (by simp), by rw [HL.out]; exact IntsC.nil _, Kept.alloc _ _ _⟩
  case rest =>
    obtain ⟨hi6, hi7, hk67⟩ := hcut
    have HI7 := Lib.hid hi7
    have HPB7 := Lib.hid (HPB.out.kept hk67)
    have HK7 := Lib.hid (HK6.out.trans hk67)
    have hsl := subsR_len x
    have h0l := l0R_len t k x
    clear hi7 hk67 HPB HK6
    obtain ⟨w7, rfl⟩ : ∃ w7 : World, w7 = wc := ⟨_, rfl⟩
    generalize hss : subsR x = ss at hi6 hsl
    generalize hll : l0R t k x = l0 at HI7 h0l
    have HSS := Lib.hid hss
    have HLL := Lib.hid hll
    clear hss hll
    obtain ⟨A6, c6, rfl, h6a, h6b, _, hcs6⟩ := hi6
    rcases hcs6 with hnil | ⟨b6, o6, rfl, hc6⟩
    · have hl0 : ss.length ≤ 0 := by rw [hnil]; simp
      have HF : Hid (ss.foldl (fun l s => subW t k s l) l0 = l0) := by rw [Hid, hnil]; rfl
      clear hnil
      go_wp2_with fail
      go_loopw [7, 9] (fun lv i wr => i = .int .i64 0 ∧ IntsC wr lv l0 ∧ Kept [] w7 wr) (fun _ _ _ => 0)
      case atStart => exact ⟨rfl, HI7.out, Kept.refl _ _⟩
      case round =>
        obtain ⟨rfl, hiv, hkr⟩ := hrel
        have HIV := Lib.hid hiv
        have HKR := Lib.hid hkr
        clear hiv hkr
        go_wp2_with fail
        go_ret
        rw [HSS.out, HLL.out, HF.out]
        exact ⟨_, rfl, HIV.out, HK7.out.trans HKR.out⟩
    · have HC6 := Lib.hid hc6
      clear hc6
      go_wp2_with fail
      go_loopw [7, 9] (fun lv i wr => ∃ j : Nat, j ≤ ss.length ∧ i = .int .i64 j ∧ IntsC wr lv ((ss.take j).foldl (fun l s => subW t k s l) l0) ∧ Kept [] w7 wr) (fun _ i _ => ss.length - (intOf i).toNat)
      case atStart => exact ⟨0, Nat.zero_le _, rfl, HI7.out, Kept.refl _ _⟩
      case round =>
        obtain ⟨j, hj, rfl, hiv, hkr⟩ := hrel
        have HIV := Lib.hid hiv
        have HKR := Lib.hid hkr
        clear hiv hkr
        by_cases hlt : j < ss.length
        · obtain ⟨s, hs⟩ : ∃ s, ss[j]? = some s := ⟨_, List.getElem?_eq_getElem hlt⟩
          have HSU := Lib.hid (fold_succ t k ss l0 hs)
          have qs := HKR.out.cell (HC6.out j s hs) (by simp)
          have hfl := foldW_len t k (ss.take j) l0
          have hlk : ((ss.take j).foldl (fun l s => subW t k s l) l0).length ≤ 2000000 := by simp at hfl; omega
          have HLK := Lib.hid hlk
          obtain ⟨c0, c1, c2, c3, c4, _, _⟩ := HPB7.out.kept HKR.out
          clear hs hfl hlk
          generalize (ss.take j).foldl (fun l s => subW t k s l) l0 = acc at *
          by_cases h0 : 0 ≤ s
          · have hd0 : decide (0 ≤ s) = true := by simpa using h0
            by_cases h1 : s < t.subs.length
            · obtain ⟨m, rfl⟩ := Int.eq_ofNat_of_zero_le h0
              have hm : m < t.subs.length := by omega
              have hd1 : decide ((m : Int) < (t.subs.length : Int)) = true := by simpa using h1
              have hd2 : decide (m < t.subs.length) = true := by simpa using hm
              obtain ⟨b2, o2, hsa, hc2⟩ := (HPB7.out.kept HKR.out).tab.2.1 m hm
              obtain rfl : sa = some ⟨b2, o2, none⟩ := hsa
              have HSW : Hid (subW t k m acc = addW t.types.length k (t.subs.getD m 0) acc) := by
                rw [Hid]; unfold subW; rw [if_pos (by simp [exI, hm])]; rfl
              generalize t.subs.getD m 0 = p at *
              clear h0 h1
              go_upto_region 23 with (fail)
              go_quiet (fail)
              go_upto_region 24 with (fail)
              go_quiet (fail)
              go_wp2_with fail
              refine (refExists_any ⟨some ⟨b, o, none⟩, tc, some ⟨b2, o2, none⟩, sc, ea, en, ec, ga, gn, gc, ia, im, ic⟩ t p _ hn).mono ?_
              rintro e w8 ⟨rfl, hk8⟩
              have HK8 := Lib.hid ((Kept.drewN _ _ _).trans hk8)
              clear hk8 c0 c1 c2 c3 c4 hc2 qs
              cases hep : exI t.types.length p
              · have HA : Hid (addW t.types.length k p acc = acc) := by simp [Hid, addW, hep]
                clear hep
                go_wp2_with fail
                go_roundw
                case rel => exact ⟨j + 1, by omega, by go_num, by rw [HSU.out, HSW.out, HA.out]; exact HIV.out.kept HK8.out, HKR.out.trans HK8.out⟩
                case measure => simp [intOf]; omega
              · cases hpk : (p == (k : Int))
                · have HA : Hid (addW t.types.length k p acc = withR acc p) := by simp only [Hid, addW, hep, bne, hpk]; rfl
                  have hpk' : (p != (k : Int)) = true := by rw [bne, hpk]; rfl
                  clear hep hpk
                  go_wp2_with fail
                  refine (with_any w8 _ acc p (HIV.out.kept HK8.out) HLK.out).mono ?_
                  rintro e w9 ⟨u9, rfl, hi9, hk9⟩
                  have HI9 := Lib.hid hi9
                  have HK9 := Lib.hid (HK8.out.trans hk9)
                  clear hi9 hk9
                  go_wp2_with fail
                  go_roundw
                  case rel => exact ⟨j + 1, by omega, by go_num, by rw [HSU.out, HSW.out, HA.out]; exact HI9.out, HKR.out.trans HK9.out⟩
                  case measure => simp [intOf]; omega
                · have HA : Hid (addW t.types.length k p acc = acc) := by simp only [Hid, addW, hep, bne, hpk]; simp
                  have hpk' : (p != (k : Int)) = false := by rw [bne, hpk]; rfl
                  clear hep hpk
                  go_wp2_with fail
                  go_roundw
                  case rel => exact ⟨j + 1, by omega, by go_num, by rw [HSU.out, HSW.out, HA.out]; exact HIV.out.kept HK8.out, HKR.out.trans HK8.out⟩
                  case measure => simp [intOf]; omega
            · have HSW : Hid (subW t k s acc = acc) := by
                rw [Hid]; unfold subW; rw [if_neg (by simp [exI]; omega)]
              have hd1 : decide (s < (t.subs.length : Int)) = false := by simpa using h1
              clear h1
              go_upto_region 23 with (fail)
              go_quiet (fail)
              go_wp2_with fail
              go_roundw
              case rel => exact ⟨j + 1, by omega, by go_num, by rw [HSU.out, HSW.out]; exact HIV.out.kept (Kept.drewN _ _ _), HKR.out.trans (Kept.drewN _ _ _)⟩
              case measure => simp [intOf]; omega
          · have HSW : Hid (subW t k s acc = acc) := by
              rw [Hid]; unfold subW; rw [if_neg (by simp [exI]; omega)]
            have hd0 : decide (0 ≤ s) = false := by simpa using h0
            clear h0
            go_upto_region 23 with (fail)
            go_quiet (fail)
            go_wp2_with fail
            go_roundw
            case rel => exact ⟨j + 1, by omega, by go_num, by rw [HSU.out, HSW.out]; exact HIV.out.kept (Kept.drewN _ _ _), HKR.out.trans (Kept.drewN _ _ _)⟩
            case measure => simp [intOf]; omega
        · obtain rfl : j = ss.length := by omega
          have HF : Hid ((ss.take ss.length) = ss) := List.take_length
          go_wp2_with fail
          go_ret
          rw [HF.out] at HIV
          rw [HSS.out, HLL.out]
          exact ⟨_, rfl, HIV.out, HK7.out.trans HKR.out⟩
theorem refParts_any (w : World) (v : TabV) (t : Tab) (ty : Int) (hT : TabIn w v t) (hs : Small t) : Calls Try.prog 15 #[.agg (v.cells t), .int .i64 ty] w (RetC (partsW t ty) w) := by
  cases hx : exI t.types.length ty
  · have : partsW t ty = [] := by simp [partsW, hx]
    rw [this]
    exact refParts_none w v t ty hT.2.2.1 hx
  · have h0 : 0 ≤ ty ∧ ty < t.types.length := by simpa [exI] using hx
    obtain ⟨k, rfl⟩ := Int.eq_ofNat_of_zero_le h0.1
    have hk : k < t.types.length := by omega
    have he : t.types[k]? = some t.types[k] := List.getElem?_eq_getElem hk
    have : partsW t k = (subsR t.types[k]).foldl (fun l s => subW t k s l) (l0R t k t.types[k]) := by
      rw [← raw_fold]
      simp [partsW, hx, he]
    rw [this]
    exact refParts_some w v t k _ hT he (hs _ (List.getElem_mem hk))
end Go.Proofs.Ytbjnoffdafpkgaa
