/- ScopeKnown's walk. -/
import Derived.Test.YtlgcboaojdhneaaP4
namespace Go.Proofs.Ytlgcboaojdhneaa
open Go.RowKit

theorem ent_zero {w : World} {v : TabV} {t : Tab} {g : Nat} (hT : TabIn w v t) (he : v.ea = some ⟨g, 0, none⟩) {k : Nat} {x : EntV} (hx : t.ents[k]? = some x) : w.rangeAt g (k * 22) x.cells := by
  obtain ⟨b, o, e, hr⟩ := hT.es.some_ hx
  rw [he] at e
  injection e with e
  injection e with e1 e2
  subst e1 e2
  have := hr k x hx
  rwa [Nat.zero_add] at this
theorem plain_in {x : EntV} (w : World) (h : (x.params.isEmpty && x.pa.isNone && decide (x.pc = 0) && decide (x.name.size ≤ 140737488355328)) = true) : EntIn w x := by
  simp only [Bool.and_eq_true, List.isEmpty_iff, Option.isNone_iff_eq_none, decide_eq_true_eq] at h
  obtain ⟨⟨⟨h1, h2⟩, h3⟩, h4⟩ := h
  have hp : PlainE x := ⟨h1, h2, h3, h4⟩
  exact ⟨hp.par w, hp.ok⟩
theorem drew_obj' {W : World} {k : Nat} {x : Option Obj} (h : W.heap[k]? = x) : W.drew.heap[k]? = x := h
theorem RetAdd.ok1 {v : TabV} {t : Tab} {x : EntV} {w w' : World} {e : Ending} (h : RetAdd v t x w e w') (he : addErr t x = 0) : ∃ ea ec, e = .returned (.tuple #[.agg (({ v with ea := ea, ec := ec } : TabV).cells (addE t x)), .int .i64 0]) ∧ w'.ownsRow w.heap.size 43 22 (.slice ea (addE t x).ents.length ec) (addE t x).ents.length ((addE t x).ents.map EntV.cells).flatten ∧ Kept [] w w' := by
  rcases h with ⟨_, h⟩ | ⟨hn, _⟩
  · exact h
  · exact absurd he hn
theorem RetAdd.no1 {v : TabV} {t : Tab} {x : EntV} {w w' : World} {e : Ending} (h : RetAdd v t x w e w') (he : addErr t x ≠ 0) : e = .returned (.tuple #[.agg nilT, .int .i64 (addErr t x)]) ∧ Kept [] w w' := by
  rcases h with ⟨hn, _⟩ | ⟨_, h⟩
  · exact absurd hn he
  · exact h
def litE : EntV := { nothingE 10 ⟨#[84, 114, 117, 101]⟩ with t := 3 }
def renE : EntV := { nothingE 2 ⟨#[82]⟩ with owner := 19, of_ := 15, ren := true }
def pl1 : List EntV := some7 ++ [renE]
theorem pl1_plain : ∀ x, x ∈ pl1 → PlainE x := by
  intro x hx
  rcases List.mem_append.1 hx with hx | hx
  · exact some7_plain x hx
  · simp at hx
    subst hx
    exact ⟨rfl, rfl, rfl, by decide⟩
def genP : EntV := { someE 2 ⟨#[80]⟩ 0 (-1) 0 0 with generic := true }
def pl2 : List EntV := [genP, someE 7 ⟨#[120]⟩ 15 1 0 0, someE 4 ⟨#[102]⟩ 15 1 0 0, someE 7 ⟨#[121]⟩ 15 1 1 0, someE 3 ⟨#[81]⟩ 0 (-1) 0 4, someE 4 ⟨#[102]⟩ 19 2 2 0, someE 8 ⟨#[120]⟩ 19 1 2 0, renE]
theorem pl2_plain : ∀ x, x ∈ pl2 → PlainE x := by
  intro x hx
  simp only [pl2, List.mem_cons, List.not_mem_nil, or_false] at hx
  rcases hx with rfl | rfl | rfl | rfl | rfl | rfl | rfl | rfl <;> exact ⟨rfl, rfl, rfl, by decide⟩
/-- Standard's types with Integer private. -/
def tys2 (kl : Nat) : List TyV := [stdTy 1 ⟨#[]⟩ (-1) none 0 [], { stdTy 2 ⟨#[73, 110, 116, 101, 103, 101, 114]⟩ 0 none 0 [] with priv := 15, full := 19 }, stdTy 3 ⟨#[66, 111, 111, 108, 101, 97, 110]⟩ 1 (some ⟨kl, 0, none⟩) 2 [⟨#[70, 97, 108, 115, 101]⟩, ⟨#[84, 114, 117, 101]⟩], stdTy 2 ⟨#[84, 105, 109, 101]⟩ 2 none 0 []]
def tabP (kl k1 k2 : Nat) : Tab := ⟨tys2 kl, stdSubs, stdEnts k1 k2 ++ pl2⟩
theorem RowsAt.keptX {α : Type} {k : Nat} {cells : α → List Value} {X : List Nat} {w w' : World} {A : Option Addr} {l : List α} (h : RowsAt α k cells w A l) (hk : Kept X w w') (hX : ∀ a, A = some a → a.block ∉ X) : RowsAt α k cells w' A l := by
  rcases h with h | ⟨b, o, e, hc⟩
  · exact .inl h
  · exact .inr ⟨b, o, e, fun j r hr i u hu => hk.cell (hc j r hr i u hu) (show b ∉ X from hX _ e)⟩
theorem ne_ty {w : World} {a b : Nat} {c c' : Array Value} {t t' : TypeId} {f f' : Nat × Nat} (h : w.heap[a]? = some (.cells c t f)) (h' : w.heap[b]? = some (.cells c' t' f')) (ht : t ≠ t') : a ≠ b := by
  rintro rfl
  rw [h] at h'
  simp only [Option.some.injEq, Obj.cells.injEq] at h'
  exact ht h'.2.1
def whN (r a : Int) : WhV := ⟨r, a, none, 0, [], none, 0, []⟩
set_option maxRecDepth 100000 in
set_option maxHeartbeats 1000000 in
/-- Add on a table that is full: nothing of it is read but its length. -/
theorem add_long (w : World) (a0 a1 a2 a3 a4 : Option Addr) (n0 n1 n2 n3 n4 c0 c1 c2 c3 c4 : Nat) (x : EntV) (h : 4096 ≤ n2) :
    Calls Try.prog 26 #[.agg #[.slice a0 n0 c0, .slice a1 n1 c1, .slice a2 n2 c2, .slice a3 n3 c3, .slice a4 n4 c4], .agg x.cells.toArray] w (fun e w' => e = .returned (.tuple #[.agg #[.slice none 0 0, .slice none 0 0, .slice none 0 0, .slice none 0 0, .slice none 0 0], .int .i64 3]) ∧ Kept [] w w') := by
  go_enter Try.func26, Try.ntmps26
  go_wp2_with fail
  refine bodyPost_ret (results26_of (c := #[.slice none 0 0, .slice none 0 0, .slice none 0 0, .slice none 0 0, .slice none 0 0]) rfl rfl rfl (row_range (obj_new (by simp)))) rfl ⟨rfl, ?_⟩
  exact ((Kept.alloc _ _ _).trans (Kept.alloc _ _ _)).trans (Kept.alloc _ _ _)
theorem whN_in (W : World) (r a : Int) : WhIn W (whN r a) := ⟨.inl rfl, Nat.le_refl _, by show 0 ≤ _; omega, .inl rfl, Nat.le_refl _, by show 0 ≤ _; omega⟩
theorem std_lit_wf (kl k1 k2 : Nat) : ∀ x, x ∈ (addE (stdT kl k1 k2) litE).ents → (Lit.int .i64 x.owner).wf = true := by
  have h : ((addE (stdT kl k1 k2) litE).ents.all fun x => (Lit.int .i64 x.owner).wf) = true := by kernel_rfl
  intro x hx
  exact List.all_eq_true.1 h x hx
theorem std_wf (kl k1 k2 : Nat) : ∀ x, x ∈ (stdT kl k1 k2).ents → (Lit.int .i64 x.owner).wf = true := by
  have h : ((stdT kl k1 k2).ents.all fun x => (Lit.int .i64 x.owner).wf) = true := by kernel_rfl
  intro x hx
  exact List.all_eq_true.1 h x hx

set_option maxRecDepth 100000 in
set_option maxHeartbeats 4000000 in
theorem known_any (w : World) : Calls Try.prog 9 #[] w (RetB true w) := by
  obtain ⟨i3, hi3, hz3, hs3, _⟩ := info_parts' int_info'
  go_enter Try.func9, Try.ntmps9
  go_upto_region 2 with (first
    | (go_at_call 30
       refine (std_any w).mono ?_
       rintro e w1 ⟨v, kl, k1, k2, rfl, ho1, hm1, hk1⟩
       have HO1 := Lib.hid ho1
       have HM1 := Lib.hid hm1
       have HK1 := Lib.hid hk1
       clear ho1 hm1 hk1)
    | (guard_hyp HK1
       refine wpList_store_new rfl 28 (.tmp 1) (.tmp 16) rfl _ (v.cells (stdT kl k1 k2)) w1.heap.size rfl rfl rfl (Try.info28 v _) rfl (tab_one _ _) ?_))
  refine wp_gen' ?_
  intro w2 hw2
  have hk2 : Kept [] w1 w2 := by rw [hw2]; exact Kept.alloc _ _ _
  have HBT : Hid (w2.heap[w1.heap.size]? = some (.cells (v.cells (stdT kl k1 k2)) 28 (0, 0))) := by rw [Hid, hw2]; exact heap_alloc_new _ _
  have HK2 : Hid (Kept [] w w2) := HK1.out.trans hk2
  have HT2 : Hid (TabIn w2 v (stdT kl k1 k2)) := (tabIn_std (base := w.heap.size) [] (by simp) HM1.out HO1.out).kept hk2
  have HM2 : Hid (StdMem w2 v kl k1 k2) := HM1.out.kps (KpS.of_kept (n := 0) hk2)
  obtain ⟨g, gc, hg, hg1, hg2⟩ := HO1.out.form (by decide)
  injection hg with hg3 _ hg4
  have HEA : Hid (v.ea = some ⟨g, 0, none⟩) := hg3
  obtain ⟨kt, ht1, ht2, ht3⟩ := HM2.out.ty
  obtain ⟨ks, hs1, hs2, hs3'⟩ := HM2.out.sb
  generalize w1.heap.size = B at *
  have d0 : w2.cell? ⟨B, 0, none⟩ = some (.slice (some ⟨kt, 0, none⟩) 4 4) := by have h := cell_of_row _ _ 0 _ _ _ HBT.out; rw [h]; show some (Value.slice v.ta 4 v.tc) = _; rw [ht1, ht2]
  have d1 : w2.cell? ⟨B, 1, none⟩ = some (.slice (some ⟨ks, 0, none⟩) 5 5) := by have h := cell_of_row _ _ 1 _ _ _ HBT.out; rw [h]; show some (Value.slice v.sa 5 v.sc) = _; rw [hs1, hs2]
  have d2 : w2.cell? ⟨B, 2, none⟩ = some (.slice (some ⟨g, 0, none⟩) 15 v.ec) := by have h := cell_of_row _ _ 2 _ _ _ HBT.out; rw [h]; show some (Value.slice v.ea 15 v.ec) = _; rw [HEA.out]
  have c1 : w2.cell? ⟨g, 309, none⟩ = some (.string ⟨#[67, 108, 111, 99, 107]⟩) := ent_zero HT2.out HEA.out (k := 14) (x := clockE) rfl 1 _ rfl
  have c2 : w2.cell? ⟨g, 159, none⟩ = some (.int .i64 4) := ent_zero HT2.out HEA.out (k := 7) (x := stdE 6 ⟨#[80, 111, 115, 105, 116, 105, 118, 101]⟩ 1 4 0 none 0 []) rfl 5 _ rfl
  have c3 : w2.cell? ⟨ks, 13, none⟩ = some (.int .i64 1) := by have h := cell_of_row _ _ 13 _ _ _ hs3'; rw [h]; rfl
  have HEC : Hid (15 ≤ v.ec) := HT2.out.el
  clear hw2 hk2 HO1 HM1 HK1 hg1 hg2 hg3 hg4 ht1 ht2 ht3 hs1 hs2 hs3'
  go_upto_region 4 with (fail)
  clear d0 d1 d2 c1 c2 c3
  have HD : Hid (∀ wx, Kept [] w2 wx → (wx.cell? ⟨B, 0, none⟩ = some (.slice v.ta 4 v.tc) ∧ wx.cell? ⟨B, 1, none⟩ = some (.slice v.sa 5 v.sc) ∧ wx.cell? ⟨B, 2, none⟩ = some (.slice v.ea 15 v.ec) ∧ wx.cell? ⟨B, 3, none⟩ = some (.slice v.ga v.gn v.gc) ∧ wx.cell? ⟨B, 4, none⟩ = some (.slice v.ia v.im v.ic) ∧ Kept [] w2 wx)) := fun W hk => by
    have hb := hk.obj HBT.out (by simp)
    have c : ∀ j, W.cell? ⟨B, j, none⟩ = (v.cells (stdT kl k1 k2))[j]? := fun j => cell_of_row _ _ _ _ _ _ hb
    exact ⟨c 0, c 1, c 2, c 3, c 4, hk⟩
  have HC26 : Hid (∀ W, Kept [] w2 W → Calls Try.prog 26 #[.agg #[.slice v.ta 4 v.tc, .slice v.sa 5 v.sc, .slice v.ea 15 v.ec, .slice v.ga v.gn v.gc, .slice v.ia v.im v.ic], .agg (nothingE 7 ⟨#[84, 114, 117, 101]⟩).cells.toArray] W (fun e w' => e = .returned (.tuple #[.agg #[.slice none 0 0, .slice none 0 0, .slice none 0 0, .slice none 0 0, .slice none 0 0], .int .i64 81]) ∧ Kept [] W w')) := fun W hk => by
    have he : addErr (stdT kl k1 k2) (nothingE 7 ⟨#[84, 114, 117, 101]⟩) = 81 := by kernel_rfl
    refine (add_ent W v (stdT kl k1 k2) (nothingE 7 ⟨#[84, 114, 117, 101]⟩) (HT2.out.kept hk) (plain_in W (by decide)) (by show 15 ≤ 5000; omega)).mono fun e w' h => ?_
    have h2 := RetAdd.no1 h (by rw [he]; decide)
    rw [he] at h2
    exact h2
  have HSET : Hid (∀ (w4 : World) (K : Nat), Kept [] w2 w4 → w2.heap.size ≤ K → Kept [] w2 (((((w4.setCell ⟨K, 0, none⟩ (.slice none 0 0)).setCell ⟨K, 1, none⟩ (.slice none 0 0)).setCell ⟨K, 2, none⟩ (.slice none 0 0)).setCell ⟨K, 3, none⟩ (.slice none 0 0)).setCell ⟨K, 4, none⟩ (.slice none 0 0))) := fun w4 K hk hK =>
    hk.above (X := [K]) (((((Kept.setCell _ _ _ (by simp)).trans (Kept.setCell _ _ _ (by simp))).trans (Kept.setCell _ _ _ (by simp))).trans (Kept.setCell _ _ _ (by simp))).trans (Kept.setCell _ _ _ (by simp))) (by simpa using hK)
  have HNILC : Hid (∀ (W : World) (K : Nat), W.heap[K]? = some (.cells #[.slice none 0 0, .slice none 0 0, .slice none 0 0, .slice none 0 0, .slice none 0 0] 28 (0, 0)) → (W.cell? ⟨K, 0, none⟩ = some (.slice none 0 0) ∧ W.cell? ⟨K, 1, none⟩ = some (.slice none 0 0) ∧ W.cell? ⟨K, 2, none⟩ = some (.slice none 0 0) ∧ W.cell? ⟨K, 3, none⟩ = some (.slice none 0 0) ∧ W.cell? ⟨K, 4, none⟩ = some (.slice none 0 0) ∧ ∀ j, W.frozen? ⟨K, j, none⟩ = false)) := fun W K h => by
    have c : ∀ j, W.cell? ⟨K, j, none⟩ = _ := fun j => cell_of_row _ _ j _ _ _ h
    exact ⟨c 0, c 1, c 2, c 3, c 4, fun j => frozen_of_row _ _ j _ _ h⟩
  have HKP : Hid (Kept [] w2 w2) := Kept.refl _ _
  go_cut [3] (fun v3 wc => v3 = .int .i64 81 ∧ Kept [] w2 wc)
  case first =>
    go_region_held3 (fun wx => wx.cell? ⟨B, 0, none⟩ = some (.slice v.ta 4 v.tc) ∧ wx.cell? ⟨B, 1, none⟩ = some (.slice v.sa 5 v.sc) ∧ wx.cell? ⟨B, 2, none⟩ = some (.slice v.ea 15 v.ec) ∧ wx.cell? ⟨B, 3, none⟩ = some (.slice v.ga v.gn v.gc) ∧ wx.cell? ⟨B, 4, none⟩ = some (.slice v.ia v.im v.ic) ∧ Kept [] w2 wx)
      (first | exact HD.out _ HK5.out | exact HD.out _ HK4.out | exact HD.out _ (HK4.out.trans (Kept.alloc _ _ _)) | exact HD.out _ HK3.out | exact HD.out _ (HK3.out.trans (Kept.alloc _ _ _)) | exact HD.out _ ((Kept.alloc _ _ _).trans (Kept.drew _ _)) | exact HD.out _ (Kept.drew _ _) | exact HD.out _ HKP.out)
      (first
        | (go_at_call 37
           have hkx := (‹_ ∧ _ ∧ _ ∧ _ ∧ _ ∧ Kept [] w2 _›).2.2.2.2.2
           refine (nothing_any (w2.alloc (.cells #[.slice none 0 0, .slice none 0 0, .slice none 0 0, .slice none 0 0, .slice none 0 0] 28)).drew 7 ⟨#[84, 114, 117, 101]⟩).mono ?_
           rintro e w3 ⟨rfl, hk3⟩
           have HZ3 : Hid (w3.heap[w2.heap.size]? = some (.cells #[.slice none 0 0, .slice none 0 0, .slice none 0 0, .slice none 0 0, .slice none 0 0] 28 (0, 0))) := hk3.obj (drew_obj' (heap_alloc_new w2 _)) (by simp)
           have HK3 := Lib.hid (hkx.trans hk3)
           clear hkx hk3)
        | (go_at_call 37
           have hkx := (‹_ ∧ _ ∧ _ ∧ _ ∧ _ ∧ Kept [] w2 _›).2.2.2.2.2
           refine (nothing_any w2.drew 7 ⟨#[84, 114, 117, 101]⟩).mono ?_
           rintro e w3 ⟨rfl, hk3⟩
           have HK3 := Lib.hid (hkx.trans hk3)
           clear hkx hk3)
        | (guard_hyp HZ3
           go_at_call 26
           refine (HC26.out w3 HK3.out).mono ?_
           rintro e w4 ⟨rfl, hk4⟩
           have HK4 := Lib.hid (HK3.out.trans hk4)
           obtain ⟨z0, z1, z2, z3, z4, zf⟩ := HNILC.out _ _ (hk4.obj HZ3.out (by simp))
           have HK5 := Lib.hid (HSET.out w4 w2.heap.size HK4.out (Nat.le_refl _))
           clear hk4)
        | (fail_if_success guard_hyp HZ3
           go_at_call 26
           refine (HC26.out (w3.alloc (.cells #[.slice none 0 0, .slice none 0 0, .slice none 0 0, .slice none 0 0, .slice none 0 0] 28)) (HK3.out.trans (Kept.alloc _ _ _))).mono ?_
           rintro e w4 ⟨rfl, hk4⟩
           have HK4 : Hid (Kept [] w2 w4) := HK3.out.trans ((Kept.alloc _ _ _).trans hk4)
           obtain ⟨z0, z1, z2, z3, z4, zf⟩ := HNILC.out _ _ (hk4.obj (heap_alloc_new w3 _) (by simp))
           have HK5 := Lib.hid (HSET.out w4 w3.heap.size HK4.out HK3.out.size)
           clear hk4)
        | (fail_if_success guard_hyp HZ3
           go_at_call 26
           refine (HC26.out w3 HK3.out).mono ?_
           rintro e w4 ⟨rfl, hk4⟩
           have HK4 := Lib.hid (HK3.out.trans hk4)
           have HK5 : Hid (Kept [] w2 (w4.alloc (.cells #[.slice none 0 0, .slice none 0 0, .slice none 0 0, .slice none 0 0, .slice none 0 0] 28))) := HK4.out.trans (Kept.alloc _ _ _)
           clear hk4))
    all_goals
      go_wp2_with fail
      go_meet
      exact ⟨rfl, HK5.out⟩
  case rest =>
    obtain ⟨rfl, hkc⟩ := hcut
    obtain ⟨w3, rfl⟩ : ∃ w3 : World, w3 = wc := ⟨_, rfl⟩
    have HK3 := Lib.hid hkc
    clear hkc HKP HNILC HSET HC26
    go_upto_region 6 with (first
      | (go_at_call 37
         refine (nothing_any w3 10 ⟨#[84, 114, 117, 101]⟩).mono ?_
         rintro e w4 ⟨rfl, hk4⟩
         have HK4 := Lib.hid (HK3.out.trans hk4)
         clear hk4)
      | (guard_hyp HK4
         refine wpList_store_new rfl 43 (.tmp 4) (.tmp 63) rfl _ (nothingE 10 ⟨#[84, 114, 117, 101]⟩).cells.toArray w4.heap.size rfl rfl rfl (Try.info43 _) rfl (EntV.one _) ?_))
    refine wp_gen' ?_
    intro w5 hw5
    have HK5 : Hid (Kept [] w2 w5) := by rw [Hid, hw5]; exact HK4.out.trans (Kept.alloc _ _ _)
    have HL5 : Hid (w5.heap[w4.heap.size]? = some (.cells (nothingE 10 ⟨#[84, 114, 117, 101]⟩).cells.toArray 43 (0, 0))) := by rw [Hid, hw5]; exact heap_alloc_new _ _
    have HLB : Hid (w2.heap.size ≤ w4.heap.size) := HK4.out.size
    generalize w4.heap.size = LB at *
    clear hw5 HK3 HK4
    have f4 := ent_cell (x := nothingE 10 ⟨#[84, 114, 117, 101]⟩) HL5.out 4 rfl
    have g4 := frozen_of_row _ _ 4 _ _ HL5.out
    go_upto_region 7 with (fail)
    refine wp_gen' ?_
    intro w6 hw6
    have HL6 : Hid (w6.heap[LB]? = some (.cells litE.cells.toArray 43 (0, 0))) := by
      rw [Hid, hw6]
      have hv : VRow w5 LB 43 (nothingE 10 ⟨#[84, 114, 117, 101]⟩).cells := HL5.out
      exact hv.set 4 (.int .i64 3)
    have HK6 : Hid (Kept [] w2 w6) := HK5.out.above (X := [LB]) (by rw [hw6]; exact Kept.setCell _ _ _ (by simp)) (by have := HLB.out; simpa using this)
    clear hw6 f4 g4 HL5 HK5
    haveI ix : EntAt w6 LB 0 litE := ⟨EntV.range HL6.out⟩
    obtain ⟨d0, d1, d2, d3, d4, _⟩ := HD.out _ HK6.out
    have HTI6 : Hid (TabIn w6 v (stdT kl k1 k2)) := HT2.out.kept HK6.out
    have HLI : Hid (∀ W, EntIn W litE) := fun W => plain_in W (by decide)
    have HC26 : Hid (Calls Try.prog 26 #[.agg #[.slice v.ta 4 v.tc, .slice v.sa 5 v.sc, .slice v.ea 15 v.ec, .slice v.ga v.gn v.gc, .slice v.ia v.im v.ic], .agg litE.cells.toArray] w6 (fun e w' => ∃ ea ec, e = .returned (.tuple #[.agg #[.slice v.ta 4 v.tc, .slice v.sa 5 v.sc, .slice ea 16 ec, .slice v.ga v.gn v.gc, .slice v.ia v.im v.ic], .int .i64 0]) ∧ TabIn w' { v with ea := ea, ec := ec } (addE (stdT kl k1 k2) litE) ∧ Kept [] w6 w')) := by
      have he : addErr (stdT kl k1 k2) litE = 0 := by kernel_rfl
      refine (add_ent w6 v (stdT kl k1 k2) litE HTI6.out (HLI.out _) (by show 15 ≤ 5000; omega)).mono fun e w' h => ?_
      obtain ⟨ea, ec, h1, h2, h3⟩ := RetAdd.ok1 h he
      exact ⟨ea, ec, h1, tabIn_add HTI6.out (HLI.out _) h3 h2, h3⟩
    go_upto_region 8 with (go_at_call 26; refine HC26.out.mono ?_; rintro e w7 ⟨ea, ec, rfl, htu, hk7⟩; have HTU := Lib.hid htu; have HK7 := Lib.hid (HK6.out.trans hk7); have HK67 := Lib.hid hk7; clear htu hk7)
    refine wp_gen' ?_
    intro w8 hw8
    have HK8 : Hid (Kept [] w2 w8) := by rw [Hid, hw8]; exact HK7.out.trans (Kept.alloc _ _ _)
    have HK68 : Hid (Kept [] w6 w8) := by rw [Hid, hw8]; exact HK67.out.trans (Kept.alloc _ _ _)
    have HTU8 : Hid (TabBox w8 w7.heap.size { v with ea := ea, ec := ec } (addE (stdT kl k1 k2) litE)) := ⟨by rw [hw8]; exact heap_alloc_new _ _, HTU.out.kept (by rw [hw8]; exact Kept.alloc _ _ _)⟩
    have HL8 : Hid (w8.heap[LB]? = some (.cells litE.cells.toArray 43 (0, 0))) := HK68.out.obj HL6.out (by simp)
    generalize w7.heap.size = UB at *
    clear hw8 d0 d1 d2 d3 d4 ix HTU HK7 HK67 HK68 HK6 HC26 HTI6 HL6
    have HDU : Hid (∀ wx, Kept [] w8 wx → (wx.cell? ⟨UB, 0, none⟩ = some (.slice v.ta 4 v.tc) ∧ wx.cell? ⟨UB, 1, none⟩ = some (.slice v.sa 5 v.sc) ∧ wx.cell? ⟨UB, 2, none⟩ = some (.slice ea 16 ec) ∧ wx.cell? ⟨UB, 3, none⟩ = some (.slice v.ga v.gn v.gc) ∧ wx.cell? ⟨UB, 4, none⟩ = some (.slice v.ia v.im v.ic))) := fun W hk => by
      obtain ⟨e0, e1, e2, e3, e4⟩ := (HTU8.out.kept hk).cells
      exact ⟨e0, e1, e2, e3, e4⟩
    have HF : Hid (∀ (W : World) (a : Int) (l : List Int), findR (addE (stdT kl k1 k2) litE) (whN 0 a) ⟨#[84, 114, 117, 101]⟩ = l → Kept [] w8 W → Calls Try.prog 16 #[.agg #[.slice v.ta 4 v.tc, .slice v.sa 5 v.sc, .slice ea 16 ec, .slice v.ga v.gn v.gc, .slice v.ia v.im v.ic], .agg #[.int .i64 0, .int .i64 a, .slice none 0 0, .slice none 0 0], .string ⟨#[84, 114, 117, 101]⟩] W (RetO l W)) := fun W a l hl hk => by
      subst hl
      exact find_at W { v with ea := ea, ec := ec } (addE (stdT kl k1 k2) litE) (whN 0 a) _ (HTU8.out.kept hk).tab (whN_in W _ _) (by show 16 ≤ 5000; omega) (by show 0 ≤ 100000; omega) (std_lit_wf kl k1 k2)
    have HV1 : Hid (findR (addE (stdT kl k1 k2) litE) (whN 0 16) ⟨#[84, 114, 117, 101]⟩ = [4, 15]) := by rw [Hid, ← find_ref]; kernel_rfl
    have HV2 : Hid (findR (addE (stdT kl k1 k2) litE) (whN 0 15) ⟨#[84, 114, 117, 101]⟩ = [4]) := by rw [Hid, ← find_ref]; kernel_rfl
    obtain ⟨e0, e1, e2, e3, e4⟩ := HDU.out _ (Kept.refl _ _)
    go_upto_region 9 with (first
      | (fail_if_success guard_hyp HK9
         go_at_call 16
         refine (HF.out _ 16 _ HV1.out (Kept.refl _ _)).mono ?_
         rintro e w9 ⟨v9, rfl, ho9, hk9⟩
         obtain ⟨A9, c9, rfl⟩ : ∃ A c, v9 = .slice A 2 c := own_shape ho9
         have HI9 := Lib.hid ((IntsC.of_owns ho9).at_)
         have HK9 := Lib.hid hk9
         clear ho9 hk9)
      | (guard_hyp HK9
         fail_if_success guard_hyp HK10
         go_at_call 21
         refine (same_len (w9.alloc (.cells #[.int .i64 4, .int .i64 15] 3)) A9 (some ⟨w9.heap.size, 0, none⟩) c9 2 [4, 15] [4, 15] 2 2 rfl rfl HI9.out.2.2.1 HI9.out.2.2.2.1 (HI9.out.2.1.kept (Kept.alloc _ _ _)) (by decide) (by decide) (IntsIn.of_vals (l := [4, 15]) (heap_alloc_new _ _))).mono ?_
         rintro e w10 ⟨rfl, hk10⟩
         rw [sameI_self]
         have HK10 : Hid (Kept [] w8 w10) := HK9.out.trans ((Kept.alloc _ _ _).trans hk10)
         clear hk10 e0 e1 e2 e3 e4
         obtain ⟨e0, e1, e2, e3, e4⟩ := HDU.out _ HK10.out)
      | (guard_hyp HK10
         fail_if_success guard_hyp HK11
         go_at_call 16
         refine (HF.out _ 15 _ HV2.out HK10.out).mono ?_
         rintro e w11 ⟨v11, rfl, ho11, hk11⟩
         obtain ⟨A11, c11, rfl⟩ : ∃ A c, v11 = .slice A 1 c := own_shape ho11
         have HI11 := Lib.hid ((IntsC.of_owns ho11).at_)
         have HK11 := Lib.hid (HK10.out.trans hk11)
         clear ho11 hk11)
      | (guard_hyp HK11
         go_at_call 21
         refine (same_len (w11.alloc (.cells #[.int .i64 4] 3)) A11 (some ⟨w11.heap.size, 0, none⟩) c11 1 [4] [4] 1 1 rfl rfl HI11.out.2.2.1 HI11.out.2.2.2.1 (HI11.out.2.1.kept (Kept.alloc _ _ _)) (by decide) (by decide) (IntsIn.of_vals (l := [4]) (heap_alloc_new _ _))).mono ?_
         rintro e w12 ⟨rfl, hk12⟩
         rw [sameI_self]
         have HK12 : Hid (Kept [] w8 w12) := HK11.out.trans ((Kept.alloc _ _ _).trans hk12)
         clear hk12 e0 e1 e2 e3 e4))
    clear HF HV1 HV2 HI9 HK9 HK10 HI11 HK11 HDU
    have HK12' : Hid (Kept [] w2 w12) := HK8.out.trans HK12.out
    obtain ⟨d0, d1, d2, d3, d4, _⟩ := HD.out _ HK12'.out
    obtain ⟨ie, hie, hez, hes, heb⟩ := info_parts ent_info
    go_upto_region 10 with (fail)
    refine wp_gen' ?_
    intro w13 hw13
    have HK13 : Hid (Kept [] w2 w13) := by rw [Hid, hw13]; exact HK12'.out.trans (Kept.alloc _ _ _)
    have HF13 : Hid (w13.heap[w12.heap.size]? = some (.cells #[.slice v.ta 4 v.tc, .slice v.sa 5 v.sc, .slice v.ea 15 v.ec, .slice v.ga v.gn v.gc, .slice v.ia v.im v.ic] 28 (0, 0))) := by rw [Hid, hw13]; exact heap_alloc_new _ _
    have HL13 : Hid (w13.heap[LB]? = some (.cells litE.cells.toArray 43 (0, 0))) := by rw [Hid, hw13]; exact (Kept.alloc [] _ _).obj (HK12.out.obj HL8.out (by simp)) (by simp)
    have HFB : Hid (w2.heap.size ≤ w12.heap.size ∧ LB < w12.heap.size) := ⟨HK12'.out.size, (Array.getElem?_eq_some_iff.1 (HK12.out.obj HL8.out (by simp))).1⟩
    have HTU13 : Hid (Kept [] w8 w13) := by rw [Hid, hw13]; exact HK12.out.trans (Kept.alloc _ _ _)
    generalize w12.heap.size = FB at *
    clear hw13 d0 d1 d2 d3 d4 HK12 HK12' HL8
    have hmb : Hid (ie.bytes * 4096 ≤ 281474976710656) := by rw [Hid, heb]; omega
    have f2 : w13.cell? ⟨FB, 2, none⟩ = some (.slice v.ea 15 v.ec) := (cell_of_row _ _ _ _ _ _ HF13.out).trans rfl
    go_upto_region 11 with (at_make
                            refine wpList_make_full _ rfl _ _ 24 rfl w13.heap.size 43 ie _ 22 Try.underlying24 hie hez hes .i64 .i64 4096 4096 4096 rfl rfl rfl rfl hmb.out (by unfold maxLen; omega) (Nat.le_refl _) ?_
                            intro w14 hown14 hgr14
                            have HK14 : Hid (Kept [] w13 w14) := Kept.of_grown hgr14 (fun q hq => by cases hq)
                            have f2 : w14.cell? ⟨FB, 2, none⟩ = some (.slice v.ea 15 v.ec) := HK14.out.cell f2 (by simp)
                            have g2 := frozen_of_row _ _ 2 _ _ (HK14.out.obj HF13.out (by simp))
                            clear hown14 hgr14)
    refine wp_gen' ?_
    intro w15 hw15
    have HK15f : Hid (Kept [FB] w14 w15) := by rw [Hid, hw15]; exact Kept.setCell _ _ _ (by simp)
    have HF15 : Hid (w15.heap[FB]? = some (.cells #[.slice v.ta 4 v.tc, .slice v.sa 5 v.sc, .slice (some ⟨w13.heap.size, 0, none⟩) 4096 4096, .slice v.ga v.gn v.gc, .slice v.ia v.im v.ic] 28 (0, 0))) := by
      rw [Hid, hw15]
      have hv : VRow w14 FB 28 [.slice v.ta 4 v.tc, .slice v.sa 5 v.sc, .slice v.ea 15 v.ec, .slice v.ga v.gn v.gc, .slice v.ia v.im v.ic] := HK14.out.obj HF13.out (by simp)
      exact hv.set 2 (.slice (some ⟨w13.heap.size, 0, none⟩) 4096 4096)
    have HL15 : Hid (w15.heap[LB]? = some (.cells litE.cells.toArray 43 (0, 0))) := HK15f.out.obj (HK14.out.obj HL13.out (by simp)) (by have := HFB.out; simp; omega)
    have HK15 : Hid (Kept [] w2 w15) := (HK13.out.trans HK14.out).above HK15f.out (by have := HFB.out; simp; omega)
    clear hw15 f2 g2 HK15f HF13 HL13 HK13 HK14 HTU13 hmb
    have e0 : w15.cell? ⟨FB, 0, none⟩ = some (.slice v.ta 4 v.tc) := (cell_of_row _ _ _ _ _ _ HF15.out).trans rfl
    have e1 : w15.cell? ⟨FB, 1, none⟩ = some (.slice v.sa 5 v.sc) := (cell_of_row _ _ _ _ _ _ HF15.out).trans rfl
    have e2 : w15.cell? ⟨FB, 2, none⟩ = some (.slice (some ⟨w13.heap.size, 0, none⟩) 4096 4096) := (cell_of_row _ _ _ _ _ _ HF15.out).trans rfl
    have e3 : w15.cell? ⟨FB, 3, none⟩ = some (.slice v.ga v.gn v.gc) := (cell_of_row _ _ _ _ _ _ HF15.out).trans rfl
    have e4 : w15.cell? ⟨FB, 4, none⟩ = some (.slice v.ia v.im v.ic) := (cell_of_row _ _ _ _ _ _ HF15.out).trans rfl
    haveI ix : EntAt w15 LB 0 litE := ⟨EntV.range HL15.out⟩
    go_upto_region 12 with (go_at_call 26; refine (add_long w15 v.ta v.sa (some ⟨w13.heap.size, 0, none⟩) v.ga v.ia 4 5 4096 v.gn v.im v.tc v.sc 4096 v.gc v.ic litE (Nat.le_refl _)).mono ?_; rintro e w16 ⟨rfl, hk16⟩; have HK16 := Lib.hid (HK15.out.trans hk16); clear hk16)
    refine wp_gen' ?_
    intro w17 hw17
    have HK17 : Hid (Kept [] w2 w17) := by rw [Hid, hw17]; exact HK16.out.trans (Kept.alloc _ _ _)
    clear hw17 e0 e1 e2 e3 e4 ix HF15 HL15 HK15 HK16
    go_upto_region 13 with (first
      | (go_at_call 38
         refine (some_new w17).mono ?_
         rintro e w18 ⟨vp, ql, q1, q2, rfl, ho18, hm18, hk18, hfr⟩
         have HFR := Lib.hid hfr
         have HO18 := Lib.hid ho18
         have HM18 := Lib.hid hm18
         have HK18 := Lib.hid hk18
         clear ho18 hm18 hk18 hfr)
      | (guard_hyp HK18
         refine wpList_store_new rfl 28 (.tmp 11) (.tmp 106) rfl _ (vp.cells (someT ql q1 q2)) w18.heap.size rfl rfl rfl (Try.info28 vp _) rfl (tab_one _ _) ?_))
    refine wp_gen' ?_
    intro w19 hw19
    have hk19 : Kept [] w18 w19 := by rw [hw19]; exact Kept.alloc _ _ _
    have HB19 : Hid (BoxT w19 w17.heap.size w18.heap.size vp (someT ql q1 q2)) := ⟨by rw [hw19]; exact heap_alloc_new _ _, own_keep HO18.out hk19 (by simp), HK18.out.size⟩
    have HM19 : Hid (StdMem w19 vp ql q1 q2) := HM18.out.kps (KpS.of_kept (n := 0) hk19)
    have HKS19 : Hid (KpS w17.heap.size w17 w19) := KpS.of_kept (HK18.out.trans hk19)
    obtain ⟨n, hn⟩ : ∃ n, n = w17.heap.size := ⟨_, rfl⟩
    have HN := Lib.hid hn
    rw [← hn] at HB19 HKS19
    generalize w18.heap.size = PB at *
    clear hw19 hk19 HO18 HM18 HK18 hn
    go_upto_region 14 with (first
      | (go_at_call 37
         refine (nothing_any w19 2 ⟨#[82]⟩).mono ?_
         rintro e w20 ⟨rfl, hk20⟩
         have HK20 := Lib.hid hk20
         clear hk20)
      | (guard_hyp HK20
         refine wpList_store_new rfl 43 (.tmp 12) (.tmp 107) rfl _ (nothingE 2 ⟨#[82]⟩).cells.toArray w20.heap.size rfl rfl rfl (Try.info43 _) rfl (EntV.one _) ?_))
    refine wp_gen' ?_
    intro w21 hw21
    have HK21 : Hid (Kept [] w19 w21) := by rw [Hid, hw21]; exact HK20.out.trans (Kept.alloc _ _ _)
    have HR21 : Hid (w21.heap[w20.heap.size]? = some (.cells (nothingE 2 ⟨#[82]⟩).cells.toArray 43 (0, 0))) := by rw [Hid, hw21]; exact heap_alloc_new _ _
    have HRB : Hid (w19.heap.size ≤ w20.heap.size) := HK20.out.size
    generalize w20.heap.size = RB at *
    clear hw21 HK20
    have r2 := ent_cell (x := nothingE 2 ⟨#[82]⟩) HR21.out 2 rfl
    have r7 := ent_cell (x := nothingE 2 ⟨#[82]⟩) HR21.out 7 rfl
    have r8 := ent_cell (x := nothingE 2 ⟨#[82]⟩) HR21.out 8 rfl
    have g2 := frozen_of_row _ _ 2 _ _ HR21.out
    have g7 := frozen_of_row _ _ 7 _ _ HR21.out
    have g8 := frozen_of_row _ _ 8 _ _ HR21.out
    go_upto_region 15 with (fail)
    refine wp_gen' ?_
    intro w22 hw22
    have HR22 : Hid (w22.heap[RB]? = some (.cells renE.cells.toArray 43 (0, 0))) := by
      rw [Hid, hw22]
      have hv : VRow w21 RB 43 (nothingE 2 ⟨#[82]⟩).cells := HR21.out
      exact ((hv.set 2 (.int .i64 19)).set 7 (.int .i64 15)).set 8 (.bool true)
    have HK22 : Hid (Kept [] w19 w22) := HK21.out.above (X := [RB]) (by rw [hw22]; exact ((Kept.setCell _ _ _ (by simp)).trans (Kept.setCell _ _ _ (by simp))).trans (Kept.setCell _ _ _ (by simp))) (by have := HRB.out; simpa using this)
    clear hw22 r2 r7 r8 g2 g7 g8 HR21 HK21
    have hB22 : w22.heap[PB]? = some (.cells (vp.cells (someT ql q1 q2)) 28 (0, 0)) := HK22.out.obj HB19.out.box (by simp)
    have HB22 := Lib.hid hB22
    have HO22 : Hid (w22.ownsRow n 43 22 (.slice vp.ea 22 vp.ec) 22 ((someEnts q1 q2).map EntV.cells).flatten) := own_keep HB19.out.own HK22.out (by simp)
    have hnB : Hid (n ≤ PB) := HB19.out.hn
    have HPBlt : Hid (PB < w22.heap.size) := (Array.getElem?_eq_some_iff.1 hB22).1
    haveI ix : EntAt w22 RB 0 renE := ⟨EntV.range HR22.out⟩
    have cB : w22.cell? ⟨PB, 2, none⟩ = some (.slice vp.ea 22 vp.ec) := (cell_of_row _ _ _ _ _ _ hB22).trans rfl
    have hsrc : ∀ kb, kb = w22.heap.size → SrcAt (w22.alloc (.cells renE.cells.toArray 43)) 22 (some ⟨kb, 0, none⟩) 1 renE.cells := by
      rintro kb rfl
      refine ⟨rfl, fun _ => ⟨_, rfl, fun j u hu => ?_⟩⟩
      rw [Addr.add_mid, Nat.zero_add, cell_of_row _ _ _ _ _ _ (heap_alloc_new _ _)]
      simpa using hu
    have HSRC := Lib.hid hsrc
    have h1c : ∀ u ∈ renE.cells, u.oneCell' = true := by have := EntV.one renE; simpa using this
    have H1C := Lib.hid h1c
    have hC : Hid (n ≤ (w22.alloc (.cells renE.cells.toArray 43)).heap.size) := by have := HPBlt.out; have := hnB.out; simp [Hid]; omega
    have hG : Hid (∀ g, (Value.slice vp.ea 22 vp.ec).ownBlock = some g → g ≠ PB ∧ n ≤ g ∧ ∃ c, w22.heap[g]? = some (.cells c 43 (0, 0))) := fun g hg => by
      obtain ⟨c, hc⟩ := own_row_at' HO22.out hg
      refine ⟨?_, own_at HO22.out g hg, c, hc⟩
      rintro rfl
      have h2 := HB22.out
      rw [hc] at h2
      simp at h2
    clear hB22 hsrc h1c
    go_upto_region 16 with (at_builtin
                            go_loud (refine wpList_append_src _ rfl (.tmp 112) (.tmp 114) 24 rfl n 43 ie (.agg zeroE.cells.toArray) 22 176 Try.underlying24 hie hez hes heb rfl (by decide) (.slice vp.ea 22 vp.ec) 22 ((someEnts q1 q2).map EntV.cells).flatten rfl (HO22.out.alloc _) (some ⟨w22.heap.size, 0, none⟩) 1 1 renE.cells rfl (HSRC.out _ rfl) H1C.out (by unfold maxLen; omega) (by omega) hC.out ?_)
                            intro vb wb hob hgb hbb
                            obtain ⟨Ab, cb, rfl⟩ := own_shape hob
                            have HOB := Lib.hid hob
                            have HGB := Lib.hid hgb
                            have hBb : wb.heap[PB]? = some (.cells (vp.cells (someT ql q1 q2)) 28 (0, 0)) := (hgb.block PB (by have := HPBlt.out; simp; omega) (fun e => (hG.out PB e.symm).1 rfl)).trans (obj_old HB22.out HPBlt.out)
                            have HBB := Lib.hid hBb
                            have cBb : wb.cell? ⟨PB, 2, none⟩ = some (.slice vp.ea 22 vp.ec) := (cell_of_row _ _ _ _ _ _ hBb).trans rfl
                            have fBb := frozen_of_row _ _ 2 _ _ hBb
                            clear hob hgb hbb hBb)
    refine wp_gen' ?_
    intro w23 hw23
    have HB23 : Hid (w23.heap[PB]? = some (.cells (#[.slice vp.ta 4 vp.tc, .slice vp.sa 5 vp.sc, .slice Ab 23 cb, .slice vp.ga vp.gn vp.gc, .slice vp.ia vp.im vp.ic] : Array Value) 28 (0, 0))) := by
      rw [Hid, hw23]
      have hv : VRow wb PB 28 (vp.cells (someT ql q1 q2)).toList := HBB.out
      exact hv.set 2 (.slice Ab 23 cb)
    have HO23 : Hid (w23.ownsRow n 43 22 (.slice Ab 23 cb) 23 ((stdEnts q1 q2 ++ pl1).map EntV.cells).flatten) := by
      have h := own_keep HOB.out (X := [PB]) (w' := w23) (by rw [hw23]; exact Kept.setCell _ _ _ (by simp)) (own_not HOB.out HBB.out)
      have e : ((someEnts q1 q2).map EntV.cells).flatten ++ renE.cells = ((stdEnts q1 q2 ++ pl1).map EntV.cells).flatten := by
        simp [someEnts, pl1]
      rw [e] at h
      exact h
    have HKS23 : Hid (KpS n w17 w23) := by
      rw [Hid, hw23]
      refine ((HKS19.out.trans (KpS.of_kept HK22.out)).trans ((KpS.of_kept (Kept.alloc _ _ _)).trans (KpS.of_grown HGB.out ?_))).trans (KpS.setCell _ _ _ HBB.out hnB.out (.inr rfl))
      intro g hg _
      obtain ⟨_, h1, c, hc⟩ := hG.out g hg
      exact ⟨h1, c, (0, 0), obj_old hc (Array.getElem?_eq_some_iff.1 hc).1⟩
    have HM23 : Hid (StdMem w23 { vp with ea := Ab, ec := cb } ql q1 q2) := by
      have h1 : KpS n w19 w23 := by
        rw [hw23]
        refine ((KpS.of_kept HK22.out).trans ((KpS.of_kept (Kept.alloc _ _ _)).trans (KpS.of_grown HGB.out ?_))).trans (KpS.setCell _ _ _ HBB.out hnB.out (.inr rfl))
        intro g hg _
        obtain ⟨_, h1, c, hc⟩ := hG.out g hg
        exact ⟨h1, c, (0, 0), obj_old hc (Array.getElem?_eq_some_iff.1 hc).1⟩
      exact (HM19.out.kps h1).ents Ab cb
    clear hw23 HOB HGB HBB HB22 HO22 HSRC hC hG HPBlt HR22 HK22 HRB HB19 HM19 HKS19 cB ix
    have HT23 : Hid (TabIn w23 { vp with ea := Ab, ec := cb } (tabE ql (stdEnts q1 q2 ++ pl1))) := tabIn_std pl1 pl1_plain HM23.out HO23.out
    have HDP : Hid (∀ wx, Kept [] w23 wx → (wx.cell? ⟨PB, 0, none⟩ = some (.slice vp.ta 4 vp.tc) ∧ wx.cell? ⟨PB, 1, none⟩ = some (.slice vp.sa 5 vp.sc) ∧ wx.cell? ⟨PB, 2, none⟩ = some (.slice Ab 23 cb) ∧ wx.cell? ⟨PB, 3, none⟩ = some (.slice vp.ga vp.gn vp.gc) ∧ wx.cell? ⟨PB, 4, none⟩ = some (.slice vp.ia vp.im vp.ic))) := fun W hk => by
      have hb := hk.obj HB23.out (by simp)
      have c : ∀ j, W.cell? ⟨PB, j, none⟩ = _ := fun j => cell_of_row _ _ j _ _ _ hb
      exact ⟨c 0, c 1, c 2, c 3, c 4⟩
    have HBS : Hid (∀ (W : World) (e r : Int), baseR (tabE ql (stdEnts q1 q2 ++ pl1)) e = r → Kept [] w23 W → Calls Try.prog 12 #[.agg #[.slice vp.ta 4 vp.tc, .slice vp.sa 5 vp.sc, .slice Ab 23 cb, .slice vp.ga vp.gn vp.gc, .slice vp.ia vp.im vp.ic], .int .i64 e] W (RetI r W)) := fun W e r hr hk => by
      subst hr
      exact base_any W { vp with ea := Ab, ec := cb } (tabE ql (stdEnts q1 q2 ++ pl1)) e (HT23.out.kept hk)
    have HSL : Hid (∀ (W : World) (l : List Int), selR (tabE ql (stdEnts q1 q2 ++ pl1)) (whN 19 23) 22 ⟨#[102]⟩ = l → Kept [] w23 W → Calls Try.prog 13 #[.agg #[.slice vp.ta 4 vp.tc, .slice vp.sa 5 vp.sc, .slice Ab 23 cb, .slice vp.ga vp.gn vp.gc, .slice vp.ia vp.im vp.ic], .agg #[.int .i64 19, .int .i64 23, .slice none 0 0, .slice none 0 0], .int .i64 22, .string ⟨#[102]⟩] W (RetC l W)) := fun W l hl hk => by
      subst hl
      exact select_any W { vp with ea := Ab, ec := cb } (tabE ql (stdEnts q1 q2 ++ pl1)) (whN 19 23) 22 _ (HT23.out.kept hk) (whN_in W _ _) (by show 23 ≤ 100000; omega)
    have HV1 : Hid (baseR (tabE ql (stdEnts q1 q2 ++ pl1)) 22 = 15) := by rw [Hid]; kernel_rfl
    have HV2 : Hid (baseR (tabE ql (stdEnts q1 q2 ++ pl1)) 15 = 15) := by rw [Hid]; kernel_rfl
    have HV3 : Hid (baseR (tabE ql (stdEnts q1 q2 ++ pl1)) 23 = -1) := by rw [Hid]; kernel_rfl
    have HV4 : Hid (selR (tabE ql (stdEnts q1 q2 ++ pl1)) (whN 19 23) 22 ⟨#[102]⟩ = [17]) := by rw [Hid]; kernel_rfl
    obtain ⟨e0, e1, e2, e3, e4⟩ := HDP.out _ (Kept.refl _ _)
    go_upto_region 17 with (first
      | (fail_if_success guard_hyp HP1
         go_at_call 12
         refine (HBS.out _ 22 _ HV1.out (Kept.refl _ _)).mono ?_
         rintro e x1 ⟨rfl, hk⟩
         have HP1 := Lib.hid hk
         clear hk e0 e1 e2 e3 e4
         obtain ⟨e0, e1, e2, e3, e4⟩ := HDP.out _ HP1.out)
      | (guard_hyp HP1
         fail_if_success guard_hyp HP2
         go_at_call 12
         refine (HBS.out _ 15 _ HV2.out HP1.out).mono ?_
         rintro e x2 ⟨rfl, hk⟩
         have HP2 := Lib.hid (HP1.out.trans hk)
         clear hk e0 e1 e2 e3 e4
         obtain ⟨e0, e1, e2, e3, e4⟩ := HDP.out _ HP2.out)
      | (guard_hyp HP2
         fail_if_success guard_hyp HP3
         go_at_call 12
         refine (HBS.out _ 23 _ HV3.out HP2.out).mono ?_
         rintro e x3 ⟨rfl, hk⟩
         have HP3 := Lib.hid (HP2.out.trans hk)
         clear hk e0 e1 e2 e3 e4
         obtain ⟨e0, e1, e2, e3, e4⟩ := HDP.out _ HP3.out)
      | (guard_hyp HP3
         go_at_call 13
         refine (HSL.out _ _ HV4.out HP3.out).mono ?_
         rintro e x4 ⟨v4, rfl, ho, hk⟩
         obtain ⟨A4, c4, rfl⟩ : ∃ A c, v4 = .slice A 1 c := intsC_shape ho
         have HI4 := Lib.hid ho.at_
         have HP4 := Lib.hid (HP3.out.trans hk)
         clear ho hk)
      | (guard_hyp HP4
         go_at_call 21
         refine (same_len (x4.alloc (.cells #[.int .i64 17] 3)) A4 (some ⟨x4.heap.size, 0, none⟩) c4 1 [17] [17] 1 1 rfl rfl HI4.out.2.2.1 HI4.out.2.2.2.1 (HI4.out.2.1.kept (Kept.alloc _ _ _)) (by decide) (by decide) (IntsIn.of_vals (l := [17]) (heap_alloc_new _ _))).mono ?_
         rintro e x5 ⟨rfl, hk⟩
         rw [sameI_self]
         have HP5 : Hid (Kept [] w23 x5) := HP4.out.trans ((Kept.alloc _ _ _).trans hk)
         clear hk e0 e1 e2 e3 e4))
    obtain ⟨g2, gc2, hgq, _, _⟩ := HO23.out.form (by decide)
    injection hgq with hgq1 _ hgq3
    subst hgq1
    obtain ⟨e0, e1, e2, e3, e4⟩ := HDP.out _ HP5.out
    have c347 : x5.cell? ⟨g2, 347, none⟩ = some (.bool false) := ent_zero (HT23.out.kept HP5.out) rfl (k := 15) (x := someE 2 ⟨#[80]⟩ 0 (-1) 0 0) rfl 17 _ rfl
    obtain ⟨cg, hcg⟩ := own_row_at' HO23.out rfl
    have HCG := Lib.hid (HP5.out.obj hcg (by simp))
    have h347 := frozen_of_row _ _ 347 _ _ HCG.out
    have HCB : Hid (23 ≤ cb) := HT23.out.el
    go_upto_region 18 with (fail)
    refine wp_gen' ?_
    intro w24 hw24
    have hnePB : PB ≠ g2 := by
      rintro rfl
      have h2 := HB23.out
      rw [hcg] at h2
      simp at h2
    have hK24 : Kept [g2] x5 w24 := by rw [hw24]; exact Kept.setCell _ _ _ (by simp)
    have HB24 : Hid (w24.heap[PB]? = some (.cells (#[.slice vp.ta 4 vp.tc, .slice vp.sa 5 vp.sc, .slice (some ⟨g2, 0, none⟩) 23 cb, .slice vp.ga vp.gn vp.gc, .slice vp.ia vp.im vp.ic] : Array Value) 28 (0, 0))) := hK24.obj (HP5.out.obj HB23.out (by simp)) (by simpa using hnePB)
    have HO24 : Hid (w24.ownsRow n 43 22 (.slice (some ⟨g2, 0, none⟩) 23 cb) 23 ((stdEnts q1 q2 ++ pl2).map EntV.cells).flatten) := by
      have h := ((own_keep HO23.out HP5.out (by simp)).stored 347 (.bool true)).1
      have e : ((stdEnts q1 q2 ++ pl1).map EntV.cells).flatten.set 347 (.bool true) = ((stdEnts q1 q2 ++ pl2).map EntV.cells).flatten := by kernel_rfl
      rw [e] at h
      rw [Hid, hw24]
      exact h
    have hks : KpS n x5 w24 := by
      rw [hw24]
      exact KpS.setCell _ _ _ HCG.out (own_at HO23.out g2 rfl) (.inl rfl)
    have HKS24 : Hid (KpS n w17 w24) := (HKS23.out.trans (KpS.of_kept HP5.out)).trans hks
    have HM24 : Hid (StdMem w24 { vp with ea := some ⟨g2, 0, none⟩, ec := cb } ql q1 q2) := (HM23.out.kps ((KpS.of_kept HP5.out).trans hks))
    clear hw24 hK24 hks hcg HCG c347 h347 hgq3 hnePB e0 e1 e2 e3 e4 HDP HBS HSL HV1 HV2 HV3 HV4 HP1 HP2 HP3 HI4 HP4 HP5 HT23 HM23 HO23 HB23 HKS23
    have HT24 : Hid (TabIn w24 { vp with ea := some ⟨g2, 0, none⟩, ec := cb } (tabE ql (stdEnts q1 q2 ++ pl2))) := tabIn_std pl2 pl2_plain HM24.out HO24.out
    have HDP : Hid (∀ wx, Kept [] w24 wx → (wx.cell? ⟨PB, 0, none⟩ = some (.slice vp.ta 4 vp.tc) ∧ wx.cell? ⟨PB, 1, none⟩ = some (.slice vp.sa 5 vp.sc) ∧ wx.cell? ⟨PB, 2, none⟩ = some (.slice (some ⟨g2, 0, none⟩) 23 cb) ∧ wx.cell? ⟨PB, 3, none⟩ = some (.slice vp.ga vp.gn vp.gc) ∧ wx.cell? ⟨PB, 4, none⟩ = some (.slice vp.ia vp.im vp.ic))) := fun W hk => by
      have hb := hk.obj HB24.out (by simp)
      have c : ∀ j, W.cell? ⟨PB, j, none⟩ = _ := fun j => cell_of_row _ _ j _ _ _ hb
      exact ⟨c 0, c 1, c 2, c 3, c 4⟩
    have HSL : Hid (∀ (W : World) (l : List Int), selR (tabE ql (stdEnts q1 q2 ++ pl2)) (whN 19 23) 22 ⟨#[102]⟩ = l → Kept [] w24 W → Calls Try.prog 13 #[.agg #[.slice vp.ta 4 vp.tc, .slice vp.sa 5 vp.sc, .slice (some ⟨g2, 0, none⟩) 23 cb, .slice vp.ga vp.gn vp.gc, .slice vp.ia vp.im vp.ic], .agg #[.int .i64 19, .int .i64 23, .slice none 0 0, .slice none 0 0], .int .i64 22, .string ⟨#[102]⟩] W (RetC l W)) := fun W l hl hk => by
      subst hl
      exact select_any W { vp with ea := some ⟨g2, 0, none⟩, ec := cb } (tabE ql (stdEnts q1 q2 ++ pl2)) (whN 19 23) 22 _ (HT24.out.kept hk) (whN_in W _ _) (by show 23 ≤ 100000; omega)
    have HIN : Hid (∀ (W : World) (a b : Int) (r : Bool), insideR (tabE ql (stdEnts q1 q2 ++ pl2)) a b = r → Kept [] w24 W → Calls Try.prog 17 #[.agg #[.slice vp.ta 4 vp.tc, .slice vp.sa 5 vp.sc, .slice (some ⟨g2, 0, none⟩) 23 cb, .slice vp.ga vp.gn vp.gc, .slice vp.ia vp.im vp.ic], .int .i64 a, .int .i64 b] W (RetB r W)) := fun W a b r hr hk => by
      subst hr
      exact inside_any W { vp with ea := some ⟨g2, 0, none⟩, ec := cb } (tabE ql (stdEnts q1 q2 ++ pl2)) a b (HT24.out.kept hk)
    have HHM : Hid (∀ (W : World) (a b : Int) (r : Bool), homI (tabE ql (stdEnts q1 q2 ++ pl2)) a b = r → Kept [] w24 W → Calls Try.prog 19 #[.agg #[.slice vp.ta 4 vp.tc, .slice vp.sa 5 vp.sc, .slice (some ⟨g2, 0, none⟩) 23 cb, .slice vp.ga vp.gn vp.gc, .slice vp.ia vp.im vp.ic], .int .i64 a, .int .i64 b] W (RetB r W)) := fun W a b r hr hk => by
      subst hr
      exact homographsI_any W { vp with ea := some ⟨g2, 0, none⟩, ec := cb } (tabE ql (stdEnts q1 q2 ++ pl2)) a b (HT24.out.kept hk)
    have HV1 : Hid (selR (tabE ql (stdEnts q1 q2 ++ pl2)) (whN 19 23) 22 ⟨#[102]⟩ = []) := by rw [Hid]; kernel_rfl
    have HV2 : Hid (insideR (tabE ql (stdEnts q1 q2 ++ pl2)) 18 0 = true) := by rw [Hid]; kernel_rfl
    have HV3 : Hid (insideR (tabE ql (stdEnts q1 q2 ++ pl2)) 18 19 = false) := by rw [Hid]; kernel_rfl
    have HV4 : Hid (insideR (tabE ql (stdEnts q1 q2 ++ pl2)) (-1) (-1) = false) := by rw [Hid]; kernel_rfl
    have HV5 : Hid (homI (tabE ql (stdEnts q1 q2 ++ pl2)) 3 3 = true) := by rw [Hid]; kernel_rfl
    have HV6 : Hid (homI (tabE ql (stdEnts q1 q2 ++ pl2)) 3 4 = false) := by rw [Hid]; kernel_rfl
    obtain ⟨e0, e1, e2, e3, e4⟩ := HDP.out _ (Kept.refl _ _)
    go_upto_region 19 with (first
      | (fail_if_success guard_hyp HP1
         go_at_call 13
         refine (HSL.out _ _ HV1.out (Kept.refl _ _)).mono ?_
         rintro e y1 ⟨v4, rfl, ho, hk⟩
         obtain ⟨A4, c4, rfl⟩ : ∃ A c, v4 = .slice A 0 c := intsC_shape ho
         have HP1 := Lib.hid hk
         clear ho hk e0 e1 e2 e3 e4
         obtain ⟨e0, e1, e2, e3, e4⟩ := HDP.out _ HP1.out)
      | (guard_hyp HP1
         fail_if_success guard_hyp HP2
         go_at_call 17
         refine (HIN.out _ 18 0 _ HV2.out HP1.out).mono ?_
         rintro e y2 ⟨rfl, hk⟩
         have HP2 := Lib.hid (HP1.out.trans hk)
         clear hk e0 e1 e2 e3 e4
         obtain ⟨e0, e1, e2, e3, e4⟩ := HDP.out _ HP2.out)
      | (guard_hyp HP2
         fail_if_success guard_hyp HP3
         go_at_call 17
         refine (HIN.out _ 18 19 _ HV3.out HP2.out).mono ?_
         rintro e y3 ⟨rfl, hk⟩
         have HP3 := Lib.hid (HP2.out.trans hk)
         clear hk e0 e1 e2 e3 e4
         obtain ⟨e0, e1, e2, e3, e4⟩ := HDP.out _ HP3.out)
      | (guard_hyp HP3
         fail_if_success guard_hyp HP4
         go_at_call 17
         refine (HIN.out _ (-1) (-1) _ HV4.out HP3.out).mono ?_
         rintro e y4 ⟨rfl, hk⟩
         have HP4 := Lib.hid (HP3.out.trans hk)
         clear hk e0 e1 e2 e3 e4
         obtain ⟨e0, e1, e2, e3, e4⟩ := HDP.out _ HP4.out)
      | (guard_hyp HP4
         fail_if_success guard_hyp HP5
         go_at_call 19
         refine (HHM.out _ 3 3 _ HV5.out HP4.out).mono ?_
         rintro e y5 ⟨rfl, hk⟩
         have HP5 := Lib.hid (HP4.out.trans hk)
         clear hk e0 e1 e2 e3 e4
         obtain ⟨e0, e1, e2, e3, e4⟩ := HDP.out _ HP5.out)
      | (guard_hyp HP5
         fail_if_success guard_hyp HP6
         go_at_call 19
         refine (HHM.out _ 3 4 _ HV6.out HP5.out).mono ?_
         rintro e y6 ⟨rfl, hk⟩
         have HP6 := Lib.hid (HP5.out.trans hk)
         clear hk e0 e1 e2 e3 e4
         obtain ⟨e0, e1, e2, e3, e4⟩ := HDP.out _ HP6.out))
    clear HSL HIN HHM HV1 HV2 HV3 HV4 HV5 HV6 HP1 HP2 HP3 HP4 HP5
    obtain ⟨kt2, ht1, ht2, ht3⟩ := HM24.out.ty
    have hta : vp.ta = some ⟨kt2, 0, none⟩ := ht1
    have htc : vp.tc = 4 := ht2
    rw [hta, htc] at e0
    have HTA := Lib.hid hta
    have HTCC := Lib.hid htc
    have HK6' := HP6
    have HTY6 : Hid (y6.heap[kt2]? = some (.cells ((stdTys ql).map TyV.cells).flatten.toArray 71 (0, 0))) := HP6.out.obj ht3 (by simp)
    have c33 : y6.cell? ⟨kt2, 33, none⟩ = some (.int .i64 (-1)) := by have h := cell_of_row _ _ 33 _ _ _ HTY6.out; rw [h]; rfl
    have c34 : y6.cell? ⟨kt2, 34, none⟩ = some (.int .i64 0) := by have h := cell_of_row _ _ 34 _ _ _ HTY6.out; rw [h]; rfl
    have f33 := frozen_of_row _ _ 33 _ _ HTY6.out
    have f34 := frozen_of_row _ _ 34 _ _ HTY6.out
    have hne1 : kt2 ≠ PB := by
      rintro rfl
      have h2 := HB24.out
      rw [ht3] at h2
      simp at h2
    have HNE1 := Lib.hid hne1
    have HT3 := Lib.hid ht3
    clear e1 e2 e3 e4 ht1 ht2 ht3 hta htc
    go_cut [] (fun wc => wc.heap[kt2]? = some (.cells ((tys2 ql).map TyV.cells).flatten.toArray 71 (0, 0)) ∧ Kept [kt2] y6 wc)
    case first =>
      go_region
      all_goals
        go_wp2_with fail
        go_meet
        refine ⟨?_, ?_⟩
        · have hv : VRow y6 kt2 71 ((stdTys ql).map TyV.cells).flatten := HTY6.out
          have h2 := (hv.set 33 (.int .i64 15)).set 34 (.int .i64 19)
          have e : ((((stdTys ql).map TyV.cells).flatten.set 33 (.int .i64 15)).set 34 (.int .i64 19)) = ((tys2 ql).map TyV.cells).flatten := by kernel_rfl
          rw [e] at h2
          exact drew_obj' h2
        · exact ((Kept.setCell _ _ _ (by simp)).trans (Kept.setCell _ _ _ (by simp))).trans (Kept.drew _ _)
    case rest =>
      obtain ⟨hty, hk25⟩ := hcut
      obtain ⟨w25, rfl⟩ : ∃ w25 : World, w25 = wc := ⟨_, rfl⟩
      have HTY25 := Lib.hid hty
      have HK25 := Lib.hid hk25
      have HB25 : Hid (w25.heap[PB]? = some (.cells (#[.slice (some ⟨kt2, 0, none⟩) 4 4, .slice vp.sa 5 vp.sc, .slice (some ⟨g2, 0, none⟩) 23 cb, .slice vp.ga vp.gn vp.gc, .slice vp.ia vp.im vp.ic] : Array Value) 28 (0, 0))) := by
        have h := hk25.obj (HP6.out.obj HB24.out (by simp)) (by simpa using fun e => HNE1.out e.symm)
        rw [HTA.out, HTCC.out] at h
        exact h
      have hT6 := HT24.out.kept HP6.out
      have hM6 : StdMem y6 { vp with ea := some ⟨g2, 0, none⟩, ec := cb } ql q1 q2 := HM24.out.kps (KpS.of_kept (n := 0) HP6.out)
      obtain ⟨ks2, hs1, hs2, hs3⟩ := hM6.sb
      have hg2 : g2 ≠ kt2 := by
        obtain ⟨c, hc⟩ := own_row_at' HO24.out (k := g2) rfl
        exact ne_ty hc HT3.out (by decide)
      have HT25 : Hid (TabIn w25 { vp with ea := some ⟨g2, 0, none⟩, ec := cb } (tabP ql q1 q2)) := by
        refine ⟨hT6.es.keptX hk25 ?_, ?_, hT6.ok, hT6.ss.keptX hk25 ?_, hT6.el, hT6.em, hT6.e0, hT6.sl, hT6.sm⟩
        · intro a ha
          cases ha
          simpa using hg2
        · intro x hx
          refine (hT6.ps x hx).keptX hk25 ?_
          intro a ha
          rcases List.mem_append.1 hx with hx | hx
          · rcases List.mem_append.1 hx with hx | hx
            · rw [(std12_plain x hx).2.1] at ha; cases ha
            · simp only [List.mem_cons, List.not_mem_nil, or_false] at hx
              rcases hx with rfl | rfl | rfl
              · cases ha
                simpa using ne_ty HM24.out.p1 HT3.out (by decide)
              · cases ha
                simpa using ne_ty HM24.out.p2 HT3.out (by decide)
              · cases ha
          · rw [(pl2_plain x hx).2.1] at ha; cases ha
        · intro a ha
          have h2 : vp.sa = some ⟨ks2, 0, none⟩ := hs1
          rw [show ({ vp with ea := some ⟨g2, 0, none⟩, ec := cb } : TabV).sa = vp.sa from rfl, h2] at ha
          cases ha
          simpa using ne_ty hs3 HTY6.out (by decide)
      have HY25 : Hid (TypIn w25 { vp with ea := some ⟨g2, 0, none⟩, ec := cb } (tabP ql q1 q2)) := by
        refine ⟨?_, ?_, ?_⟩
        · show RowsAt TyV 18 TyV.cells w25 vp.ta (tys2 ql)
          rw [HTA.out]
          exact rows_block hty TyV.len
        · show 4 ≤ vp.tc
          rw [HTCC.out]
          exact Nat.le_refl _
        · show vp.tc ≤ _
          rw [HTCC.out]
          omega
      have HKW : Hid (Kept [] w2 w25) := by
        have h1 : Kept [] w17 w24 := KpS.kept (Kept.refl _ _) HKS24.out (by rw [HN.out]; exact Nat.le_refl _)
        refine (HK17.out.trans (h1.trans HP6.out)).above hk25 ?_
        intro q hq
        simp at hq
        subst hq
        have := HFR.out _ HTA.out
        have h3 := HK17.out.size
        exact Nat.le_trans h3 this
      have HTA2 := Lib.hid HTA.out
      have HTC2 := Lib.hid HTCC.out
      clear hty hk25 hT6 hM6 hs1 hs2 hs3 hg2 HTY6 HP6 HK6' HB24 HO24 HM24 HT24 HDP HKS24 HNE1 hne1 HT3 HTA HTCC c33 c34 f33 f34 e0
      have HDP : Hid (∀ wx, Kept [] w25 wx → (wx.cell? ⟨PB, 0, none⟩ = some (.slice (some ⟨kt2, 0, none⟩) 4 4) ∧ wx.cell? ⟨PB, 1, none⟩ = some (.slice vp.sa 5 vp.sc) ∧ wx.cell? ⟨PB, 2, none⟩ = some (.slice (some ⟨g2, 0, none⟩) 23 cb) ∧ wx.cell? ⟨PB, 3, none⟩ = some (.slice vp.ga vp.gn vp.gc) ∧ wx.cell? ⟨PB, 4, none⟩ = some (.slice vp.ia vp.im vp.ic))) := fun W hk => by
        have hb := hk.obj HB25.out (by simp)
        have c : ∀ j, W.cell? ⟨PB, j, none⟩ = _ := fun j => cell_of_row _ _ j _ _ _ hb
        exact ⟨c 0, c 1, c 2, c 3, c 4⟩
      have HFL : Hid (∀ (W : World) (r a e : Int) (b : Bool), fullR (tabP ql q1 q2) (whN r a) e = b → Kept [] w25 W → Calls Try.prog 24 #[.agg #[.slice (some ⟨kt2, 0, none⟩) 4 4, .slice vp.sa 5 vp.sc, .slice (some ⟨g2, 0, none⟩) 23 cb, .slice vp.ga vp.gn vp.gc, .slice vp.ia vp.im vp.ic], .agg #[.int .i64 r, .int .i64 a, .slice none 0 0, .slice none 0 0], .int .i64 e] W (RetB b W)) := fun W r a e b hb hk => by
        subst hb
        have h := full_any W { vp with ea := some ⟨g2, 0, none⟩, ec := cb } (tabP ql q1 q2) (whN r a) e (HT25.out.kept hk) (HY25.out.kept hk) (by show 23 ≤ 100000; omega)
        have e1 : ({ vp with ea := some ⟨g2, 0, none⟩, ec := cb } : TabV).cells (tabP ql q1 q2) = #[.slice (some ⟨kt2, 0, none⟩) 4 4, .slice vp.sa 5 vp.sc, .slice (some ⟨g2, 0, none⟩) 23 cb, .slice vp.ga vp.gn vp.gc, .slice vp.ia vp.im vp.ic] := by
          have h1 := (cell_of_row _ _ 0 _ _ _ HB25.out)
          rw [TabV.cells, show ({ vp with ea := some ⟨g2, 0, none⟩, ec := cb } : TabV).ta = vp.ta from rfl, HTA2.out, show ({ vp with ea := some ⟨g2, 0, none⟩, ec := cb } : TabV).tc = vp.tc from rfl, HTC2.out]
          rfl
        rw [e1] at h
        exact h
      have HV1 : Hid (fullR (tabP ql q1 q2) (whN 19 30) 1 = false) := by rw [Hid]; kernel_rfl
      have HV2 : Hid (fullR (tabP ql q1 q2) (whN 15 19) 1 = true) := by rw [Hid]; kernel_rfl
      have HV3 : Hid (fullR (tabP ql q1 q2) (whN 15 18) 1 = false) := by rw [Hid]; kernel_rfl
      have HV4 : Hid (fullR (tabP ql q1 q2) (whN 0 0) 2 = true) := by rw [Hid]; kernel_rfl
      have HV5 : Hid (fullR (tabP ql q1 q2) (whN 0 0) 4 = false) := by rw [Hid]; kernel_rfl
      obtain ⟨e0, e1, e2, e3, e4⟩ := HDP.out _ (Kept.refl _ _)
      have HP0 : Hid (Kept [] w25 w25) := Kept.refl _ _
      go_upto_region 21 with (first
        | (guard_hyp HP0
           fail_if_success guard_hyp HP1
           go_at_call 24
           refine (HFL.out _ 19 30 1 _ HV1.out HP0.out).mono ?_
           rintro e z1 ⟨rfl, hk⟩
           have HP1 := Lib.hid (HP0.out.trans hk)
           clear hk e0 e1 e2 e3 e4
           obtain ⟨e0, e1, e2, e3, e4⟩ := HDP.out _ HP1.out)
        | (guard_hyp HP1
           fail_if_success guard_hyp HP2
           go_at_call 24
           refine (HFL.out _ 15 19 1 _ HV2.out HP1.out).mono ?_
           rintro e z2 ⟨rfl, hk⟩
           have HP2 := Lib.hid (HP1.out.trans hk)
           clear hk e0 e1 e2 e3 e4
           obtain ⟨e0, e1, e2, e3, e4⟩ := HDP.out _ HP2.out)
        | (guard_hyp HP2
           fail_if_success guard_hyp HP3
           go_at_call 24
           refine (HFL.out _ 15 18 1 _ HV3.out HP2.out).mono ?_
           rintro e z3 ⟨rfl, hk⟩
           have HP3 := Lib.hid (HP2.out.trans hk)
           clear hk e0 e1 e2 e3 e4
           obtain ⟨e0, e1, e2, e3, e4⟩ := HDP.out _ HP3.out)
        | (guard_hyp HP3
           fail_if_success guard_hyp HP4
           go_at_call 24
           refine (HFL.out _ 0 0 2 _ HV4.out HP3.out).mono ?_
           rintro e z4 ⟨rfl, hk⟩
           have HP4 := Lib.hid (HP3.out.trans hk)
           clear hk e0 e1 e2 e3 e4
           obtain ⟨e0, e1, e2, e3, e4⟩ := HDP.out _ HP4.out)
        | (guard_hyp HP4
           fail_if_success guard_hyp HP5
           go_at_call 24
           refine (HFL.out _ 0 0 4 _ HV5.out HP4.out).mono ?_
           rintro e z5 ⟨rfl, hk⟩
           have HP5 := Lib.hid (HP4.out.trans hk)
           clear hk e0 e1 e2 e3 e4
           obtain ⟨e0, e1, e2, e3, e4⟩ := HDP.out _ HP5.out))
      clear e0 e1 e2 e3 e4 HFL HV1 HV2 HV3 HV4 HV5 HP0 HP1 HP2 HP3 HP4 HDP HT25 HY25 HB25
      have HKE : Hid (Kept [] w2 z5) := HKW.out.trans HP5.out
      obtain ⟨d0, d1, d2, d3, d4, _⟩ := HD.out _ HKE.out
      have HC16 : Hid (Calls Try.prog 16 #[.agg #[.slice v.ta 4 v.tc, .slice v.sa 5 v.sc, .slice v.ea 15 v.ec, .slice v.ga v.gn v.gc, .slice v.ia v.im v.ic], .agg #[.int .i64 0, .int .i64 15, .slice none 0 0, .slice none 0 0], .string ⟨#[]⟩] z5 (RetO [] z5)) := by
        have h := find_at z5 v (stdT kl k1 k2) (whN 0 15) ⟨#[]⟩ (HT2.out.kept HKE.out) (whN_in _ _ _) (by show 15 ≤ 5000; omega) (by show 0 ≤ 100000; omega) (std_wf kl k1 k2)
        rw [find_empty (by kernel_rfl)] at h
        exact h
      go_wp2_with (first
        | (go_at_call 16
           refine HC16.out.mono ?_
           rintro e z6 ⟨v6, rfl, ho, hk⟩
           obtain ⟨A6, c6, rfl⟩ : ∃ A c, v6 = .slice A 0 c := own_shape ho
           have HP6 := Lib.hid (HKE.out.trans hk)
           clear ho hk)
        | (go_at_call 14
           refine (works_any _).mono ?_
           rintro e z7 ⟨rfl, hk⟩
           have HP7 := Lib.hid (HP6.out.trans hk)
           clear hk))
      go_ret
      exact ⟨rfl, HK2.out.trans HP7.out⟩
end Go.Proofs.Ytlgcboaojdhneaa
