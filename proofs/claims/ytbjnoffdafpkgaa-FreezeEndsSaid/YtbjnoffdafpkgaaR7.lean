/- The reference's next: all events but the completion of a constant. -/
import Derived.Test.YtbjnoffdafpkgaaR5
namespace Go.Proofs.Ytbjnoffdafpkgaa
open Go.RowKit

theorem SRow.set0 {w : World} {B : Nat} {s : StV} {r : RS} (h : SRow w B s r) (A : Option Addr) (c : Nat) (f : List Int) :
    SRow (w.setCell ⟨B, 0, none⟩ (.slice A f.length c)) B { s with dA := A, dC := c } { r with dec := f } := by
  unfold SRow at h ⊢
  simp [World.setCell, Array.getElem?_modify, h, StV.cells]
theorem SRow.set1 {w : World} {B : Nat} {s : StV} {r : RS} (h : SRow w B s r) (A : Option Addr) (c : Nat) (f : List Int) :
    SRow (w.setCell ⟨B, 1, none⟩ (.slice A f.length c)) B { s with mA := A, mC := c } { r with com := f } := by
  unfold SRow at h ⊢
  simp [World.setCell, Array.getElem?_modify, h, StV.cells]
theorem SRow.set3 {w : World} {B : Nat} {s : StV} {r : RS} (h : SRow w B s r) (A : Option Addr) (c : Nat) (f : List (Int × Int × Bool)) :
    SRow (w.setCell ⟨B, 3, none⟩ (.slice A f.length c)) B { s with kA := A, kC := c } { r with con := f } := by
  unfold SRow at h ⊢
  simp [World.setCell, Array.getElem?_modify, h, StV.cells]

/-- What next has in its boxes. -/
structure NEnv (w : World) (s : StV) (r : RS) (v : TabV) (t : Tab) (x : EvV) (B : Nat) (wr : World) : Prop where
  row : SRow wr B s r
  tb : TBox v t (B + 1) wr
  k0 : wr.cell? ⟨B + 1 + 1, 0, none⟩ = some (.int .u8 x.kind)
  k1 : wr.cell? ⟨B + 1 + 1, 1, none⟩ = some (.int .i64 x.ty)
  k2 : wr.cell? ⟨B + 1 + 1, 2, none⟩ = some (.int .i64 x.num)
  res : ZRow wr (B + 1 + 1 + 1)
  st : StIn wr s r
  kept : Kept [] w wr
  le : w.heap.size ≤ B
  tab : TabIn w v t
theorem NEnv.keep {w : World} {s : StV} {r : RS} {v : TabV} {t : Tab} {x : EvV} {B : Nat} {wr wq : World} (h : NEnv w s r v t x B wr) (hk : Kept [] wr wq) : NEnv w s r v t x B wq :=
  ⟨h.row.kept hk (by simp), h.tb.kept hk, hk.cell h.k0 (by simp), hk.cell h.k1 (by simp), hk.cell h.k2 (by simp), h.res.kept hk (by simp), h.st.kept hk, h.kept.trans hk, h.le, h.tab⟩
theorem NEnv.far {w : World} {s s2 : StV} {r r2 : RS} {v : TabV} {t : Tab} {x : EvV} {B : Nat} {wr wq : World} (h : NEnv w s r v t x B wr) (hk : Kept [B] wr wq) (hr : SRow wq B s2 r2) (hs : StIn wq s2 r2) : NEnv w s2 r2 v t x B wq := by
  have hk0 := h.kept.trans0 hk h.le
  exact ⟨hr, ⟨hk.cell h.tb.c0 (by simp), hk.cell h.tb.c1 (by simp), hk.cell h.tb.c2 (by simp), hk.cell h.tb.c3 (by simp), hk.cell h.tb.c4 (by simp), h.tab.kept (hk0.toBelow (Nat.le_refl _) (by simp))⟩,
    hk.cell h.k0 (by simp; omega), hk.cell h.k1 (by simp; omega), hk.cell h.k2 (by simp; omega), h.res.kept hk (by simp; omega), hs, hk0, h.le, h.tab⟩
theorem NEnv.setD {w : World} {s : StV} {r : RS} {v : TabV} {t : Tab} {x : EvV} {B : Nat} {wr : World} (h : NEnv w s r v t x B wr) {A : Option Addr} {c : Nat} {f : List Int} (hi : IntsC wr (.slice A f.length c) f) :
    NEnv w { s with dA := A, dC := c } { r with dec := f } v t x B (wr.setCell ⟨B, 0, none⟩ (.slice A f.length c)) := by
  have hk : Kept [B] wr (wr.setCell ⟨B, 0, none⟩ (.slice A f.length c)) := Kept.setCell _ _ _ (by simp)
  exact h.far hk (h.row.set0 A c f) ⟨hi.far h.row hk, h.st.com.far h.row hk, h.st.frz.far h.row hk, h.st.con.far h.row hk⟩
theorem NEnv.setM {w : World} {s : StV} {r : RS} {v : TabV} {t : Tab} {x : EvV} {B : Nat} {wr : World} (h : NEnv w s r v t x B wr) {A : Option Addr} {c : Nat} {f : List Int} (hi : IntsC wr (.slice A f.length c) f) :
    NEnv w { s with mA := A, mC := c } { r with com := f } v t x B (wr.setCell ⟨B, 1, none⟩ (.slice A f.length c)) := by
  have hk : Kept [B] wr (wr.setCell ⟨B, 1, none⟩ (.slice A f.length c)) := Kept.setCell _ _ _ (by simp)
  exact h.far hk (h.row.set1 A c f) ⟨h.st.dec.far h.row hk, hi.far h.row hk, h.st.frz.far h.row hk, h.st.con.far h.row hk⟩
theorem NEnv.setK {w : World} {s : StV} {r : RS} {v : TabV} {t : Tab} {x : EvV} {B : Nat} {wr : World} (h : NEnv w s r v t x B wr) {A : Option Addr} {c : Nat} {f : List (Int × Int × Bool)} (hi : ConC wr A c f) :
    NEnv w { s with kA := A, kC := c } { r with con := f } v t x B (wr.setCell ⟨B, 3, none⟩ (.slice A f.length c)) := by
  have hk : Kept [B] wr (wr.setCell ⟨B, 3, none⟩ (.slice A f.length c)) := Kept.setCell _ _ _ (by simp)
  exact h.far hk (h.row.set3 A c f) ⟨h.st.dec.far h.row hk, h.st.com.far h.row hk, h.st.frz.far h.row hk, hi.far h.row hk⟩

/-- What next asks. -/
structure NAsk (w : World) (s : StV) (r : RS) (v : TabV) (t : Tab) : Prop where
  st : StIn w s r
  tab : TabIn w v t
  small : Small t
  n : t.types.length ≤ 1000
  inv : RInv t r
  dl : r.dec.length ≤ 1000000
  ml : r.com.length ≤ 1000000
  kl : r.con.length ≤ 1000000

theorem con_info : (Try.prog.info? 87).map (fun i => (i.zero, i.size, i.bytes)) = some (some (.agg #[.int .i64 0, .int .i64 0, .bool false]), 3, 24) := by kernel_rfl

/-- The cells of a list of constants. -/
def conAll (l : List (Int × Int × Bool)) : List Value := (l.map conCells).flatten
theorem conAll_len (l : List (Int × Int × Bool)) : (conAll l).length = l.length * 3 := by
  induction l with
  | nil => rfl
  | cons a l ih =>
    have : conAll (a :: l) = conCells a ++ conAll l := by simp [conAll]
    rw [this, List.length_append, ih, List.length_cons]
    simp only [conCells, List.length_cons, List.length_nil]
    omega
theorem conAll_get (l : List (Int × Int × Bool)) (j : Nat) (u : Value) (h : (conAll l)[j]? = some u) : ∃ x, l[j / 3]? = some x ∧ (conCells x)[j % 3]? = some u := by
  induction l generalizing j with
  | nil => simp [conAll] at h
  | cons a l ih =>
    have e : conAll (a :: l) = conCells a ++ conAll l := by simp [conAll]
    have hl : (conCells a).length = 3 := rfl
    rw [e] at h
    by_cases hj : j < 3
    · rw [List.getElem?_append_left (by omega)] at h
      refine ⟨a, ?_, ?_⟩
      · rw [Nat.div_eq_of_lt hj]; rfl
      · rw [Nat.mod_eq_of_lt hj]; exact h
    · rw [List.getElem?_append_right (by omega), hl] at h
      obtain ⟨x, h1, h2⟩ := ih _ h
      refine ⟨x, ?_, ?_⟩
      · have : j / 3 = (j - 3) / 3 + 1 := by omega
        rw [this]; exact h1
      · have : j % 3 = (j - 3) % 3 := by omega
        rw [this]; exact h2
theorem conAll_at (l : List (Int × Int × Bool)) {j i : Nat} {x : Int × Int × Bool} {u : Value} (hx : l[j]? = some x) (hu : (conCells x)[i]? = some u) : (conAll l)[j * 3 + i]? = some u := by
  have hi : i < 3 := by
    have := (List.getElem?_eq_some_iff.1 hu).1
    simpa [conCells] using this
  have hj := (List.getElem?_eq_some_iff.1 hx).1
  have hlt : j * 3 + i < (conAll l).length := by rw [conAll_len]; omega
  obtain ⟨y, h1, h2⟩ := conAll_get l (j * 3 + i) _ (List.getElem?_eq_getElem hlt)
  rw [List.getElem?_eq_getElem hlt, ← h2]
  have e1 : (j * 3 + i) / 3 = j := by omega
  have e2 : (j * 3 + i) % 3 = i := by omega
  rw [e1, hx] at h1
  injection h1 with h1
  subst h1
  rw [e2, hu]
theorem conAll_one (l : List (Int × Int × Bool)) : ∀ u, u ∈ conAll l → u.oneCell' = true := by
  intro u hu
  obtain ⟨j, hj⟩ := List.mem_iff_getElem?.1 hu
  obtain ⟨x, _, h2⟩ := conAll_get l j u hj
  have := List.mem_of_getElem? h2
  simp only [conCells, List.mem_cons, List.not_mem_nil, or_false] at this
  rcases this with rfl | rfl | rfl <;> rfl
theorem conAll_app (a b : List (Int × Int × Bool)) : conAll (a ++ b) = conAll a ++ conAll b := by simp [conAll]
theorem ConC.src {w : World} {a : Option Addr} {c : Nat} {l : List (Int × Int × Bool)} (h : ConC w a c l) : SrcAt w 3 a l.length (conAll l) := by
  refine ⟨conAll_len l, fun hp => ?_⟩
  rcases h.2.2.2 with rfl | ⟨b, off, rfl, hc⟩
  · simp at hp
  · refine ⟨_, rfl, fun j u hu => ?_⟩
    obtain ⟨x, h1, h2⟩ := conAll_get l j u hu
    rw [Addr.add_mid]
    have := hc (j / 3) x h1 (j % 3) u h2
    rw [show off + j = off + j / 3 * 3 + j % 3 by omega]
    exact this
theorem ConC.of_owns {w : World} {base n : Nat} {A : Option Addr} {c : Nat} {l : List (Int × Int × Bool)} (h : w.ownsRow base 87 3 (.slice A n c) l.length (conAll l)) : ConC w A c l := by
  rcases h.2 with ⟨e, hn⟩ | ⟨g, cap, cur, e, hb, hg, hcap, hmax, _⟩
  · injection e with e1 e2 e3
    subst e1 e3
    exact ⟨by omega, by omega, fun _ => rfl, .inl (List.eq_nil_of_length_eq_zero hn)⟩
  · injection e with e1 e2 e3
    subst e1 e3
    refine ⟨hcap, by unfold maxLen at hmax; omega, (fun h => by cases h), .inr ⟨g, 0, rfl, fun j x hx i u hu => ?_⟩⟩
    have := h.cells (g := g) rfl (j * 3 + i) u (conAll_at l hx hu)
    rwa [Addr.add_mid, ← Nat.add_assoc] at this

set_option maxRecDepth 100000 in
set_option maxHeartbeats 4000000 in
theorem next1 (w : World) (s : StV) (r : RS) (v : TabV) (t : Tab) (ty num : Int) (hA : NAsk w s r v t) (hx : existsF t.types.length ⟨1, ty, num⟩ = true) :
    Calls Try.prog 22 #[.agg (s.cells r), .agg (v.cells t), EvV.val ⟨1, ty, num⟩] w (RetS (nextR t r ⟨1, ty, num⟩) w) := by
  have HA := Lib.hid hA
  have HX := Lib.hid hx
  have hdl := hA.dl
  have hml := hA.ml
  have hkl := hA.kl
  have hN := hA.n
  clear hA hx
  have HSC : Hid (s.cells r = #[.slice s.dA r.dec.length s.dC, .slice s.mA r.com.length s.mC, .slice s.fA r.frz.length s.fC, .slice s.kA r.con.length s.kC]) := rfl
  rw [HSC.out]
  unfold TabV.cells EvV.val
  go_enter Try.func22, Try.ntmps22
  go_upto_region 1 with (fail)
  refine wp_gen ?_
  intro w3 hw3
  have HENV : Hid (NEnv w s r v t ⟨1, ty, num⟩ w.heap.size w3) := by
    have hk3 : Kept [] w w3 := by rw [hw3]; exact (((Kept.alloc _ _ _).trans (Kept.alloc _ _ _)).trans (Kept.alloc _ _ _)).trans (Kept.alloc _ _ _)
    have he : w3.heap[w.heap.size + 1 + 1]? = some (.cells #[.int .u8 1, .int .i64 ty, .int .i64 num] 45 (0, 0)) := by rw [hw3]; exact obj_old (obj_new (by simp)) (by simp <;> omega)
    refine ⟨?_, TBox.of_block ?_ (HA.out.tab.kept (hk3.toBelow (Nat.le_refl _) (by simp))), ?_, ?_, ?_, ?_, HA.out.st.kept hk3, hk3, Nat.le_refl _, HA.out.tab⟩
    · rw [SRow, hw3]; exact obj_old (obj_old (obj_old (heap_alloc_new _ _) (by simp <;> omega)) (by simp <;> omega)) (by simp <;> omega)
    · rw [hw3]; exact obj_old (obj_old (obj_new (by simp)) (by simp <;> omega)) (by simp <;> omega)
    · rw [cell_of_row _ _ _ _ _ _ he]; rfl
    · rw [cell_of_row _ _ _ _ _ _ he]; rfl
    · rw [cell_of_row _ _ _ _ _ _ he]; rfl
    · rw [ZRow, SRow, hw3]; exact obj_new (by simp)
  clear hw3
  have g0 := HENV.out.row.c0
  have g1 := HENV.out.row.c1
  have g2 := HENV.out.row.c2
  have g3 := HENV.out.row.c3
  have k2 := HENV.out.k2
  go_wp2_with fail
  refine (find_any w3 s r num HENV.out.st).mono ?_
  rintro e w4 ⟨rfl, hk4⟩
  have HE4 := Lib.hid (HENV.out.keep hk4)
  clear g0 g1 g2 g3 k2 hk4 HENV
  have g0 := HE4.out.row.c0
  have g1 := HE4.out.row.c1
  have g2 := HE4.out.row.c2
  have g3 := HE4.out.row.c3
  have k0 := HE4.out.k0
  have k1 := HE4.out.k1
  have k2 := HE4.out.k2
  obtain ⟨⟨e0, e1, e2, e3⟩, z0, z1, z2, z3⟩ := HE4.out.res.z
  go_wp2_with fail
  refine (has_any _ _ r.dec ty HE4.out.st.dec.ints).mono ?_
  rintro e w' ⟨rfl, rfl⟩
  have hz0 := HE4.out.row.frozen 0
  cases hd : hasI r.dec ty
  · go_wp2_with fail
    refine (has_any _ _ r.frz ty HE4.out.st.frz.ints).mono ?_
    rintro e w' ⟨rfl, rfl⟩
    cases hf : hasI r.frz ty
    · have HRES : Hid (nextR t r ⟨1, ty, num⟩ = (⟨withR r.dec ty, withR r.com ty, r.frz, r.con⟩, true)) := by
        have h1 : r.dec.contains ty = false := hd
        have h2 : r.frz.contains ty = false := hf
        rw [Hid]; unfold nextR; rw [if_pos (by rfl)]; dsimp only; rw [h1, h2]; rfl
      clear hd hf
      go_wp2_with fail
      refine (with_any w4 _ r.dec ty HE4.out.st.dec (by omega)).mono ?_
      rintro e w5 ⟨u5, rfl, hi5, hk5⟩
      have HE5 := Lib.hid (HE4.out.keep hk5)
      have HI5 := Lib.hid hi5
      obtain ⟨A5, c5, rfl, _⟩ := hi5
      clear hk5 hz0
      clear g0 g1 g2 g3 k0 k1 k2 e0 e1 e2 e3 z0 z1 z2 z3
      have g0 := HE5.out.row.c0
      have g1 := HE5.out.row.c1
      have g2 := HE5.out.row.c2
      have g3 := HE5.out.row.c3
      have k0 := HE5.out.k0
      have k1 := HE5.out.k1
      have k2 := HE5.out.k2
      obtain ⟨⟨e0, e1, e2, e3⟩, z0, z1, z2, z3⟩ := HE5.out.res.z
      have hz0 := HE5.out.row.frozen 0
      have HE6 := Lib.hid (HE5.out.setD HI5.out)
      clear k2
      go_upto_region 8 with (fail)
      refine wp_gen ?_
      intro w6 hw6
      rw [← hw6] at HE6
      clear hw6 hz0
      have k2 := HE6.out.k2
      clear g0 g1 g2 g3 k0 k1 k2 e0 e1 e2 e3 z0 z1 z2 z3
      have g0 := HE6.out.row.c0
      have g1 := HE6.out.row.c1
      have g2 := HE6.out.row.c2
      have g3 := HE6.out.row.c3
      have k0 := HE6.out.k0
      have k1 := HE6.out.k1
      have k2 := HE6.out.k2
      obtain ⟨⟨e0, e1, e2, e3⟩, z0, z1, z2, z3⟩ := HE6.out.res.z
      have hz1 := HE6.out.row.frozen 1
      go_wp2_with fail
      refine (with_any w6 _ r.com ty HE6.out.st.com (by omega)).mono ?_
      rintro e w7 ⟨u7, rfl, hi7, hk7⟩
      have HE7 := Lib.hid (HE6.out.keep hk7)
      have HI7 := Lib.hid hi7
      obtain ⟨A7, c7, rfl, _⟩ := hi7
      clear hk7 hz1
      clear g0 g1 g2 g3 k0 k1 k2 e0 e1 e2 e3 z0 z1 z2 z3
      have g0 := HE7.out.row.c0
      have g1 := HE7.out.row.c1
      have g2 := HE7.out.row.c2
      have g3 := HE7.out.row.c3
      have k0 := HE7.out.k0
      have k1 := HE7.out.k1
      have k2 := HE7.out.k2
      obtain ⟨⟨e0, e1, e2, e3⟩, z0, z1, z2, z3⟩ := HE7.out.res.z
      have hz1 := HE7.out.row.frozen 1
      have HE8 := Lib.hid (HE7.out.setM HI7.out)
      dsimp only at g0 g1 g2 g3
      go_upto_region 38 with (fail)
      refine wp_gen ?_
      intro w8 hw8
      rw [← hw8] at HE8
      clear hw8 hz1
      clear g0 g1 g2 g3 k0 k1 k2 e0 e1 e2 e3 z0 z1 z2 z3
      have g0 := HE8.out.row.c0
      have g1 := HE8.out.row.c1
      have g2 := HE8.out.row.c2
      have g3 := HE8.out.row.c3
      have k0 := HE8.out.k0
      have k1 := HE8.out.k1
      have k2 := HE8.out.k2
      obtain ⟨⟨e0, e1, e2, e3⟩, z0, z1, z2, z3⟩ := HE8.out.res.z
      dsimp only at g0 g1 g2 g3
      go_wp2_with fail
      refine bodyPost_ret (v := .tuple #[.agg #[.slice A5 (withR r.dec ty).length c5, .slice A7 (withR r.com ty).length c7, .slice s.fA r.frz.length s.fC, .slice s.kA r.con.length s.kC], .bool true]) (by simp [results, Try.results22, go_sem, e0, e1, e2, e3]) rfl ?_
      have hfin := st_end (w := w) HE8.out.res (by have := HE8.out.le; omega) HE8.out.st HE8.out.kept (stored4_kept _ _ ⟨A5, c5, A7, c7, s.fA, s.fC, s.kA, s.kC⟩ ⟨withR r.dec ty, withR r.com ty, r.frz, r.con⟩)
      rw [HRES.out]
      exact ⟨⟨A5, c5, A7, c7, s.fA, s.fC, s.kA, s.kC⟩, rfl, hfin.1, hfin.2⟩
    · have HRES : Hid (nextR t r ⟨1, ty, num⟩ = (r, false)) := by
        have h1 : r.dec.contains ty = false := hd
        have h2 : r.frz.contains ty = true := hf
        rw [Hid]; unfold nextR; rw [if_pos (by rfl)]; dsimp only; rw [h1, h2]; rfl
      clear hd hf
      go_wp2_with fail
      refine bodyPost_ret (v := .tuple #[.agg #[.slice s.dA r.dec.length s.dC, .slice s.mA r.com.length s.mC, .slice s.fA r.frz.length s.fC, .slice s.kA r.con.length s.kC], .bool false]) (by simp [results, Try.results22, go_sem, e0, e1, e2, e3]) rfl ?_
      have hfin := st_end (w := w) HE4.out.res (by have := HE4.out.le; omega) HE4.out.st HE4.out.kept (stored4_kept _ _ s r)
      rw [HRES.out]
      exact ⟨s, rfl, hfin.1, hfin.2⟩
  · have HRES : Hid (nextR t r ⟨1, ty, num⟩ = (r, false)) := by
      have h1 : r.dec.contains ty = true := hd
      rw [Hid]; unfold nextR; rw [if_pos (by rfl)]; dsimp only; rw [h1]; rfl
    clear hd
    go_wp2_with fail
    refine bodyPost_ret (v := .tuple #[.agg #[.slice s.dA r.dec.length s.dC, .slice s.mA r.com.length s.mC, .slice s.fA r.frz.length s.fC, .slice s.kA r.con.length s.kC], .bool false]) (by simp [results, Try.results22, go_sem, e0, e1, e2, e3]) rfl ?_
    have hfin := st_end (w := w) HE4.out.res (by have := HE4.out.le; omega) HE4.out.st HE4.out.kept (stored4_kept _ _ s r)
    rw [HRES.out]
    exact ⟨s, rfl, hfin.1, hfin.2⟩

set_option maxRecDepth 100000 in
set_option maxHeartbeats 4000000 in
theorem next2 (w : World) (s : StV) (r : RS) (v : TabV) (t : Tab) (ty num : Int) (hA : NAsk w s r v t) (hx : existsF t.types.length ⟨2, ty, num⟩ = true) :
    Calls Try.prog 22 #[.agg (s.cells r), .agg (v.cells t), EvV.val ⟨2, ty, num⟩] w (RetS (nextR t r ⟨2, ty, num⟩) w) := by
  have HA := Lib.hid hA
  have HX := Lib.hid hx
  have hdl := hA.dl
  have hml := hA.ml
  have hkl := hA.kl
  have hN := hA.n
  clear hA hx
  have HSC : Hid (s.cells r = #[.slice s.dA r.dec.length s.dC, .slice s.mA r.com.length s.mC, .slice s.fA r.frz.length s.fC, .slice s.kA r.con.length s.kC]) := rfl
  rw [HSC.out]
  unfold TabV.cells EvV.val
  go_enter Try.func22, Try.ntmps22
  go_upto_region 1 with (fail)
  refine wp_gen ?_
  intro w3 hw3
  have HENV : Hid (NEnv w s r v t ⟨2, ty, num⟩ w.heap.size w3) := by
    have hk3 : Kept [] w w3 := by rw [hw3]; exact (((Kept.alloc _ _ _).trans (Kept.alloc _ _ _)).trans (Kept.alloc _ _ _)).trans (Kept.alloc _ _ _)
    have he : w3.heap[w.heap.size + 1 + 1]? = some (.cells #[.int .u8 2, .int .i64 ty, .int .i64 num] 45 (0, 0)) := by rw [hw3]; exact obj_old (obj_new (by simp)) (by simp <;> omega)
    refine ⟨?_, TBox.of_block ?_ (HA.out.tab.kept (hk3.toBelow (Nat.le_refl _) (by simp))), ?_, ?_, ?_, ?_, HA.out.st.kept hk3, hk3, Nat.le_refl _, HA.out.tab⟩
    · rw [SRow, hw3]; exact obj_old (obj_old (obj_old (heap_alloc_new _ _) (by simp <;> omega)) (by simp <;> omega)) (by simp <;> omega)
    · rw [hw3]; exact obj_old (obj_old (obj_new (by simp)) (by simp <;> omega)) (by simp <;> omega)
    · rw [cell_of_row _ _ _ _ _ _ he]; rfl
    · rw [cell_of_row _ _ _ _ _ _ he]; rfl
    · rw [cell_of_row _ _ _ _ _ _ he]; rfl
    · rw [ZRow, SRow, hw3]; exact obj_new (by simp)
  clear hw3
  have g0 := HENV.out.row.c0
  have g1 := HENV.out.row.c1
  have g2 := HENV.out.row.c2
  have g3 := HENV.out.row.c3
  have k2 := HENV.out.k2
  go_wp2_with fail
  refine (find_any w3 s r num HENV.out.st).mono ?_
  rintro e w4 ⟨rfl, hk4⟩
  have HE4 := Lib.hid (HENV.out.keep hk4)
  clear g0 g1 g2 g3 k2 hk4 HENV
  have g0 := HE4.out.row.c0
  have g1 := HE4.out.row.c1
  have g2 := HE4.out.row.c2
  have g3 := HE4.out.row.c3
  have k0 := HE4.out.k0
  have k1 := HE4.out.k1
  have k2 := HE4.out.k2
  obtain ⟨⟨e0, e1, e2, e3⟩, z0, z1, z2, z3⟩ := HE4.out.res.z
  go_wp2_with fail
  refine (has_any _ _ r.dec ty HE4.out.st.dec.ints).mono ?_
  rintro e w' ⟨rfl, rfl⟩
  have hz0 := HE4.out.row.frozen 0
  cases hd : hasI r.dec ty
  · go_wp2_with fail
    refine (has_any _ _ r.frz ty HE4.out.st.frz.ints).mono ?_
    rintro e w' ⟨rfl, rfl⟩
    cases hf : hasI r.frz ty
    · have HRES : Hid (nextR t r ⟨2, ty, num⟩ = (⟨withR r.dec ty, r.com, r.frz, r.con⟩, true)) := by
        have h1 : r.dec.contains ty = false := hd
        have h2 : r.frz.contains ty = false := hf
        rw [Hid]; unfold nextR; rw [if_pos (by rfl)]; dsimp only; rw [h1, h2]; rfl
      clear hd hf
      go_wp2_with fail
      refine (with_any w4 _ r.dec ty HE4.out.st.dec (by omega)).mono ?_
      rintro e w5 ⟨u5, rfl, hi5, hk5⟩
      have HE5 := Lib.hid (HE4.out.keep hk5)
      have HI5 := Lib.hid hi5
      obtain ⟨A5, c5, rfl, _⟩ := hi5
      clear hk5 hz0
      clear g0 g1 g2 g3 k0 k1 k2 e0 e1 e2 e3 z0 z1 z2 z3
      have g0 := HE5.out.row.c0
      have g1 := HE5.out.row.c1
      have g2 := HE5.out.row.c2
      have g3 := HE5.out.row.c3
      have k0 := HE5.out.k0
      have k1 := HE5.out.k1
      have k2 := HE5.out.k2
      obtain ⟨⟨e0, e1, e2, e3⟩, z0, z1, z2, z3⟩ := HE5.out.res.z
      have hz0 := HE5.out.row.frozen 0
      have HE6 := Lib.hid (HE5.out.setD HI5.out)
      clear k2
      go_upto_region 8 with (fail)
      refine wp_gen ?_
      intro w6 hw6
      rw [← hw6] at HE6
      clear hw6 hz0
      have k2 := HE6.out.k2
      clear g0 g1 g2 g3 k0 k1 k2 e0 e1 e2 e3 z0 z1 z2 z3
      have g0 := HE6.out.row.c0
      have g1 := HE6.out.row.c1
      have g2 := HE6.out.row.c2
      have g3 := HE6.out.row.c3
      have k0 := HE6.out.k0
      have k1 := HE6.out.k1
      have k2 := HE6.out.k2
      obtain ⟨⟨e0, e1, e2, e3⟩, z0, z1, z2, z3⟩ := HE6.out.res.z
      dsimp only at g0 g1 g2 g3
      go_wp2_with fail
      refine bodyPost_ret (v := .tuple #[.agg #[.slice A5 (withR r.dec ty).length c5, .slice s.mA r.com.length s.mC, .slice s.fA r.frz.length s.fC, .slice s.kA r.con.length s.kC], .bool true]) (by simp [results, Try.results22, go_sem, e0, e1, e2, e3]) rfl ?_
      have hfin := st_end (w := w) HE6.out.res (by have := HE6.out.le; omega) HE6.out.st HE6.out.kept (stored4_kept _ _ ⟨A5, c5, s.mA, s.mC, s.fA, s.fC, s.kA, s.kC⟩ ⟨withR r.dec ty, r.com, r.frz, r.con⟩)
      rw [HRES.out]
      exact ⟨⟨A5, c5, s.mA, s.mC, s.fA, s.fC, s.kA, s.kC⟩, rfl, hfin.1, hfin.2⟩
    · have HRES : Hid (nextR t r ⟨2, ty, num⟩ = (r, false)) := by
        have h1 : r.dec.contains ty = false := hd
        have h2 : r.frz.contains ty = true := hf
        rw [Hid]; unfold nextR; rw [if_pos (by rfl)]; dsimp only; rw [h1, h2]; rfl
      clear hd hf
      go_wp2_with fail
      refine bodyPost_ret (v := .tuple #[.agg #[.slice s.dA r.dec.length s.dC, .slice s.mA r.com.length s.mC, .slice s.fA r.frz.length s.fC, .slice s.kA r.con.length s.kC], .bool false]) (by simp [results, Try.results22, go_sem, e0, e1, e2, e3]) rfl ?_
      have hfin := st_end (w := w) HE4.out.res (by have := HE4.out.le; omega) HE4.out.st HE4.out.kept (stored4_kept _ _ s r)
      rw [HRES.out]
      exact ⟨s, rfl, hfin.1, hfin.2⟩
  · have HRES : Hid (nextR t r ⟨2, ty, num⟩ = (r, false)) := by
      have h1 : r.dec.contains ty = true := hd
      rw [Hid]; unfold nextR; rw [if_pos (by rfl)]; dsimp only; rw [h1]; rfl
    clear hd
    go_wp2_with fail
    refine bodyPost_ret (v := .tuple #[.agg #[.slice s.dA r.dec.length s.dC, .slice s.mA r.com.length s.mC, .slice s.fA r.frz.length s.fC, .slice s.kA r.con.length s.kC], .bool false]) (by simp [results, Try.results22, go_sem, e0, e1, e2, e3]) rfl ?_
    have hfin := st_end (w := w) HE4.out.res (by have := HE4.out.le; omega) HE4.out.st HE4.out.kept (stored4_kept _ _ s r)
    rw [HRES.out]
    exact ⟨s, rfl, hfin.1, hfin.2⟩

set_option maxRecDepth 100000 in
set_option maxHeartbeats 4000000 in
theorem next3 (w : World) (s : StV) (r : RS) (v : TabV) (t : Tab) (ty num : Int) (hA : NAsk w s r v t) (hx : existsF t.types.length ⟨3, ty, num⟩ = true) :
    Calls Try.prog 22 #[.agg (s.cells r), .agg (v.cells t), EvV.val ⟨3, ty, num⟩] w (RetS (nextR t r ⟨3, ty, num⟩) w) := by
  have HA := Lib.hid hA
  have HX := Lib.hid hx
  have hdl := hA.dl
  have hml := hA.ml
  have hkl := hA.kl
  have hN := hA.n
  clear hA hx
  have HSC : Hid (s.cells r = #[.slice s.dA r.dec.length s.dC, .slice s.mA r.com.length s.mC, .slice s.fA r.frz.length s.fC, .slice s.kA r.con.length s.kC]) := rfl
  rw [HSC.out]
  unfold TabV.cells EvV.val
  go_enter Try.func22, Try.ntmps22
  go_upto_region 1 with (fail)
  refine wp_gen ?_
  intro w3 hw3
  have HENV : Hid (NEnv w s r v t ⟨3, ty, num⟩ w.heap.size w3) := by
    have hk3 : Kept [] w w3 := by rw [hw3]; exact (((Kept.alloc _ _ _).trans (Kept.alloc _ _ _)).trans (Kept.alloc _ _ _)).trans (Kept.alloc _ _ _)
    have he : w3.heap[w.heap.size + 1 + 1]? = some (.cells #[.int .u8 3, .int .i64 ty, .int .i64 num] 45 (0, 0)) := by rw [hw3]; exact obj_old (obj_new (by simp)) (by simp <;> omega)
    refine ⟨?_, TBox.of_block ?_ (HA.out.tab.kept (hk3.toBelow (Nat.le_refl _) (by simp))), ?_, ?_, ?_, ?_, HA.out.st.kept hk3, hk3, Nat.le_refl _, HA.out.tab⟩
    · rw [SRow, hw3]; exact obj_old (obj_old (obj_old (heap_alloc_new _ _) (by simp <;> omega)) (by simp <;> omega)) (by simp <;> omega)
    · rw [hw3]; exact obj_old (obj_old (obj_new (by simp)) (by simp <;> omega)) (by simp <;> omega)
    · rw [cell_of_row _ _ _ _ _ _ he]; rfl
    · rw [cell_of_row _ _ _ _ _ _ he]; rfl
    · rw [cell_of_row _ _ _ _ _ _ he]; rfl
    · rw [ZRow, SRow, hw3]; exact obj_new (by simp)
  clear hw3
  have g0 := HENV.out.row.c0
  have g1 := HENV.out.row.c1
  have g2 := HENV.out.row.c2
  have g3 := HENV.out.row.c3
  have k2 := HENV.out.k2
  go_wp2_with fail
  refine (find_any w3 s r num HENV.out.st).mono ?_
  rintro e w4 ⟨rfl, hk4⟩
  have HE4 := Lib.hid (HENV.out.keep hk4)
  clear g0 g1 g2 g3 k2 hk4 HENV
  have g0 := HE4.out.row.c0
  have g1 := HE4.out.row.c1
  have g2 := HE4.out.row.c2
  have g3 := HE4.out.row.c3
  have k0 := HE4.out.k0
  have k1 := HE4.out.k1
  have k2 := HE4.out.k2
  obtain ⟨⟨e0, e1, e2, e3⟩, z0, z1, z2, z3⟩ := HE4.out.res.z
  go_wp2_with fail
  refine (has_any _ _ r.dec ty HE4.out.st.dec.ints).mono ?_
  rintro e w' ⟨rfl, rfl⟩
  cases hd : hasI r.dec ty
  · have HRES : Hid (nextR t r ⟨3, ty, num⟩ = (r, false)) := by
      have h1 : r.dec.contains ty = false := hd
      rw [Hid]; unfold nextR; rw [if_neg (by simp), if_pos (by rfl)]; dsimp only; rw [h1]; rfl
    clear hd
    go_wp2_with fail
    refine bodyPost_ret (v := .tuple #[.agg #[.slice s.dA r.dec.length s.dC, .slice s.mA r.com.length s.mC, .slice s.fA r.frz.length s.fC, .slice s.kA r.con.length s.kC], .bool false]) (by simp [results, Try.results22, go_sem, e0, e1, e2, e3]) rfl ?_
    have hfin := st_end (w := w) HE4.out.res (by have := HE4.out.le; omega) HE4.out.st HE4.out.kept (stored4_kept _ _ s r)
    rw [HRES.out]
    exact ⟨s, rfl, hfin.1, hfin.2⟩
  · go_wp2_with fail
    refine (has_any _ _ r.com ty HE4.out.st.com.ints).mono ?_
    rintro e w' ⟨rfl, rfl⟩
    cases hm : hasI r.com ty
    · have HRES : Hid (nextR t r ⟨3, ty, num⟩ = (⟨r.dec, withR r.com ty, r.frz, r.con⟩, true)) := by
        have h1 : r.dec.contains ty = true := hd
        have h2 : r.com.contains ty = false := hm
        rw [Hid]; unfold nextR; rw [if_neg (by simp), if_pos (by rfl)]; dsimp only; rw [h1, h2]; rfl
      clear hd hm
      go_wp2_with fail
      refine (with_any w4 _ r.com ty HE4.out.st.com (by omega)).mono ?_
      rintro e w5 ⟨u5, rfl, hi5, hk5⟩
      have HE5 := Lib.hid (HE4.out.keep hk5)
      have HI5 := Lib.hid hi5
      obtain ⟨A5, c5, rfl, _⟩ := hi5
      clear hk5
      clear g0 g1 g2 g3 k0 k1 k2 e0 e1 e2 e3 z0 z1 z2 z3
      have g0 := HE5.out.row.c0
      have g1 := HE5.out.row.c1
      have g2 := HE5.out.row.c2
      have g3 := HE5.out.row.c3
      have k0 := HE5.out.k0
      have k1 := HE5.out.k1
      have k2 := HE5.out.k2
      obtain ⟨⟨e0, e1, e2, e3⟩, z0, z1, z2, z3⟩ := HE5.out.res.z
      have hz1 := HE5.out.row.frozen 1
      have HE6 := Lib.hid (HE5.out.setM HI5.out)
      go_upto_region 38 with (fail)
      refine wp_gen ?_
      intro w6 hw6
      rw [← hw6] at HE6
      clear hw6 hz1
      clear g0 g1 g2 g3 k0 k1 k2 e0 e1 e2 e3 z0 z1 z2 z3
      have g0 := HE6.out.row.c0
      have g1 := HE6.out.row.c1
      have g2 := HE6.out.row.c2
      have g3 := HE6.out.row.c3
      have k0 := HE6.out.k0
      have k1 := HE6.out.k1
      have k2 := HE6.out.k2
      obtain ⟨⟨e0, e1, e2, e3⟩, z0, z1, z2, z3⟩ := HE6.out.res.z
      dsimp only at g0 g1 g2 g3
      go_wp2_with fail
      refine bodyPost_ret (v := .tuple #[.agg #[.slice s.dA r.dec.length s.dC, .slice A5 (withR r.com ty).length c5, .slice s.fA r.frz.length s.fC, .slice s.kA r.con.length s.kC], .bool true]) (by simp [results, Try.results22, go_sem, e0, e1, e2, e3]) rfl ?_
      have hfin := st_end (w := w) HE6.out.res (by have := HE6.out.le; omega) HE6.out.st HE6.out.kept (stored4_kept _ _ ⟨s.dA, s.dC, A5, c5, s.fA, s.fC, s.kA, s.kC⟩ ⟨r.dec, withR r.com ty, r.frz, r.con⟩)
      rw [HRES.out]
      exact ⟨⟨s.dA, s.dC, A5, c5, s.fA, s.fC, s.kA, s.kC⟩, rfl, hfin.1, hfin.2⟩
    · have HRES : Hid (nextR t r ⟨3, ty, num⟩ = (r, false)) := by
        have h1 : r.dec.contains ty = true := hd
        have h2 : r.com.contains ty = true := hm
        rw [Hid]; unfold nextR; rw [if_neg (by simp), if_pos (by rfl)]; dsimp only; rw [h1, h2]; rfl
      clear hd hm
      go_wp2_with fail
      refine bodyPost_ret (v := .tuple #[.agg #[.slice s.dA r.dec.length s.dC, .slice s.mA r.com.length s.mC, .slice s.fA r.frz.length s.fC, .slice s.kA r.con.length s.kC], .bool false]) (by simp [results, Try.results22, go_sem, e0, e1, e2, e3]) rfl ?_
      have hfin := st_end (w := w) HE4.out.res (by have := HE4.out.le; omega) HE4.out.st HE4.out.kept (stored4_kept _ _ s r)
      rw [HRES.out]
      exact ⟨s, rfl, hfin.1, hfin.2⟩

set_option maxRecDepth 100000 in
set_option maxHeartbeats 4000000 in
theorem next4 (w : World) (s : StV) (r : RS) (v : TabV) (t : Tab) (ty num : Int) (hA : NAsk w s r v t) (hx : existsF t.types.length ⟨4, ty, num⟩ = true) :
    Calls Try.prog 22 #[.agg (s.cells r), .agg (v.cells t), EvV.val ⟨4, ty, num⟩] w (RetS (nextR t r ⟨4, ty, num⟩) w) := by
  have HA := Lib.hid hA
  have HX := Lib.hid hx
  have hdl := hA.dl
  have hml := hA.ml
  have hkl := hA.kl
  have hN := hA.n
  clear hA hx
  have HSC : Hid (s.cells r = #[.slice s.dA r.dec.length s.dC, .slice s.mA r.com.length s.mC, .slice s.fA r.frz.length s.fC, .slice s.kA r.con.length s.kC]) := rfl
  rw [HSC.out]
  unfold TabV.cells EvV.val
  go_enter Try.func22, Try.ntmps22
  go_upto_region 1 with (fail)
  refine wp_gen ?_
  intro w3 hw3
  have HENV : Hid (NEnv w s r v t ⟨4, ty, num⟩ w.heap.size w3) := by
    have hk3 : Kept [] w w3 := by rw [hw3]; exact (((Kept.alloc _ _ _).trans (Kept.alloc _ _ _)).trans (Kept.alloc _ _ _)).trans (Kept.alloc _ _ _)
    have he : w3.heap[w.heap.size + 1 + 1]? = some (.cells #[.int .u8 4, .int .i64 ty, .int .i64 num] 45 (0, 0)) := by rw [hw3]; exact obj_old (obj_new (by simp)) (by simp <;> omega)
    refine ⟨?_, TBox.of_block ?_ (HA.out.tab.kept (hk3.toBelow (Nat.le_refl _) (by simp))), ?_, ?_, ?_, ?_, HA.out.st.kept hk3, hk3, Nat.le_refl _, HA.out.tab⟩
    · rw [SRow, hw3]; exact obj_old (obj_old (obj_old (heap_alloc_new _ _) (by simp <;> omega)) (by simp <;> omega)) (by simp <;> omega)
    · rw [hw3]; exact obj_old (obj_old (obj_new (by simp)) (by simp <;> omega)) (by simp <;> omega)
    · rw [cell_of_row _ _ _ _ _ _ he]; rfl
    · rw [cell_of_row _ _ _ _ _ _ he]; rfl
    · rw [cell_of_row _ _ _ _ _ _ he]; rfl
    · rw [ZRow, SRow, hw3]; exact obj_new (by simp)
  clear hw3
  have g0 := HENV.out.row.c0
  have g1 := HENV.out.row.c1
  have g2 := HENV.out.row.c2
  have g3 := HENV.out.row.c3
  have k2 := HENV.out.k2
  go_wp2_with fail
  refine (find_any w3 s r num HENV.out.st).mono ?_
  rintro e w4 ⟨rfl, hk4⟩
  have HE4 := Lib.hid (HENV.out.keep hk4)
  clear g0 g1 g2 g3 k2 hk4 HENV
  have g0 := HE4.out.row.c0
  have g1 := HE4.out.row.c1
  have g2 := HE4.out.row.c2
  have g3 := HE4.out.row.c3
  have k0 := HE4.out.k0
  have k1 := HE4.out.k1
  have k2 := HE4.out.k2
  obtain ⟨⟨e0, e1, e2, e3⟩, z0, z1, z2, z3⟩ := HE4.out.res.z
  have HRES : Hid (nextR t r ⟨4, ty, num⟩ = freezeR t r ty) := rfl
  have hxe : exI t.types.length ty = true := HX.out
  have HXE := Lib.hid hxe
  have hfl := HA.out.inv.frz_len
  obtain ⟨c0, c1, c2, c3, c4, _⟩ := HE4.out.tb
  clear hxe
  go_wp2_with fail
  refine (refFreeze_any w4 s r v t ty HE4.out.st HE4.out.tb.tab HA.out.small hN HXE.out (by omega)).mono ?_
  generalize freezeR t r ty = q at *
  obtain ⟨rn, okn⟩ := q
  rintro e w5 ⟨s5, rfl, hi5, hk5⟩
  unfold StV.cells
  have HE5 := Lib.hid (HE4.out.keep hk5)
  have HI5 := Lib.hid hi5
  clear hk5 hi5 c0 c1 c2 c3 c4
  clear g0 g1 g2 g3 k0 k1 k2 e0 e1 e2 e3 z0 z1 z2 z3
  have g0 := HE5.out.row.c0
  have g1 := HE5.out.row.c1
  have g2 := HE5.out.row.c2
  have g3 := HE5.out.row.c3
  have k0 := HE5.out.k0
  have k1 := HE5.out.k1
  have k2 := HE5.out.k2
  obtain ⟨⟨e0, e1, e2, e3⟩, z0, z1, z2, z3⟩ := HE5.out.res.z
  go_wp2_with fail
  refine bodyPost_ret (v := .tuple #[.agg #[.slice s5.dA rn.dec.length s5.dC, .slice s5.mA rn.com.length s5.mC, .slice s5.fA rn.frz.length s5.fC, .slice s5.kA rn.con.length s5.kC], .bool okn]) (by simp [results, Try.results22, go_sem, e0, e1, e2, e3]) rfl ?_
  have hfin := st_end (w := w) HE5.out.res (by have := HE5.out.le; omega) HI5.out HE5.out.kept (stored4_kept _ _ s5 rn)
  rw [HRES.out]
  exact ⟨s5, rfl, hfin.1, hfin.2⟩

set_option maxRecDepth 100000 in
set_option maxHeartbeats 4000000 in
theorem next8 (w : World) (s : StV) (r : RS) (v : TabV) (t : Tab) (ty num : Int) (hA : NAsk w s r v t) (hx : existsF t.types.length ⟨8, ty, num⟩ = true) :
    Calls Try.prog 22 #[.agg (s.cells r), .agg (v.cells t), EvV.val ⟨8, ty, num⟩] w (RetS (nextR t r ⟨8, ty, num⟩) w) := by
  have HA := Lib.hid hA
  have HX := Lib.hid hx
  have hdl := hA.dl
  have hml := hA.ml
  have hkl := hA.kl
  have hN := hA.n
  clear hA hx
  have HSC : Hid (s.cells r = #[.slice s.dA r.dec.length s.dC, .slice s.mA r.com.length s.mC, .slice s.fA r.frz.length s.fC, .slice s.kA r.con.length s.kC]) := rfl
  rw [HSC.out]
  unfold TabV.cells EvV.val
  go_enter Try.func22, Try.ntmps22
  go_upto_region 1 with (fail)
  refine wp_gen ?_
  intro w3 hw3
  have HENV : Hid (NEnv w s r v t ⟨8, ty, num⟩ w.heap.size w3) := by
    have hk3 : Kept [] w w3 := by rw [hw3]; exact (((Kept.alloc _ _ _).trans (Kept.alloc _ _ _)).trans (Kept.alloc _ _ _)).trans (Kept.alloc _ _ _)
    have he : w3.heap[w.heap.size + 1 + 1]? = some (.cells #[.int .u8 8, .int .i64 ty, .int .i64 num] 45 (0, 0)) := by rw [hw3]; exact obj_old (obj_new (by simp)) (by simp <;> omega)
    refine ⟨?_, TBox.of_block ?_ (HA.out.tab.kept (hk3.toBelow (Nat.le_refl _) (by simp))), ?_, ?_, ?_, ?_, HA.out.st.kept hk3, hk3, Nat.le_refl _, HA.out.tab⟩
    · rw [SRow, hw3]; exact obj_old (obj_old (obj_old (heap_alloc_new _ _) (by simp <;> omega)) (by simp <;> omega)) (by simp <;> omega)
    · rw [hw3]; exact obj_old (obj_old (obj_new (by simp)) (by simp <;> omega)) (by simp <;> omega)
    · rw [cell_of_row _ _ _ _ _ _ he]; rfl
    · rw [cell_of_row _ _ _ _ _ _ he]; rfl
    · rw [cell_of_row _ _ _ _ _ _ he]; rfl
    · rw [ZRow, SRow, hw3]; exact obj_new (by simp)
  clear hw3
  have g0 := HENV.out.row.c0
  have g1 := HENV.out.row.c1
  have g2 := HENV.out.row.c2
  have g3 := HENV.out.row.c3
  have k2 := HENV.out.k2
  go_wp2_with fail
  refine (find_any w3 s r num HENV.out.st).mono ?_
  rintro e w4 ⟨rfl, hk4⟩
  have HE4 := Lib.hid (HENV.out.keep hk4)
  clear g0 g1 g2 g3 k2 hk4 HENV
  have g0 := HE4.out.row.c0
  have g1 := HE4.out.row.c1
  have g2 := HE4.out.row.c2
  have g3 := HE4.out.row.c3
  have k0 := HE4.out.k0
  have k1 := HE4.out.k1
  have k2 := HE4.out.k2
  obtain ⟨⟨e0, e1, e2, e3⟩, z0, z1, z2, z3⟩ := HE4.out.res.z
  have HRES : Hid (nextR t r ⟨8, ty, num⟩ = endsR t r false) := rfl
  obtain ⟨c0, c1, c2, c3, c4, _⟩ := HE4.out.tb
  go_wp2_with fail
  refine (refEnds_any w4 s r v t false HE4.out.st HE4.out.tb.tab HA.out.small hN HA.out.inv hdl hkl).mono ?_
  generalize endsR t r false = q at *
  obtain ⟨rn, okn⟩ := q
  rintro e w5 ⟨s5, rfl, hi5, hk5⟩
  unfold StV.cells
  have HE5 := Lib.hid (HE4.out.keep hk5)
  have HI5 := Lib.hid hi5
  clear hk5 hi5 c0 c1 c2 c3 c4
  clear g0 g1 g2 g3 k0 k1 k2 e0 e1 e2 e3 z0 z1 z2 z3
  have g0 := HE5.out.row.c0
  have g1 := HE5.out.row.c1
  have g2 := HE5.out.row.c2
  have g3 := HE5.out.row.c3
  have k0 := HE5.out.k0
  have k1 := HE5.out.k1
  have k2 := HE5.out.k2
  obtain ⟨⟨e0, e1, e2, e3⟩, z0, z1, z2, z3⟩ := HE5.out.res.z
  go_wp2_with fail
  refine bodyPost_ret (v := .tuple #[.agg #[.slice s5.dA rn.dec.length s5.dC, .slice s5.mA rn.com.length s5.mC, .slice s5.fA rn.frz.length s5.fC, .slice s5.kA rn.con.length s5.kC], .bool okn]) (by simp [results, Try.results22, go_sem, e0, e1, e2, e3]) rfl ?_
  have hfin := st_end (w := w) HE5.out.res (by have := HE5.out.le; omega) HI5.out HE5.out.kept (stored4_kept _ _ s5 rn)
  rw [HRES.out]
  exact ⟨s5, rfl, hfin.1, hfin.2⟩

set_option maxRecDepth 100000 in
set_option maxHeartbeats 4000000 in
theorem next9 (w : World) (s : StV) (r : RS) (v : TabV) (t : Tab) (ty num : Int) (hA : NAsk w s r v t) (hx : existsF t.types.length ⟨9, ty, num⟩ = true) :
    Calls Try.prog 22 #[.agg (s.cells r), .agg (v.cells t), EvV.val ⟨9, ty, num⟩] w (RetS (nextR t r ⟨9, ty, num⟩) w) := by
  have HA := Lib.hid hA
  have HX := Lib.hid hx
  have hdl := hA.dl
  have hml := hA.ml
  have hkl := hA.kl
  have hN := hA.n
  clear hA hx
  have HSC : Hid (s.cells r = #[.slice s.dA r.dec.length s.dC, .slice s.mA r.com.length s.mC, .slice s.fA r.frz.length s.fC, .slice s.kA r.con.length s.kC]) := rfl
  rw [HSC.out]
  unfold TabV.cells EvV.val
  go_enter Try.func22, Try.ntmps22
  go_upto_region 1 with (fail)
  refine wp_gen ?_
  intro w3 hw3
  have HENV : Hid (NEnv w s r v t ⟨9, ty, num⟩ w.heap.size w3) := by
    have hk3 : Kept [] w w3 := by rw [hw3]; exact (((Kept.alloc _ _ _).trans (Kept.alloc _ _ _)).trans (Kept.alloc _ _ _)).trans (Kept.alloc _ _ _)
    have he : w3.heap[w.heap.size + 1 + 1]? = some (.cells #[.int .u8 9, .int .i64 ty, .int .i64 num] 45 (0, 0)) := by rw [hw3]; exact obj_old (obj_new (by simp)) (by simp <;> omega)
    refine ⟨?_, TBox.of_block ?_ (HA.out.tab.kept (hk3.toBelow (Nat.le_refl _) (by simp))), ?_, ?_, ?_, ?_, HA.out.st.kept hk3, hk3, Nat.le_refl _, HA.out.tab⟩
    · rw [SRow, hw3]; exact obj_old (obj_old (obj_old (heap_alloc_new _ _) (by simp <;> omega)) (by simp <;> omega)) (by simp <;> omega)
    · rw [hw3]; exact obj_old (obj_old (obj_new (by simp)) (by simp <;> omega)) (by simp <;> omega)
    · rw [cell_of_row _ _ _ _ _ _ he]; rfl
    · rw [cell_of_row _ _ _ _ _ _ he]; rfl
    · rw [cell_of_row _ _ _ _ _ _ he]; rfl
    · rw [ZRow, SRow, hw3]; exact obj_new (by simp)
  clear hw3
  have g0 := HENV.out.row.c0
  have g1 := HENV.out.row.c1
  have g2 := HENV.out.row.c2
  have g3 := HENV.out.row.c3
  have k2 := HENV.out.k2
  go_wp2_with fail
  refine (find_any w3 s r num HENV.out.st).mono ?_
  rintro e w4 ⟨rfl, hk4⟩
  have HE4 := Lib.hid (HENV.out.keep hk4)
  clear g0 g1 g2 g3 k2 hk4 HENV
  have g0 := HE4.out.row.c0
  have g1 := HE4.out.row.c1
  have g2 := HE4.out.row.c2
  have g3 := HE4.out.row.c3
  have k0 := HE4.out.k0
  have k1 := HE4.out.k1
  have k2 := HE4.out.k2
  obtain ⟨⟨e0, e1, e2, e3⟩, z0, z1, z2, z3⟩ := HE4.out.res.z
  have HRES : Hid (nextR t r ⟨9, ty, num⟩ = endsR t r true) := rfl
  obtain ⟨c0, c1, c2, c3, c4, _⟩ := HE4.out.tb
  go_wp2_with fail
  refine (refEnds_any w4 s r v t true HE4.out.st HE4.out.tb.tab HA.out.small hN HA.out.inv hdl hkl).mono ?_
  generalize endsR t r true = q at *
  obtain ⟨rn, okn⟩ := q
  rintro e w5 ⟨s5, rfl, hi5, hk5⟩
  unfold StV.cells
  have HE5 := Lib.hid (HE4.out.keep hk5)
  have HI5 := Lib.hid hi5
  clear hk5 hi5 c0 c1 c2 c3 c4
  clear g0 g1 g2 g3 k0 k1 k2 e0 e1 e2 e3 z0 z1 z2 z3
  have g0 := HE5.out.row.c0
  have g1 := HE5.out.row.c1
  have g2 := HE5.out.row.c2
  have g3 := HE5.out.row.c3
  have k0 := HE5.out.k0
  have k1 := HE5.out.k1
  have k2 := HE5.out.k2
  obtain ⟨⟨e0, e1, e2, e3⟩, z0, z1, z2, z3⟩ := HE5.out.res.z
  go_wp2_with fail
  refine bodyPost_ret (v := .tuple #[.agg #[.slice s5.dA rn.dec.length s5.dC, .slice s5.mA rn.com.length s5.mC, .slice s5.fA rn.frz.length s5.fC, .slice s5.kA rn.con.length s5.kC], .bool okn]) (by simp [results, Try.results22, go_sem, e0, e1, e2, e3]) rfl ?_
  have hfin := st_end (w := w) HE5.out.res (by have := HE5.out.le; omega) HI5.out HE5.out.kept (stored4_kept _ _ s5 rn)
  rw [HRES.out]
  exact ⟨s5, rfl, hfin.1, hfin.2⟩
end Go.Proofs.Ytbjnoffdafpkgaa
