/- The law ElabOrder, walked. -/
import Derived.Test.YtoaklikkepkhfaaL4
namespace Go.Proofs.Ytoaklikkepkhfaa
open Go.RowKit

theorem same_self (xs : List Int) : sameI xs xs = true := by simp [sameI]

set_option maxRecDepth 100000 in
set_option maxHeartbeats 2000000 in
theorem elabOrder_any (w : World) (ua : Option Addr) (uc : Nat) (l : List UnitV) (sa : Option Addr) (sc : Nat) (subs : List SubV) (u : Int) (hE : Env w ua uc l sa sc subs) :
    Calls Try.prog 3 #[.slice ua l.length uc, .slice sa subs.length sc, .int .i64 u] w (RetB true w) := by
  have HE := Lib.hid hE
  clear hE
  go_enter Try.func3, Try.ntmps3
  go_wp2_with fail
  refine (great_any w ua uc l sa sc subs HE.out).mono ?_
  rintro e w1 ⟨b, rfl, hsm, hk1⟩
  have HSM := Lib.hid hsm
  have HK1 := Lib.hid hk1
  clear hsm hk1
  cases b
  · have HS := Lib.hid (HSM.out rfl)
    clear HSM
    go_wp2_with fail
    refine (needsTop_any w1 ua uc l sa sc subs u (HE.out.kept HK1.out) HS.out.room).mono ?_
    rintro e w2 ⟨v7, xs, er, rfl, hres, hi7, hk2⟩
    have HR7 := Lib.hid hres
    have HI7 := Lib.hid hi7
    have HK2 := Lib.hid hk2
    clear hres hi7 hk2
    go_wp2_with fail
    refine (refNeedsTop_any w2 ua uc l sa sc subs u (HE.out.kept (HK1.out.trans HK2.out)) HS.out.room).mono ?_
    rintro e w3 ⟨v9, ys, fr, rfl, hres, hi9, hk3⟩
    obtain ⟨h1, h2⟩ := HR7.out.uniq hres
    subst h1 h2
    have HI9 := Lib.hid hi9
    have HK3 := Lib.hid hk3
    clear hres hi9 hk3 HR7
    go_wp2_with fail
    refine (order_any w3 ua uc l sa sc subs (HE.out.kept ((HK1.out.trans HK2.out).trans HK3.out)) HS.out.room).mono ?_
    rintro e w4 ⟨v11, zs, gr, rfl, hres, hi11, hk4⟩
    have HR11 := Lib.hid hres
    have HI11 := Lib.hid hi11
    have HK4 := Lib.hid hk4
    clear hres hi11 hk4
    go_wp2_with fail
    refine (refOrder_any w4 ua uc l sa sc subs (HE.out.kept (((HK1.out.trans HK2.out).trans HK3.out).trans HK4.out)) HS.out.room).mono ?_
    rintro e w5 ⟨v13, us, hr, rfl, hres, hi13, hk5⟩
    obtain ⟨h1, h2⟩ := HR11.out.uniq hres
    subst h1 h2
    have HI13 := Lib.hid hi13
    have HK5 := Lib.hid hk5
    clear hres hi13 hk5 HR11
    go_wp2_with fail
    refine (sameInts_any w5 v7 v9 xs xs (HI7.out.atk ((HK3.out.trans HK4.out).trans HK5.out)) (HI9.out.atk (HK4.out.trans HK5.out))).mono ?_
    rintro e w6 ⟨rfl, hk6⟩
    have HK6 := Lib.hid hk6
    clear hk6
    rw [same_self]
    go_wp2_with fail
    refine (sameInts_any w6 v11 v13 zs zs (HI11.out.atk (HK5.out.trans HK6.out)) (HI13.out.atk HK6.out)).mono ?_
    rintro e w7 ⟨rfl, hk7⟩
    have HK7 := Lib.hid hk7
    clear hk7
    rw [same_self]
    go_wp2_with fail
    refine (head_any w7).mono ?_
    rintro e w8 ⟨rfl, hk8⟩
    have HK8 := Lib.hid hk8
    clear hk8
    go_wp2_with fail
    go_ret
    exact ⟨rfl, ((((((HK1.out.trans HK2.out).trans HK3.out).trans HK4.out).trans HK5.out).trans HK6.out).trans HK7.out).trans HK8.out⟩
  · go_wp2_with fail
    refine (head_any w1).mono ?_
    rintro e w8 ⟨rfl, hk8⟩
    have HK8 := Lib.hid hk8
    clear hk8
    go_wp2_with fail
    go_ret
    exact ⟨rfl, HK1.out.trans HK8.out⟩
end Go.Proofs.Ytoaklikkepkhfaa
