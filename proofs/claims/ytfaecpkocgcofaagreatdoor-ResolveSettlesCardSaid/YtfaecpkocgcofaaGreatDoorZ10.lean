/- Lemmas for ResolveSettles, printed small: S13 V2 X3. -/
import Derived.Test.YtfaecpkocgcofaaGreatDoorZ9
import Derived.Laws.EntriesVeiled
import Derived.Deep.LoopGhost
set_option linter.all false
set_option maxRecDepth 100000
set_option maxHeartbeats 8000000
open Go.Proofs.Tryz
namespace Go.Proofs.YtfaecpkocgcofaaGreatDoor
section
open Go.RowKit
theorem Zkt {I:ExV→Bool} {t:Tab} {x:ExV} (h:x.ls.length≠2):Zcb I t x=false:=by
 unfold Zcb
 split
 ·rename_i h1;rw[h1]at h;simp at h
 ·rfl
theorem ZhP {I:ExV→Bool} {t:Tab} {x:ExV} (h:x.ls.length=2):Zcb I t x=((Yr t (l0 x)).2.2 && I (l1 x)):=by
 have e:=Zr8 (d:=default) h
 have h0:l0 x=x.ls.getD 0 default:=rfl
 have h1:l1 x=x.ls.getD 1 default:=rfl
 rw[←h0,←h1]at e
 rw[ZaG]
 unfold Zcb
 rw[e]
theorem Zsg {I:ExV→Bool} {t:Tab} {x:ExV} (h:x.ls.length=2):inF I t x=((Yr t (l1 x)).2.2 && I (l0 x)):=by
 have e:=Zr8 (d:=default) h
 have h0:l0 x=x.ls.getD 0 default:=rfl
 have h1:l1 x=x.ls.getD 1 default:=rfl
 rw[←h0,←h1]at e
 rw[ZaG]
 unfold inF
 rw[e]
theorem ZnL {I:ExV→Bool} {t:Tab} {x:ExV} (h:x.ls.length≠2):inF I t x=ZbQ I x.ls 3:=by
 unfold inF
 split
 ·rename_i h1;rw[h1]at h;simp at h
 ·rfl
theorem Je {w:World} {n:Nat} {x:ExV} (h:Qe w (n+1) x) (hj:1 < x.ls.length):∃b o,x.la=some ⟨b,o,none⟩∧Q1 w b o (l0 x)∧Q1 w b (o+9) (l1 x)∧Qe w n (l0 x)∧Qe w n (l1 x):=by
 obtain⟨b,o,h1,h2,h3⟩:=ZaO h (by omega)
 obtain⟨b',o',h4,h5,h6⟩:=ZqP h hj
 rw[h1]at h4
 cases h4
 have e:o+1*9=o+9:=by omega
 rw[e]at h5
 exact⟨b,o,h1,h2,h5,h3,h6⟩
section
variable (w:World) (v:Zp) (t:Tab) (x:ExV) (n:Nat)
theorem Zqu (ih:ZmD v t n) (hT:Zw w v t) (hx:Qe w (n+1) x) (hs:(ZU t x.t).isSome=true) (hk:x.kind=8):Calls prog 79 #[.agg (v.cells t),.agg x.cells.toArray] w (ZE (.bool (isF (isP t n) t x)) w):=by
 have HSP:=hh (fun w' m (hk:Kept [] w w')=>QF w' v t m (hT.kept hk))
 unfold Zp.cells at HSP
 unfold bdV at HSP
 have HM:=hh (fun w' m (hk:Kept [] w w')=>Jp w' v t m (hT.kept hk))
 have HI:=hh (fun w' (hk:Kept [] w w') y hy=>ih w' y (hT.kept hk) hy)
 have HW0:Hid (isF (isP t n) t x=Zcb (isP t n) t x):=by rw[Hid,isF,hs];simp[hk]
 have q1:=hx.2.2.2.2.1
 by_cases hl:x.ls.length=2
 rotate_left
 ·have HW:Hid (isF (isP t n) t x=false):=by rw[Hid,HW0.out,Zkt hl]
  have hl2:((x.ls.length:Int) != 2)=true:=by simp;omega
  clear hT hx ih HM HI HW0 hl
  unfold Zp.cells
  go_enter func79,ntmps79
  go_wp2_with fail
  refine nxt (HSP.out _ _ kp) fun w1 p_w1=>?_;have hz_w1:=szk w w1
  clear HSP
  go_wp2_with fail
  rw[HW.out]
  exact Za rfl (Zj results79 (Zh rfl)) kp
 have HW:Hid (isF (isP t n) t x=((Yr t (l0 x)).2.2 && isP t n (l1 x))):=by rw[Hid,HW0.out,ZhP hl]
 obtain⟨b0,o0,ha,hat0,hat1,_,hi1⟩:=Je hx (by omega)
 have HI1:=hh hi1
 have hl2:((x.ls.length:Int) != 2)=false:=by simp;omega
 have hl3:(1:Int) < (x.ls.length:Int):=by omega
 have hl4:(0:Int) < (x.ls.length:Int):=by omega
 clear hT hx ih HW0 hl hi1
 generalize l0 x=y at*
 generalize l1 x=z at*
 unfold Zp.cells at HM HI
 unfold pvV at HM
 unfold Zp.cells
 go_enter func79,ntmps79
 go_wp2_with fail
 refine nxt (HSP.out _ _ kp) fun w1 p_w1=>?_;have hz_w1:=szk w w1
 clear HSP
 go_wp2_with fail
 refine Ze 10 2 (fun _=> .cells #[.int .i64 0,.int .i64 0] 150) (by kernel_rfl) (by kernel_rfl) (fun i o h1 h2 h3=>by obtain rfl | rfl:i=10∨i=11:=(by omega);all_goals(obtain rfl:=Option.some.inj h3;exact Zab rfl rfl Tryz.zeroBd)) (fun _ _ _ _ _ h=>h) ?_;apply Exists.intro;refine⟨fun U hU hN=>?_,?_⟩;simp only[List.take_succ_cons,List.take_zero]
 ·repeat(go_big_quiet_step (exact Calls.headV hU (HM.out _ _ (Kept.trans kp (Zs.prop _)))))
  refine wpQuiet_nil ?_
  exact rfl
 simp only[List.drop_succ_cons,List.drop_zero,List.take_succ_cons,List.take_zero]
 intro B2 hB2 _ B3 hB3 hne w5 hk5 hh
 haveI p_w5:Zb w5 _:=⟨hk5⟩
 haveI bx2:Zc w5 B2 150 #[.int .i64 0,.int .i64 0]:=Q8 hh (by simp)
 haveI bx3:Zc w5 B3 150 #[.int .i64 0,.int .i64 0]:=Q8 hh (by simp)
 have hne2:=ZdW hne
 haveI ap1:Qf B2 B3:=⟨hne2⟩
 haveI ap2:Qf B3 B2:=⟨hne2.symm⟩
 haveI g2:Z2 B2 _:=⟨hB2⟩
 haveI g3:Z2 B3 _:=⟨hB3⟩
 clear hk5 hh hne
 go_wp2_with fail
 refine Zm ?_
 intro w6 hw6
 haveI p_w6:Zb w6 _:=⟨by rw[hw6];exact Kept.setB (Kept.setB (Kept.setB (Kept.setB p_w5.kept _ _ _ hB2) _ _ _ hB2) _ _ _ hB3) _ _ _ hB3⟩
 clear hw6 p_w5 bx2 bx3 hB2 hB3 ap1 ap2 g2 g3 hne2
 cases hm:(Yr t y).2.2
 ·rw[hm]at HW
  refine Ze 10 0 (fun _=> .cells #[] 0) (by kernel_rfl) (by kernel_rfl) (fun i o h1 h2=>by omega) (fun _ _ _ _ _ h=>h) ?_;apply Exists.intro;refine⟨fun U hU hN=>?_,?_⟩;simp only[List.take_succ_cons,List.take_zero]
  ·repeat(go_big_quiet_step (fail))
   refine wpQuiet_nil ?_
   exact rfl
  simp only[List.drop_succ_cons,List.drop_zero,List.take_succ_cons,List.take_zero]
  intro w7 hk7 _
  haveI p_w7:Zb w7 _:=⟨hk7⟩
  go_wp2_with fail
  rw[HW.out]
  exact Za rfl (Zj results79 (Zh rfl)) kp
 rw[hm]at HW
 refine Ze 10 0 (fun _=> .cells #[] 0) (by kernel_rfl) (by kernel_rfl) (fun i o h1 h2=>by omega) (fun _ _ _ _ _ h=>h) ?_;apply Exists.intro;refine⟨fun U hU hN=>?_,?_⟩;simp only[List.take_succ_cons,List.take_zero]
 ·repeat(go_big_quiet_step (exact Calls.headV hU (HI.out _ (Kept.trans kp (Zs.prop _)) _ (HI1.out.kept (Kept.trans kp (Zs.prop _))))))
  refine wpQuiet_nil ?_
  exact rfl
 simp only[List.drop_succ_cons,List.drop_zero,List.take_succ_cons,List.take_zero]
 intro w7 hk7 _
 haveI p_w7:Zb w7 _:=⟨hk7⟩
 go_wp2_with fail
 rw[HW.out]
 exact Za rfl (Zj results79 (Zh rfl)) kp
theorem Zse (ih:ZmD v t n) (hT:Zw w v t) (hx:Qe w (n+1) x) (hs:(ZU t x.t).isSome=true) (hk:x.kind=13∨x.kind=14):Calls prog 79 #[.agg (v.cells t),.agg x.cells.toArray] w (ZE (.bool (isF (isP t n) t x)) w):=by
 have HSP:=hh (fun w' m (hk:Kept [] w w')=>QF w' v t m (hT.kept hk))
 unfold Zp.cells at HSP
 unfold bdV at HSP
 have HM:=hh (fun w' m (hk:Kept [] w w')=>Jp w' v t m (hT.kept hk))
 have HI:=hh (fun w' (hk:Kept [] w w') y hy=>ih w' y (hT.kept hk) hy)
 have HA:=hh (fun w' (hk:Kept [] w w')=>ZeG w' v t x.la x.lc x.ls n 3 ih (hT.kept hk) hx.2.2.2.2.1 (hx.1.kept hk) (fun y hy=>(hx.2.1 y hy).kept hk))
 have HW0:Hid (isF (isP t n) t x=inF (isP t n) t x):=by
  rw[Hid,isF,hs]
  rcases hk with h | h <;> simp[h]
 have q1:=hx.2.2.2.2.1
 by_cases hl:x.ls.length=2
 rotate_left
 ·have HW:Hid (isF (isP t n) t x=ZbQ (isP t n) x.ls 3):=by rw[Hid,HW0.out,ZnL hl]
  have hl2:((x.ls.length:Int) == 2)=false:=by simp;omega
  clear hT hx ih HM HI HW0 hl
  unfold Zp.cells at HA
  unfold Zp.cells
  rcases hk with hk | hk
  all_goals
   go_enter func79,ntmps79
   go_wp2_with fail
   refine nxt (HSP.out _ _ kp) fun w1 p_w1=>?_;have hz_w1:=szk w w1
   clear HSP
   go_wp2_with fail
   refine nxt (HA.out _ kp) fun w2 p_w2=>?_;have hz_w2:=szk w w2
   go_wp2_with fail
   rw[HW.out]
   exact Za rfl (Zj results79 (Zh rfl)) kp
 have HW:Hid (isF (isP t n) t x=((Yr t (l1 x)).2.2 && isP t n (l0 x))):=by rw[Hid,HW0.out,Zsg hl]
 obtain⟨b0,o0,ha,hat0,hat1,hi0,_⟩:=Je hx (by omega)
 have HI0:=hh hi0
 have hl2:((x.ls.length:Int) == 2)=true:=by simp;omega
 have hl3:(1:Int) < (x.ls.length:Int):=by omega
 have hl4:(0:Int) < (x.ls.length:Int):=by omega
 clear hT hx ih HW0 hl hi0 HA
 generalize l0 x=y at*
 generalize l1 x=z at*
 unfold Zp.cells at HM HI
 unfold pvV at HM
 unfold Zp.cells
 rcases hk with hk | hk
 all_goals
  go_enter func79,ntmps79
  go_wp2_with fail
  refine nxt (HSP.out _ _ kp) fun w1 p_w1=>?_;have hz_w1:=szk w w1
  clear HSP
  go_wp2_with fail
  refine Ze 10 2 (fun _=> .cells #[.int .i64 0,.int .i64 0] 150) (by kernel_rfl) (by kernel_rfl) (fun i o h1 h2 h3=>by obtain rfl | rfl:i=10∨i=11:=(by omega);all_goals(obtain rfl:=Option.some.inj h3;exact Zab rfl rfl Tryz.zeroBd)) (fun _ _ _ _ _ h=>h) ?_;apply Exists.intro;refine⟨fun U hU hN=>?_,?_⟩;simp only[List.take_succ_cons,List.take_zero]
  ·repeat(go_big_quiet_step (exact Calls.headV hU (HM.out _ _ (Kept.trans kp (Zs.prop _)))))
   refine wpQuiet_nil ?_
   exact rfl
  simp only[List.drop_succ_cons,List.drop_zero,List.take_succ_cons,List.take_zero]
  intro B2 hB2 _ B3 hB3 hne w5 hk5 hh
  haveI p_w5:Zb w5 _:=⟨hk5⟩
  haveI bx2:Zc w5 B2 150 #[.int .i64 0,.int .i64 0]:=Q8 hh (by simp)
  haveI bx3:Zc w5 B3 150 #[.int .i64 0,.int .i64 0]:=Q8 hh (by simp)
  have hne2:=ZdW hne
  haveI ap1:Qf B2 B3:=⟨hne2⟩
  haveI ap2:Qf B3 B2:=⟨hne2.symm⟩
  haveI g2:Z2 B2 _:=⟨hB2⟩
  haveI g3:Z2 B3 _:=⟨hB3⟩
  clear hk5 hh hne
  go_wp2_with fail
  refine Zm ?_
  intro w6 hw6
  haveI p_w6:Zb w6 _:=⟨by rw[hw6];exact Kept.setB (Kept.setB (Kept.setB (Kept.setB p_w5.kept _ _ _ hB2) _ _ _ hB2) _ _ _ hB3) _ _ _ hB3⟩
  clear hw6 p_w5 bx2 bx3 hB2 hB3 ap1 ap2 g2 g3 hne2
  cases hm:(Yr t z).2.2
  ·rw[hm]at HW
   refine Ze 10 0 (fun _=> .cells #[] 0) (by kernel_rfl) (by kernel_rfl) (fun i o h1 h2=>by omega) (fun _ _ _ _ _ h=>h) ?_;apply Exists.intro;refine⟨fun U hU hN=>?_,?_⟩;simp only[List.take_succ_cons,List.take_zero]
   ·repeat(go_big_quiet_step (fail))
    refine wpQuiet_nil ?_
    exact rfl
   simp only[List.drop_succ_cons,List.drop_zero,List.take_succ_cons,List.take_zero]
   intro w7 hk7 _
   haveI p_w7:Zb w7 _:=⟨hk7⟩
   go_wp2_with fail
   rw[HW.out]
   exact Za rfl (Zj results79 (Zh rfl)) kp
  rw[hm]at HW
  refine Ze 10 0 (fun _=> .cells #[] 0) (by kernel_rfl) (by kernel_rfl) (fun i o h1 h2=>by omega) (fun _ _ _ _ _ h=>h) ?_;apply Exists.intro;refine⟨fun U hU hN=>?_,?_⟩;simp only[List.take_succ_cons,List.take_zero]
  ·repeat(go_big_quiet_step (exact Calls.headV hU (HI.out _ (Kept.trans kp (Zs.prop _)) _ (HI0.out.kept (Kept.trans kp (Zs.prop _))))))
   refine wpQuiet_nil ?_
   exact rfl
  simp only[List.drop_succ_cons,List.drop_zero,List.take_succ_cons,List.take_zero]
  intro w7 hk7 _
  haveI p_w7:Zb w7 _:=⟨hk7⟩
  go_wp2_with fail
  rw[HW.out]
  exact Za rfl (Zj results79 (Zh rfl)) kp
theorem Zsc (ih:ZmD v t n) (hT:Zw w v t) (hx:Qe w (n+1) x) (hs:(ZU t x.t).isSome=true) (hk:x.kind=11):Calls prog 79 #[.agg (v.cells t),.agg x.cells.toArray] w (ZE (.bool (isF (isP t n) t x)) w):=by
 have HSP:=hh (fun w' m (hk:Kept [] w w')=>QF w' v t m (hT.kept hk))
 unfold Zp.cells at HSP
 unfold bdV at HSP
 have HW0:Hid (isF (isP t n) t x=(decide (18≤x.oper∧x.oper≤21) && ZbQ (isP t n) x.ls 1)):=by rw[Hid,isF,hs];simp[hk]
 have HA:=hh (fun w' (hk:Kept [] w w')=>ZeG w' v t x.la x.lc x.ls n 1 ih (hT.kept hk) hx.2.2.2.2.1 (hx.1.kept hk) (fun y hy=>(hx.2.1 y hy).kept hk))
 clear hT hx ih
 unfold Zp.cells at HA
 unfold Zp.cells
 by_cases h1:18≤x.oper
 rotate_left
 ·have HW:Hid (isF (isP t n) t x=false):=by rw[Hid,HW0.out];simp[h1]
  clear HA HW0
  go_enter func79,ntmps79
  go_wp2_with fail
  refine nxt (HSP.out _ _ kp) fun w1 p_w1=>?_;have hz_w1:=szk w w1
  clear HSP
  go_wp2_with fail
  rw[HW.out]
  exact Za rfl (Zj results79 (Zh rfl)) kp
 by_cases h2:x.oper≤21
 rotate_left
 ·have HW:Hid (isF (isP t n) t x=false):=by rw[Hid,HW0.out];simp[h2]
  clear HA HW0
  go_enter func79,ntmps79
  go_wp2_with fail
  refine nxt (HSP.out _ _ kp) fun w1 p_w1=>?_;have hz_w1:=szk w w1
  clear HSP
  go_wp2_with fail
  rw[HW.out]
  exact Za rfl (Zj results79 (Zh rfl)) kp
 have HW:Hid (isF (isP t n) t x=ZbQ (isP t n) x.ls 1):=by rw[Hid,HW0.out];simp[h1,h2]
 clear HW0
 go_enter func79,ntmps79
 go_wp2_with fail
 refine nxt (HSP.out _ _ kp) fun w1 p_w1=>?_;have hz_w1:=szk w w1
 clear HSP
 go_wp2_with fail
 refine nxt (HA.out _ kp) fun w2 p_w2=>?_;have hz_w2:=szk w w2
 go_wp2_with fail
 rw[HW.out]
 exact Za rfl (Zj results79 (Zh rfl)) kp
theorem Zt5 (ih:ZmD v t n) (hT:Zw w v t) (hx:Qe w (n+1) x) (hs:(ZU t x.t).isSome=true) (hk:x.kind=12):Calls prog 79 #[.agg (v.cells t),.agg x.cells.toArray] w (ZE (.bool (isF (isP t n) t x)) w):=by
 have HSP:=hh (fun w' m (hk:Kept [] w w')=>QF w' v t m (hT.kept hk))
 unfold Zp.cells at HSP
 unfold bdV at HSP
 have HW0:Hid (isF (isP t n) t x=(decide (1≤x.oper∧x.oper≤17) && ZbQ (isP t n) x.ls 2)):=by rw[Hid,isF,hs];simp[hk]
 have HA:=hh (fun w' (hk:Kept [] w w')=>ZeG w' v t x.la x.lc x.ls n 2 ih (hT.kept hk) hx.2.2.2.2.1 (hx.1.kept hk) (fun y hy=>(hx.2.1 y hy).kept hk))
 clear hT hx ih
 unfold Zp.cells at HA
 unfold Zp.cells
 by_cases h1:1≤x.oper
 rotate_left
 ·have HW:Hid (isF (isP t n) t x=false):=by rw[Hid,HW0.out];simp[h1]
  clear HA HW0
  go_enter func79,ntmps79
  go_wp2_with fail
  refine nxt (HSP.out _ _ kp) fun w1 p_w1=>?_;have hz_w1:=szk w w1
  clear HSP
  go_wp2_with fail
  rw[HW.out]
  exact Za rfl (Zj results79 (Zh rfl)) kp
 by_cases h2:x.oper≤17
 rotate_left
 ·have HW:Hid (isF (isP t n) t x=false):=by rw[Hid,HW0.out];simp[h2]
  clear HA HW0
  go_enter func79,ntmps79
  go_wp2_with fail
  refine nxt (HSP.out _ _ kp) fun w1 p_w1=>?_;have hz_w1:=szk w w1
  clear HSP
  go_wp2_with fail
  rw[HW.out]
  exact Za rfl (Zj results79 (Zh rfl)) kp
 have HW:Hid (isF (isP t n) t x=ZbQ (isP t n) x.ls 2):=by rw[Hid,HW0.out];simp[h1,h2]
 clear HW0
 go_enter func79,ntmps79
 go_wp2_with fail
 refine nxt (HSP.out _ _ kp) fun w1 p_w1=>?_;have hz_w1:=szk w w1
 clear HSP
 go_wp2_with fail
 refine nxt (HA.out _ kp) fun w2 p_w2=>?_;have hz_w2:=szk w w2
 go_wp2_with fail
 rw[HW.out]
 exact Za rfl (Zj results79 (Zh rfl)) kp
theorem Zqv (hT:Zw w v t) (hs:(ZU t x.t).isSome=true) (k1:x.kind≠1) (k3:x.kind≠3) (k4:x.kind≠4) (k6:x.kind≠6) (k7:x.kind≠7) (k8:x.kind≠8) (k10:x.kind≠10) (k11:x.kind≠11) (k12:x.kind≠12) (k13:x.kind≠13) (k14:x.kind≠14):
 Calls prog 79 #[.agg (v.cells t),.agg x.cells.toArray] w (ZE (.bool (isF (isP t n) t x)) w):=by
 have HSP:=hh (fun w' m (hk:Kept [] w w')=>QF w' v t m (hT.kept hk))
 unfold Zp.cells at HSP
 unfold bdV at HSP
 have HW:Hid (isF (isP t n) t x=false):=by rw[Hid,isF,hs];simp[k1,k3,k4,k6,k7,k8,k10,k11,k12,k13,k14]
 clear hT
 have e1:(x.kind == 1)=false:=by simp[k1]
 have e3:(x.kind == 3)=false:=by simp[k3]
 have e4:(x.kind == 4)=false:=by simp[k4]
 have e6:(x.kind == 6)=false:=by simp[k6]
 have e7:(x.kind == 7)=false:=by simp[k7]
 have e8:(x.kind == 8)=false:=by simp[k8]
 have e10:(x.kind == 10)=false:=by simp[k10]
 have e11:(x.kind == 11)=false:=by simp[k11]
 have e12:(x.kind == 12)=false:=by simp[k12]
 have e13:(x.kind == 13)=false:=by simp[k13]
 have e14:(x.kind == 14)=false:=by simp[k14]
 clear k1 k3 k4 k6 k7 k8 k10 k11 k12 k13 k14
 unfold Zp.cells
 go_enter func79,ntmps79
 go_wp2_with fail
 refine nxt (HSP.out _ _ kp) fun w1 p_w1=>?_;have hz_w1:=szk w w1
 clear HSP
 go_wp2_with fail
 rw[HW.out]
 exact Za rfl (Zj results79 (Zh rfl)) kp
end
theorem Zsf (v:Zp) (t:Tab):∀n,ZmD v t n:=by
 intro n
 induction n with
 | zero=>intro w x _ hx;exact hx.elim
 | succ n ih=>
  intro w x hT hx
  show Calls prog _ _ w (ZE (.bool (isF (isP t n) t x)) w)
  cases hs:(ZU t x.t).isSome
  ·exact Zqt w v t x n hT hs
  by_cases k1:x.kind=1
  ·exact Zsd w v t x n hT hs k1
  by_cases k3:x.kind=3
  ·exact ZkY w v t x n hT hs (.inl k3)
  by_cases k4:x.kind=4
  ·exact ZkY w v t x n hT hs (.inr k4)
  by_cases k6:x.kind=6
  ·exact Zqx w v t x n hT hx hs k6
  by_cases k7:x.kind=7
  ·exact Zqw w v t x n ih hT hx hs k7
  by_cases k8:x.kind=8
  ·exact Zqu w v t x n ih hT hx hs k8
  by_cases k10:x.kind=10
  ·exact Zt4 w v t x n ih hT hx hs k10
  by_cases k11:x.kind=11
  ·exact Zsc w v t x n ih hT hx hs k11
  by_cases k12:x.kind=12
  ·exact Zt5 w v t x n ih hT hx hs k12
  by_cases k13:x.kind=13
  ·exact Zse w v t x n ih hT hx hs (.inl k13)
  by_cases k14:x.kind=14
  ·exact Zse w v t x n ih hT hx hs (.inr k14)
  exact Zqv w v t x n hT hs k1 k3 k4 k6 k7 k8 k10 k11 k12 k13 k14
def Zan (a b:Int):Int:=if a < b then -1 else if b < a then 1 else 0
theorem Zbb (w:World) (a:Int):Calls prog 263 #[.int .i64 a] w (ZE (.bool false) w):=by
 go_enter func263,ntmps263
 go_wp2_with fail
 exact Za rfl (Zj results263 (Zh rfl)) kp
theorem Zhp (w:World) (a b:Int):Calls prog 200 #[.int .i64 a,.int .i64 b] w (ZE (.int .i64 (Zan a b)) w):=by
 by_cases h1:a < b
 ·have HW:Hid (Zan a b= -1):=by rw[Hid,Zan,if_pos h1]
  go_enter func200,ntmps200
  go_wp2_with fail
  refine nxt (Zbb _ _) fun w1 p_w1=>?_;have hz_w1:=szk w w1
  go_wp2_with fail
  refine nxt (Zbb _ _) fun w2 p_w2=>?_;have hz_w2:=szk w w2
  go_wp2_with fail
  rw[HW.out]
  exact Za rfl (Zj results200 (Zh rfl)) kp
 by_cases h2:b < a
 ·have HW:Hid (Zan a b=1):=by rw[Hid,Zan,if_neg h1,if_pos h2]
  go_enter func200,ntmps200
  go_wp2_with fail
  refine nxt (Zbb _ _) fun w1 p_w1=>?_;have hz_w1:=szk w w1
  go_wp2_with fail
  refine nxt (Zbb _ _) fun w2 p_w2=>?_;have hz_w2:=szk w w2
  go_wp2_with fail
  rw[HW.out]
  exact Za rfl (Zj results200 (Zh rfl)) kp
 have HW:Hid (Zan a b=0):=by rw[Hid,Zan,if_neg h1,if_neg h2]
 have h3:b≤a:=by omega
 have h4:a≤b:=by omega
 go_enter func200,ntmps200
 go_wp2_with fail
 refine nxt (Zbb _ _) fun w1 p_w1=>?_;have hz_w1:=szk w w1
 go_wp2_with fail
 refine nxt (Zbb _ _) fun w2 p_w2=>?_;have hz_w2:=szk w w2
 go_wp2_with fail
 rw[HW.out]
 exact Za rfl (Zj results200 (Zh rfl)) kp
theorem Zj6 (w:World) (c:Int):Calls prog 207 #[.int .i64 c] w (ZE (.bool (c == 0)) w):=by
 go_enter func207,ntmps207
 go_wp2_with fail
 exact Za rfl (Zj results207 (Zh rfl)) kp
theorem Zj5 (w:World) (c:Int):Calls prog 208 #[.int .i64 c] w (ZE (.bool (c != 0)) w):=by
 go_enter func208,ntmps208
 go_wp2_with fail
 exact Za rfl (Zj results208 (Zh rfl)) kp
theorem Zj4 (w:World) (c:Int):Calls prog 209 #[.int .i64 c] w (ZE (.bool (decide (c < 0))) w):=by
 go_enter func209,ntmps209
 go_wp2_with fail
 exact Za rfl (Zj results209 (Zh rfl)) kp
theorem Zj3 (w:World) (c:Int):Calls prog 210 #[.int .i64 c] w (ZE (.bool (decide (c≤0))) w):=by
 go_enter func210,ntmps210
 go_wp2_with fail
 exact Za rfl (Zj results210 (Zh rfl)) kp
theorem Zj2 (w:World) (c:Int):Calls prog 211 #[.int .i64 c] w (ZE (.bool (decide (0 < c))) w):=by
 go_enter func211,ntmps211
 go_wp2_with fail
 exact Za rfl (Zj results211 (Zh rfl)) kp
theorem Zj1 (w:World) (c:Int):Calls prog 212 #[.int .i64 c] w (ZE (.bool (decide (0≤c))) w):=by
 go_enter func212,ntmps212
 go_wp2_with fail
 exact Za rfl (Zj results212 (Zh rfl)) kp
structure ZhA (K:Nat) (p:Int→Bool):Prop where
 eg:∀args w,(callFunc K args).run prog w= .ok (.enter K args) w
 run:∀W c,Calls prog K #[.int .i64 c] W (ZE (.bool (p c)) W)
theorem JZ (w:World) (B K:Nat) (p:Int→Bool) (a b:Int) (hK:ZhA K p) [hB:Zc w B 110 #[.func (.func K) #[] #[]]]:
 Calls prog 199 #[.int .i64 a,.int .i64 b,.pointer (some ⟨B,0,none⟩)] w (ZE (.int .i64 (ZT (p (Zan a b)))) w):=by
 have eg:=hK.eg
 have HR:=hh hK.run
 clear hK
 go_enter func199,ntmps199
 go_wp2_with fail
 refine Ze 7 0 (fun _=> .cells #[] 0) (by kernel_rfl) (by kernel_rfl) (fun i o h1 h2=>by omega) (fun _ _ _ _ _ h=>h) ?_;apply Exists.intro;refine⟨fun U hU hN=>?_,?_⟩;simp only[List.take_succ_cons,List.take_zero]
 ·repeat(go_big_quiet_step (first | exact Calls.headV hU (Zhp _ _ _) | exact Calls.headV hU (HR.out _ _) | exact Calls.headV hU (Q4 _ _)))
  refine wpQuiet_nil ?_
  exact rfl
 simp only[List.drop_succ_cons,List.drop_zero,List.take_succ_cons,List.take_zero]
 intro w4 hk4 _
 haveI p_w4:Zb w4 _:=⟨hk4⟩
 go_wp2_with fail
 exact Za rfl (Zj results199 (Zh rfl)) kp
theorem Tryz.infoOp2:(prog.info? 222).map (·.size)=some 2:=by kernel_rfl
instance (w:World) (B:Nat) (cs:Array Value) [h:Zc w B 222 cs] [n:ZeN cs 2]:Ya w 222 ⟨B,0,none⟩ (.agg cs):=⟨by
 have:=run_loadVar_mid (P:=prog) w B 0 222 cs.toList _ (ZR (by simpa using h.has)) underlying222 rfl (by rw[Tryz.infoOp2];simp[n.len])
 simpa using this⟩
def ZsX (K:Nat) (w:World) (e:Ending) (w':World):Prop:=∃B,e= .returned (.agg #[.bool false,.func (.func 199) #[] #[.pointer (some ⟨B,0,none⟩)]])∧Zc w' B 110 #[.func (.func K) #[] #[]]∧Kept [] w w'
theorem Za8 (w:World) (K:Nat):Calls prog 198 #[.func (.func K) #[] #[]] w (ZsX K w):=by
 go_enter func198,ntmps198
 go_wp2_with fail
 go_outline
 exact bodyPost_ret (Zj results198 (Z0 rfl inferInstance)) rfl ⟨_,rfl,inferInstance,kp⟩
def Yf (a b:MeV):Int:=if a.t=b.t∧a.obj≠b.obj then(if a.obj then 1 else -1)else Zan a.t b.t
theorem JW (w:World) (a:Int):Calls prog 269 #[.int .i64 a] w (ZE (.bool false) w):=by
 go_enter func269,ntmps269
 go_wp2_with fail
 exact Za rfl (Zj results269 (Zh rfl)) kp
theorem JP (w:World) (a b:Int):Calls prog 244 #[.int .i64 a,.int .i64 b] w (ZE (.int .i64 (Zan a b)) w):=by
 by_cases h1:a < b
 ·have HW:Hid (Zan a b= -1):=by rw[Hid,Zan,if_pos h1]
  go_enter func244,ntmps244
  go_wp2_with fail
  refine nxt (JW _ _) fun w1 p_w1=>?_;have hz_w1:=szk w w1
  go_wp2_with fail
  refine nxt (JW _ _) fun w2 p_w2=>?_;have hz_w2:=szk w w2
  go_wp2_with fail
  rw[HW.out]
  exact Za rfl (Zj results244 (Zh rfl)) kp
 by_cases h2:b < a
 ·have HW:Hid (Zan a b=1):=by rw[Hid,Zan,if_neg h1,if_pos h2]
  go_enter func244,ntmps244
  go_wp2_with fail
  refine nxt (JW _ _) fun w1 p_w1=>?_;have hz_w1:=szk w w1
  go_wp2_with fail
  refine nxt (JW _ _) fun w2 p_w2=>?_;have hz_w2:=szk w w2
  go_wp2_with fail
  rw[HW.out]
  exact Za rfl (Zj results244 (Zh rfl)) kp
 have HW:Hid (Zan a b=0):=by rw[Hid,Zan,if_neg h1,if_neg h2]
 have h3:b≤a:=by omega
 have h4:a≤b:=by omega
 go_enter func244,ntmps244
 go_wp2_with fail
 refine nxt (JW _ _) fun w1 p_w1=>?_;have hz_w1:=szk w w1
 go_wp2_with fail
 refine nxt (JW _ _) fun w2 p_w2=>?_;have hz_w2:=szk w w2
 go_wp2_with fail
 rw[HW.out]
 exact Za rfl (Zj results244 (Zh rfl)) kp
theorem Zcf (w:World) (a b:MeV):Calls prog 171 #[.agg a.cells.toArray,.agg b.cells.toArray] w (ZE (.int .i64 (Yf a b)) w):=by
 have HV:Hid (Yf a b=if a.t=b.t∧a.obj≠b.obj then(if a.obj then 1 else -1)else Zan a.t b.t):=rfl
 by_cases h1:a.t=b.t
 ·have h2:(a.t != b.t)=false:=by simp[h1]
  cases ha:a.obj <;> cases hb:b.obj
  ·have HW:Hid (Yf a b=Zan a.t b.t):=by rw[Hid,HV.out,ha,hb];simp
   clear h1
   go_enter func171,ntmps171
   go_wp2_with fail
   refine nxt (JP _ _ _) fun w1 p_w1=>?_;have hz_w1:=szk w w1
   go_wp2_with fail
   rw[HW.out]
   exact Za rfl (Zj results171 (Zh rfl)) kp
  ·have HW:Hid (Yf a b= -1):=by rw[Hid,HV.out,ha,hb];simp[h1]
   clear h1
   go_enter func171,ntmps171
   go_wp2_with fail
   rw[HW.out]
   exact Za rfl (Zj results171 (Zh rfl)) kp
  ·have HW:Hid (Yf a b=1):=by rw[Hid,HV.out,ha,hb];simp[h1]
   clear h1
   go_enter func171,ntmps171
   go_wp2_with fail
   rw[HW.out]
   exact Za rfl (Zj results171 (Zh rfl)) kp
  ·have HW:Hid (Yf a b=Zan a.t b.t):=by rw[Hid,HV.out,ha,hb];simp
   clear h1
   go_enter func171,ntmps171
   go_wp2_with fail
   refine nxt (JP _ _ _) fun w1 p_w1=>?_;have hz_w1:=szk w w1
   go_wp2_with fail
   rw[HW.out]
   exact Za rfl (Zj results171 (Zh rfl)) kp
 have h2:(a.t != b.t)=true:=by simp[h1]
 have HW:Hid (Yf a b=Zan a.t b.t):=by rw[Hid,HV.out];simp[h1]
 clear h1
 go_enter func171,ntmps171
 go_wp2_with fail
 refine nxt (JP _ _ _) fun w1 p_w1=>?_;have hz_w1:=szk w w1
 go_wp2_with fail
 rw[HW.out]
 exact Za rfl (Zj results171 (Zh rfl)) kp
def bsN (l:List MeV) (m:MeV):Nat→Nat→Nat→Nat
 | 0,i,_=>i
 | k+1,i,j=>if i < j then(if Yf (l.getD ((i+j) / 2) default) m < 0 then bsN l m k ((i+j) / 2+1) j else bsN l m k i ((i+j) / 2))else i
def bsI (l:List MeV) (m:MeV):Nat:=bsN l m l.length 0 l.length
def bsF (l:List MeV) (m:MeV):Bool:=decide (bsI l m < l.length) && (Yf (l.getD (bsI l m) default) m == 0)
theorem ZsF {l:List MeV} {m:MeV} {k i j:Nat} (h:i < j) (hk:j - i≤k) (hc:Yf (l.getD ((i+j) / 2) default) m < 0):bsN l m k i j=bsN l m (k - 1) ((i+j) / 2+1) j:=by
 cases k with
 | zero=>omega
 | succ k=>rw[bsN,if_pos h,if_pos hc];rfl
theorem ZsG {l:List MeV} {m:MeV} {k i j:Nat} (h:i < j) (hk:j - i≤k) (hc:¬Yf (l.getD ((i+j) / 2) default) m < 0):bsN l m k i j=bsN l m (k - 1) i ((i+j) / 2):=by
 cases k with
 | zero=>omega
 | succ k=>rw[bsN,if_pos h,if_neg hc];rfl
theorem ZqZ {l:List MeV} {m:MeV} {k i:Nat}:bsN l m k i i=i:=by
 cases k with
 | zero=>rfl
 | succ k=>rw[bsN,if_neg (by omega)]
theorem ZlV {l:List MeV} {m:MeV}:∀{k i j:Nat},i≤j→bsN l m k i j≤j
 | 0,i,j,h=>h
 | k+1,i,j,h=>by
  rw[bsN]
  split
  ·split
   ·exact ZlV (by omega)
   ·exact Nat.le_trans (ZlV (by omega)) (by omega)
  ·exact h
theorem Zpy (l:List MeV) (m:MeV):bsI l m≤l.length:=ZlV (Nat.zero_le _)
theorem Tryz.entersOrder:∀args w,(callFunc 171 args).run prog w= .ok (.enter 171 args) w:=Go.Proofs.enters_of func171 (by kernel_rfl) rfl
theorem ZiI (w:World) (A:Option Addr) (c:Nat) (l:List MeV) (m:MeV) (hm:l.length≤1000000000) (hI:Zo MeV 12 MeV.cells w A l):
 Calls prog 170 #[.slice A l.length c,.agg m.cells.toArray,.func (.func 171) #[] #[]] w (ZE (.tuple #[.int .i64 (bsI l m:Nat),.bool (bsF l m)]) w):=by
 have HI:=hh hI
 have HF:Hid (bsF l m=(decide (bsI l m < l.length) && (Yf (l.getD (bsI l m) default) m == 0))):=rfl
 have eg:=Tryz.entersOrder
 clear hI
 go_enter func170,ntmps170
 go_wp2_with fail
 refine Zm ?_
 intro w0 hw0
 haveI p_w0:Zb w0 w:=⟨by rw[hw0];exact Kept.alloc _ _ _⟩
 haveI b0:Zc w0 w.heap.size 114 m.cells.toArray:=⟨by rw[hw0];exact Zf rfl⟩
 clear hw0
 go_loopw [9,10] (fun s9 s10 wr=>∃i j k:Nat,s9= .int .i64 i∧s10= .int .i64 j∧i≤j∧j≤l.length∧j - i≤k∧bsN l m k i j=bsI l m∧Kept [] w0 wr) (fun s9 s10 _=>((intOf s10) - (intOf s9)).toNat)
 case atStart=>exact⟨0,l.length,l.length,rfl,rfl,Nat.zero_le _,Nat.le_refl _,by omega,rfl,Kept.refl _ _⟩
 case round=>
  obtain⟨i,j,k,rfl,rfl,hij,hjl,hk,hb,hkr⟩:=hrel
  have HB:=hh hb
  haveI p_wr:Zb wr w0:=⟨hkr⟩
  clear hb hkr
  obtain⟨wo,rfl⟩:∃wo:World,wo=wr:=⟨_,rfl⟩
  by_cases hlt:i < j
  ·obtain⟨x,hx⟩:∃x,l[(i+j) / 2]? =some x:=⟨_,List.getElem?_eq_getElem (by omega)⟩
   have hxd:l.getD ((i+j) / 2) default=x:=by simp[List.getD_eq_getElem?_getD,hx]
   have HX:=hh hxd
   obtain⟨b,o,rfl,hr⟩:=HI.out.some_ hx
   haveI ie:Zbt w b (o+(i+j) / 2*12) x:=⟨hr _ x hx⟩
   have H1:=hh (fun hc=>ZsF (l:=l) (m:=m) hlt hk hc)
   have H2:=hh (fun hc=>ZsG (l:=l) (m:=m) hlt hk hc)
   rw[hxd]at H1 H2
   clear hr hx hxd
   by_cases hc:Yf x m < 0
   ·have HN:Hid (bsN l m (k - 1) ((i+j) / 2+1) j=bsI l m):=by rw[Hid,←H1.out hc];exact HB.out
    have hd:decide (Yf x m < 0)=true:=by simpa using hc
    clear hc H1 H2 HB
    go_wp2_with fail
    refine Ze 8 0 (fun _=> .cells #[] 0) (by kernel_rfl) (by kernel_rfl) (fun i o h1 h2=>by omega) (fun _ _ _ _ _ h=>h) ?_;apply Exists.intro;refine⟨fun U hU hN=>?_,?_⟩;simp only[List.take_succ_cons,List.take_zero]
    ·repeat(go_big_quiet_step (exact Calls.headV hU (Zcf _ x m)))
     refine wpQuiet_nil ?_
     exact rfl
    simp only[List.drop_succ_cons,List.drop_zero,List.take_succ_cons,List.take_zero]
    intro w2 hk_w2 _
    haveI p_w2:Zb w2 _:=⟨hk_w2⟩
    clear hk_w2
    go_wp2_with fail
    go_roundw
    case rel=>exact⟨(i+j) / 2+1,j,k - 1,by rw[show((i:Int)+(j:Int)) / 2+1=(((i+j) / 2+1:Nat):Int) by omega],rfl,by omega,hjl,by omega,HN.out,kp⟩
    case measure=>simp[intOf];omega
   ·have HN:Hid (bsN l m (k - 1) i ((i+j) / 2)=bsI l m):=by rw[Hid,←H2.out hc];exact HB.out
    have hd:decide (Yf x m < 0)=false:=by simpa using hc
    clear hc H1 H2 HB
    go_wp2_with fail
    refine Ze 8 0 (fun _=> .cells #[] 0) (by kernel_rfl) (by kernel_rfl) (fun i o h1 h2=>by omega) (fun _ _ _ _ _ h=>h) ?_;apply Exists.intro;refine⟨fun U hU hN=>?_,?_⟩;simp only[List.take_succ_cons,List.take_zero]
    ·repeat(go_big_quiet_step (exact Calls.headV hU (Zcf _ x m)))
     refine wpQuiet_nil ?_
     exact rfl
    simp only[List.drop_succ_cons,List.drop_zero,List.take_succ_cons,List.take_zero]
    intro w2 hk_w2 _
    haveI p_w2:Zb w2 _:=⟨hk_w2⟩
    clear hk_w2
    go_wp2_with fail
    go_roundw
    case rel=>exact⟨i,(i+j) / 2,k - 1,rfl,by rw[show((i:Int)+(j:Int)) / 2=(((i+j) / 2:Nat):Int) by omega],by omega,by omega,by omega,HN.out,kp⟩
    case measure=>simp[intOf];omega
  ·obtain rfl:i=j:=by omega
   have HE:Hid (bsI l m=i):=by rw[Hid,←HB.out];exact ZqZ
   clear HB
   by_cases hn:i < l.length
   ·obtain⟨x,hx⟩:∃x,l[i]? =some x:=⟨_,List.getElem?_eq_getElem hn⟩
    have hxd:l.getD i default=x:=by simp[List.getD_eq_getElem?_getD,hx]
    obtain⟨b,o,rfl,hr⟩:=HI.out.some_ hx
    haveI ie:Zbt w b (o+i*12) x:=⟨hr _ x hx⟩
    have HF2:Hid (bsF l m=(Yf x m == 0)):=by rw[Hid,HF.out,HE.out,hxd,decide_eq_true hn,Bool.true_and]
    clear hr hx hxd HF
    go_wp2_with fail
    refine Ze 16 0 (fun _=> .cells #[] 0) (by kernel_rfl) (by kernel_rfl) (fun i o h1 h2=>by omega) (fun _ _ _ _ _ h=>h) ?_;apply Exists.intro;refine⟨fun U hU hN=>?_,?_⟩;simp only[List.take_succ_cons,List.take_zero]
    ·repeat(go_big_quiet_step (exact Calls.headV hU (Zcf _ x m)))
     refine wpQuiet_nil ?_
     exact rfl
    simp only[List.drop_succ_cons,List.drop_zero,List.take_succ_cons,List.take_zero]
    intro w2 hk_w2 _
    haveI p_w2:Zb w2 _:=⟨hk_w2⟩
    clear hk_w2
    go_wp2_with fail
    rw[HE.out,HF2.out]
    exact Za rfl (Qm results170 (Zh rfl) (Zh rfl)) kp
   ·have HF2:Hid (bsF l m=false):=by rw[Hid,HF.out,HE.out,decide_eq_false hn,Bool.false_and]
    have hn2:decide ((i:Int) < (l.length:Int))=false:=by simp;omega
    clear HF
    go_wp2_with fail
    refine Ze 16 0 (fun _=> .cells #[] 0) (by kernel_rfl) (by kernel_rfl) (fun i o h1 h2=>by omega) (fun _ _ _ _ _ h=>h) ?_;apply Exists.intro;refine⟨fun U hU hN=>?_,?_⟩;simp only[List.take_succ_cons,List.take_zero]
    ·repeat(go_big_quiet_step (fail))
     refine wpQuiet_nil ?_
     exact rfl
    simp only[List.drop_succ_cons,List.drop_zero,List.take_succ_cons,List.take_zero]
    intro w2 hk_w2 _
    haveI p_w2:Zb w2 _:=⟨hk_w2⟩
    clear hk_w2
    go_wp2_with fail
    rw[HE.out,HF2.out]
    exact Za rfl (Qm results170 (Zh rfl) (Zh rfl)) kp
end
end Go.Proofs.YtfaecpkocgcofaaGreatDoor
