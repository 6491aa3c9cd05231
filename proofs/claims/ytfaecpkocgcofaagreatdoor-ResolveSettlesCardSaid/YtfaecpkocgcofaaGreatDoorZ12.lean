/- Lemmas for ResolveSettles, printed small: V9 V10 V11 V14 CA1 CA2. -/
import Derived.Test.YtfaecpkocgcofaaGreatDoorZ11
import Derived.Defers
import Derived.Recover
import Derived.Laws.Pointers
import Derived.Deep.CutBlock
import Derived.Deep.QuietTactic
import Derived.StillTailTactics
import Derived.WalkSmall
set_option linter.all false
set_option maxRecDepth 100000
set_option maxHeartbeats 8000000
open Go.Proofs.Tryz
namespace Go.Proofs.YtfaecpkocgcofaaGreatDoor
section
open Go.RowKit
def ZoG (t:Tab):Prop:=∀s,s∈t.subs→(-9223372036854775808≤s.lo∧s.lo≤9223372036854775807)∧(-9223372036854775808≤s.hi∧s.hi≤9223372036854775807)
def Ztm (b:Bd):Prop:=(-9223372036854775808≤b.1∧b.1≤9223372036854775807)∧(-9223372036854775808≤b.2∧b.2≤9223372036854775807)
theorem Zne {t:Tab} (hs:ZoG t) {n:Int} {b:Bd} (h:Yp t n=some b):Ztm b:=by
 unfold Yp at h
 split at h
 ·rename_i hk
  cases h
  have:t.subs.getD n.toNat default∈t.subs:=by
   unfold Zi0 tyP at hk
   by_cases hc:n < 0∨(t.subs.length:Int)≤n
   ·rw[if_pos hc]at hk;simp at hk
   ·have hlt:n.toNat < t.subs.length:=by omega
    simp[List.getD_eq_getElem?_getD,hlt]
  exact hs _ this
 ·cases h
theorem Znj {t:Tab} (hs:ZoG t) {n:Int} {b a:Bd} (h:JB t n=some (b,a)):Ztm b:=by
 unfold JB at h
 split at h
 ·cases h
 ·rename_i c hc
  split at h
  ·cases h
  ·cases h
   exact Zne hs hc
theorem ZnK {t:Tab} (hs:ZoG t) {x:ExV} {b:Bd} (h:JM t x=some b):Ztm b∧b.1≤b.2:=by
 unfold JM at h
 simp only at h
 split at h
 ·split at h
  ·cases h
  ·split at h
   ·split at h
    ·cases h
    ·rename_i r hr
     split at h
     ·cases h
      exact⟨Znj hs hr,by assumption⟩
     ·cases h
   ·cases h
 ·cases h
theorem Zq9 {t:Tab} (hs:ZoG t) {x:ExV} {b:Bd} (h:ZbC t x=some b) (h1:x.s≠Zaw) (h2:x.s≠ZdM):Ztm b∧b.1≤b.2:=by
 unfold ZbC at h
 split at h
 ·rename_i y hy
  split at h
  ·rename_i c hc
   split at h
   ·cases h
    exact ZnK hs hc
   ·cases h
  ·split at h
   ·split at h
    ·rename_i hh
     rcases hh with hh | hh
     ·exact absurd hh h1
     ·exact absurd hh h2
    ·cases h
   ·cases h
 ·cases h
theorem Znd (w:World) (v:Zp) (t:Tab) (x:ExV) (n:Nat) (hT:Zw w v t) (hx:Qe w (n+1) x) (hI:(ZbC t x).isSome=true) (hk:x.kind=6):YS w v t x n:=by
 unfold YS
 have HA:=hh (fun w' (hk:Kept [] w w')=>ZaT w' v t x n (hT.kept hk) (hx.kept hk))
 obtain⟨b,hb⟩:=Option.isSome_iff_exists.1 hI
 have HX:=hh ((Zl0 t x).2 b hb)
 have HW0:Hid (Qv (ZF t n) t x=if x.s=Zaw then some b.1 else if x.s=ZdM then some b.2 else if 4611686018427387904≤b.2 - b.1 then none else some (b.2 - b.1+1)):=by
  rw[Hid,Qv]
  simp only[hk,Zjk,hb]
  rfl
 have HR:=hh (fun h1 h2=>Zq9 hT.sb hb h1 h2)
 clear hT hx hI hb
 rw[HX.out]at HA
 unfold Zp.cells at*
 unfold bvV at HA
 simp only at HA
 have s1:=Ze1 x.s
 have s2:=ZhF x.s
 by_cases c1:x.s=Zaw
 ·have HW:Hid (Qv (ZF t n) t x=some b.1):=by rw[Hid,HW0.out,if_pos c1]
  rw[decide_eq_true c1]at s1
  clear s2 HW0 c1
  go_enter func82,ntmps82
  go_wp2_with fail
  refine nxt (HA.out _ kp) fun w2 p_w2=>?_;have hz_w2:=szk w w2
  go_wp2_with fail
  rw[HW.out]
  exact Zu rfl (Zj results82 (Zh rfl)) kp
 rw[decide_eq_false c1]at s1
 by_cases c2:x.s=ZdM
 ·have HW:Hid (Qv (ZF t n) t x=some b.2):=by rw[Hid,HW0.out,if_neg c1,if_pos c2]
  rw[decide_eq_true c2]at s2
  clear HW0 c1 c2
  go_enter func82,ntmps82
  go_wp2_with fail
  refine nxt (HA.out _ kp) fun w2 p_w2=>?_;have hz_w2:=szk w w2
  go_wp2_with fail
  rw[HW.out]
  exact Zu rfl (Zj results82 (Zh rfl)) kp
 rw[decide_eq_false c2]at s2
 obtain⟨⟨⟨b1,b2⟩,b3,b4⟩,b5⟩:=HR.out c1 c2
 have HW1:Hid (Qv (ZF t n) t x=if 4611686018427387904≤b.2 - b.1 then none else some (b.2 - b.1+1)):=by rw[Hid,HW0.out,if_neg c1,if_neg c2]
 clear HW0 c1 c2 HR
 obtain⟨b1',b2'⟩:=b
 simp only at*
 have hu:IntKind.u64.wrap (IntKind.u64.wrap b2' - IntKind.u64.wrap b1')=b2' - b1':=by
  have e1:IntKind.u64.signed=false:=rfl
  have e2:(2:Int) ^ IntKind.u64.bits=18446744073709551616:=by decide
  simp only[IntKind.wrap,e1,e2,Bool.false_and,Bool.false_eq_true,if_false]
  omega
 by_cases c:4611686018427387904≤b2' - b1'
 ·have HW:Hid (Qv (ZF t n) t x=none):=by rw[Hid,HW1.out,if_pos c]
  clear HW1
  go_enter func82,ntmps82
  go_wp2_with fail
  refine nxt (HA.out _ kp) fun w2 p_w2=>?_;have hz_w2:=szk w w2
  go_wp2_with fail
  refine nxt (ZbO _) fun w3 p_w3=>?_;have hz_w3:=szk w w3
  show bodyPost _ _ _ (.panic QJ) _ _
  rw[HW.out]
  exact ZA rfl kp
 ·have HW:Hid (Qv (ZF t n) t x=some (b2' - b1'+1)):=by rw[Hid,HW1.out,if_neg c]
  clear HW1
  go_enter func82,ntmps82
  go_wp2_with fail
  refine nxt (HA.out _ kp) fun w2 p_w2=>?_;have hz_w2:=szk w w2
  go_wp2_with fail
  rw[HW.out]
  exact Zu rfl (Zj results82 (Zh rfl)) kp
theorem Zm9 (w:World) (v:Zp) (t:Tab) (x:ExV) (n:Nat) (ih:Zaq v t n) (hT:Zw w v t) (hx:Qe w (n+1) x) (hI:Zcb (isP t n) t x=true) (hk:x.kind=8):YS w v t x n:=by
 unfold YS
 have hl:x.ls.length=2:=by
  by_cases h:x.ls.length=2
  ·exact h
  ·rw[Zkt h]at hI;cases hI
 rw[ZhP hl]at hI
 simp only[Bool.and_eq_true]at hI
 obtain⟨hI1,hI2⟩:=hI
 rw[ZaG]at hI1
 obtain⟨⟨b,a⟩,hm⟩:=Option.isSome_iff_exists.1 hI1
 obtain⟨b0,o0,ha,hat,hat1,hi0,hi1⟩:=Je hx (by omega)
 have HV:=hh (fun w' (hk:Kept [] w w')=>ih w' (l1 x) (hT.kept hk) (hi1.kept hk) hI2)
 have HMK:=hh (fun w' (hk:Kept [] w w')=>Jp w' v t (l0 x) (hT.kept hk))
 have HW0:Hid (Qv (ZF t n) t x=match ZF t n (l1 x)with | none=>none | some u=>ZO u b):=by
  rw[Hid,Qv]
  simp only[hk,ZiQ,hm]
  rfl
 have HX:=hh (JX hm)
 rw[HX.out]at HMK
 have q1:=hx.2.2.2.2.1
 have hl2:(0:Int) < (x.ls.length:Int):=by omega
 have hl3:(1:Int) < (x.ls.length:Int):=by omega
 clear ih hT hx hl hI1 hI2 hi0 hi1 hm
 unfold Zp.cells at*
 unfold pvV at HMK
 simp only at HMK
 generalize ZF t n (l1 x)=o at*
 generalize l0 x=y at*
 generalize l1 x=z at*
 go_enter func82,ntmps82
 go_wp2_with fail
 refine Ze 10 2 (fun _=> .cells #[.int .i64 0,.int .i64 0] 150) (by kernel_rfl) (by kernel_rfl) (fun i o h1 h2 h3=>by obtain rfl | rfl:i=10∨i=11:=(by omega);all_goals(obtain rfl:=Option.some.inj h3;exact Zab rfl rfl Tryz.zeroBd)) (fun _ _ _ _ _ h=>h) ?_;apply Exists.intro;refine⟨fun U hU hN=>?_,?_⟩;simp only[List.take_succ_cons,List.take_zero]
 ·repeat(go_big_quiet_step (exact Calls.headV hU (HMK.out _ (Kept.trans kp (Zs.prop _)))))
  refine wpQuiet_nil ?_
  exact rfl
 simp only[List.drop_succ_cons,List.drop_zero,List.take_succ_cons,List.take_zero]
 intro B2 hB2 _ B3 hB3 hne w6 hk6 hh
 haveI p_w6:Zb w6 _:=⟨hk6⟩
 haveI bx2:Zc w6 B2 150 #[.int .i64 0,.int .i64 0]:=Q8 hh (by simp)
 haveI bx3:Zc w6 B3 150 #[.int .i64 0,.int .i64 0]:=Q8 hh (by simp)
 have hne2:=ZdW hne
 haveI ap1:Qf B2 B3:=⟨hne2⟩
 haveI ap2:Qf B3 B2:=⟨hne2.symm⟩
 haveI g2:Z2 B2 _:=⟨hB2⟩
 haveI g3:Z2 B3 _:=⟨hB3⟩
 have hz2:w.heap.size≤B2:=Nat.le_trans (Kept.size (X:=[]) kp) hB2
 have hz3:w.heap.size≤B3:=Nat.le_trans (Kept.size (X:=[]) kp) hB3
 clear hk6 hh hne
 clear HMK
 go_wp2_with fail
 refine Zm ?_
 intro w7 hw7
 haveI p_w7:Zb w7 _:=⟨by rw[hw7];exact Kept.setB (Kept.setB (Kept.setB (Kept.setB p_w6.kept _ _ _ hB2) _ _ _ hB2) _ _ _ hB3) _ _ _ hB3⟩
 haveI by2:Zc w7 B2 _ _:=by rw[hw7];infer_instance
 clear hw7 p_w6 bx2 bx3
 cases o with
 | none=>
  have HW:Hid (Qv (ZF t n) t x=none):=HW0.out
  refine J4 [0,1,2,3,4,6] 5 (by kernel_rfl) (by kernel_rfl) (fun _ _ _ _ _ h=>h) ?_;apply Exists.intro;refine⟨fun U hU hN=>?_,?_⟩;simp only[ZW,List.flatMap_cons,List.flatMap_nil,List.getElem?_cons_zero,List.getElem?_cons_succ,Option.toList_some,List.cons_append,List.nil_append]
  ·repeat(go_big_quiet_step (fail))
   refine wpQuiet_nil ?_
   exact rfl
  simp only[ZW,List.flatMap_cons,List.flatMap_nil,List.getElem?_cons_zero,List.getElem?_cons_succ,Option.toList_some,List.cons_append,List.nil_append]
  intro w8 hk8
  haveI p_w8:Zb w8 _:=⟨hk8⟩
  clear hk8
  go_wp2_with fail
  refine nxt (Calls.retP (HV.out _ kp) rfl) fun w9 p_w9=>?_;have hz_w9:=szk w w9
  simp only[Zrg]
  show bodyPost prog Tryz.f82 _ (.panic QJ) _ _
  rw[HW.out]
  exact ZA rfl kp
 | some u=>
  have HW1:Hid (Qv (ZF t n) t x=ZO u b):=HW0.out
  refine Zy [0,1,2,3,4,6,5] [7,8] (by kernel_rfl) (by kernel_rfl) (fun _ _ _ _ _ h=>h) ?_;apply Exists.intro;refine⟨fun U hU hN=>?_,?_⟩;simp only[ZW,List.flatMap_cons,List.flatMap_nil,List.getElem?_cons_zero,List.getElem?_cons_succ,Option.toList_some,List.cons_append,List.nil_append]
  ·iterate 6 (go_big_quiet_step (fail))
   go_big_quiet_step (exact Calls.headV hU (Calls.retV (HV.out _ (Kept.trans kp (Zs.prop _))) rfl))
   refine wpQuiet_nil ?_
   exact rfl
  simp only[ZW,List.flatMap_cons,List.flatMap_nil,List.getElem?_cons_zero,List.getElem?_cons_succ,Option.toList_some,List.cons_append,List.nil_append]
  intro w8 hk8
  haveI p_w8:Zb w8 _:=⟨hk8⟩
  clear hk8 HV HW0
  go_wp2_with fail
  cases hq:ZO u b with
  | none=>
   have HW:Hid (Qv (ZF t n) t x=none):=by rw[Hid,HW1.out,hq]
   refine nxt (Calls.retP (QX _ _ b) hq) fun w10 p_w10=>?_;have hz_w10:=szk w w10
   show bodyPost _ _ _ (.panic QJ) _ _
   rw[HW.out]
   exact ZA rfl kp
  | some u'=>
   have HW:Hid (Qv (ZF t n) t x=some u'):=by rw[Hid,HW1.out,hq]
   refine nxt (Calls.retV (QX _ _ b) hq) fun w10 p_w10=>?_;have hz_w10:=szk w w10
   clear hq
   go_wp2_with fail
   rw[HW.out]
   exact Zu rfl (Zj results82 (Zh rfl)) kp
theorem ZmX {s:ByteArray} {k:Int} {c:Bool} (h:Ze8 s=some (k,c)): -1≤k∧k≤1:=by
 unfold Ze8 at h
 split at h
 ·cases h;omega
 split at h
 ·cases h;omega
 split at h
 ·cases h;omega
 split at h
 ·cases h;omega
 ·cases h
theorem Zl5 {t:Tab} {x:ExV} {s:Int×Bool} {a:Bd} (h:Q9 t x=some (s,a)): -1≤s.1∧s.1≤1:=by
 unfold Q9 at h
 split at h
 ·split at h
  ·cases h
  ·rename_i r hr
   split at h
   ·split at h
    ·split at h
     ·cases h
     ·cases h
      obtain⟨k,c⟩:=s
      exact ZmX hr
    ·cases h
   ·cases h
 ·cases h
theorem Znc (w:World) (v:Zp) (t:Tab) (x:ExV) (n:Nat) (ih:Zaq v t n) (hT:Zw w v t) (hx:Qe w (n+1) x) (hI:ZaS (isP t n) t x=true) (hk:x.kind=7):YS w v t x n:=by
 unfold YS
 have h1:x.ls.length=1:=by
  by_cases h:x.ls.length=1
  ·exact h
  ·rw[Zin h]at hI;cases hI
 have h2:x.al.length=1:=by
  by_cases h:x.al.length=1
  ·exact h
  ·rw[Zim h]at hI;cases hI
 rw[Zil h1 h2]at hI
 simp only[Bool.and_eq_true]at hI
 obtain⟨hI1,hI2⟩:=hI
 obtain⟨b0,o0,ha,hat,hia⟩:=ZsM hx (by omega)
 have HV:=hh (fun w' (hk:Kept [] w w')=>ih w' (a0 x) (hT.kept hk) (hia.kept hk) hI1)
 have HB:=hh (fun z (h:ZF t n (a0 x)=some z)=>Zc6 hT.ll h)
 have HE:=hh (fun w' (hk:Kept [] w w')=>YK w' v t x (hT.kept hk))
 have HP:=hh (fun w' m (hk:Kept [] w w')=>ZaA w' v t m (hT.kept hk))
 have HG:=hh (fun w' (hk:Kept [] w w')=>Zdv w' v t x n (hT.kept hk) (hx.kept hk) (by omega))
 have HM:Hid (Qv (ZF t n) t x=match ZF t n (a0 x)with | none=>none | some u=>(match Q9 t x with
  | some (s,a)=>if s.2 then ZO (u+s.1) a else some u
  | none=>match JB t (Yn t x.ent).sub with
   | some (b,_)=>ZO u b
   | none=>none)):=by
  rw[Hid,Qv]
  simp only[hk]
  rfl
 have HAS:=hh (fun s a h=>Zl4 (t:=t) (x:=x) (s:=s) (a:=a) h1 h)
 have HAB:=hh (fun s a h=>Zl5 (t:=t) (x:=x) (s:=s) (a:=a) h)
 have HAO:=hh (Zf5 (t:=t) h1)
 have HPO:=hh (ZaB t (Yn t x.ent).sub)
 have HI2:=hh hI2
 have HPS:=hh (fun b a h=>Zah (t:=t) (n:=(Yn t x.ent).sub) (b:=b) (a:=a) h)
 have q2:=hx.2.2.2.2.2.1
 have l2:(0:Int) < (x.al.length:Int):=by omega
 clear ih hT hx hI1 hI2 hia h1 h2
 unfold Zp.cells at*
 unfold avV at HG
 unfold pvV at HP
 unfold ZqQ at HE
 generalize ZF t n (a0 x)=o at*
 generalize a0 x=y at*
 cases o with
 | none=>
  have HW:Hid (Qv (ZF t n) t x=none):=HM.out
  clear HE HP HG HM HAS HAB HAO HPO HPS HI2
  go_enter func82,ntmps82
  go_wp2_with fail
  refine Zy [0,1,2,3,4,5] [6,7] (by kernel_rfl) (by kernel_rfl) (fun _ _ _ _ _ h=>h) ?_;apply Exists.intro;refine⟨fun U hU hN=>?_,?_⟩;simp only[ZW,List.flatMap_cons,List.flatMap_nil,List.getElem?_cons_zero,List.getElem?_cons_succ,Option.toList_some,List.cons_append,List.nil_append]
  ·repeat(go_big_quiet_step (fail))
   refine wpQuiet_nil ?_
   exact rfl
  simp only[ZW,List.flatMap_cons,List.flatMap_nil,List.getElem?_cons_zero,List.getElem?_cons_succ,Option.toList_some,List.cons_append,List.nil_append]
  intro w4 hk4
  haveI p_w4:Zb w4 _:=⟨hk4⟩
  clear hk4
  go_wp2_with fail
  refine nxt (Calls.retP (HV.out _ kp) rfl) fun w5 p_w5=>?_;have hz_w5:=szk w w5
  show bodyPost _ _ _ (.panic QJ) _ _
  rw[HW.out]
  exact ZA rfl kp
 | some u=>
 obtain⟨u1,u2⟩:=HB.out u rfl
 cases hg:Q9 t x with
 | some r=>
  obtain⟨⟨k,c⟩,a⟩:=r
  obtain⟨k1,k2⟩:=HAB.out _ _ hg
  rw[HAS.out _ _ hg]at HG
  simp only at k1 k2 HG
  have HW0:Hid (Qv (ZF t n) t x=if c then ZO (u+k) a else some u):=by rw[Hid,HM.out,hg]
  clear HE HP HM HAS HAB HAO HPO HPS HI2 hg
  cases c
  ·have HW:Hid (Qv (ZF t n) t x=some u):=HW0.out
   go_enter func82,ntmps82
   go_wp2_with fail
   refine Zy [0,1,2,3,4,5] [6,7] (by kernel_rfl) (by kernel_rfl) (fun _ _ _ _ _ h=>h) ?_;apply Exists.intro;refine⟨fun U hU hN=>?_,?_⟩;simp only[ZW,List.flatMap_cons,List.flatMap_nil,List.getElem?_cons_zero,List.getElem?_cons_succ,Option.toList_some,List.cons_append,List.nil_append]
   ·repeat(go_big_quiet_step (fail))
    refine wpQuiet_nil ?_
    exact rfl
   simp only[ZW,List.flatMap_cons,List.flatMap_nil,List.getElem?_cons_zero,List.getElem?_cons_succ,Option.toList_some,List.cons_append,List.nil_append]
   intro w4 hk4
   haveI p_w4:Zb w4 _:=⟨hk4⟩
   clear hk4
   go_wp2_with fail
   refine nxt (Calls.retV (HV.out _ kp) rfl) fun w5 p_w5=>?_;have hz_w5:=szk w w5
   go_wp2_with fail
   refine nxt (HG.out _ kp) fun w6 p_w6=>?_;have hz_w6:=szk w w6
   go_wp2_with fail
   rw[HW.out]
   exact Zu rfl (Zj results82 (Zh rfl)) kp
  ·have HW1:Hid (Qv (ZF t n) t x=ZO (u+k) a):=HW0.out
   clear HW0
   go_enter func82,ntmps82
   go_wp2_with fail
   refine Zy [0,1,2,3,4,5] [6,7] (by kernel_rfl) (by kernel_rfl) (fun _ _ _ _ _ h=>h) ?_;apply Exists.intro;refine⟨fun U hU hN=>?_,?_⟩;simp only[ZW,List.flatMap_cons,List.flatMap_nil,List.getElem?_cons_zero,List.getElem?_cons_succ,Option.toList_some,List.cons_append,List.nil_append]
   ·repeat(go_big_quiet_step (fail))
    refine wpQuiet_nil ?_
    exact rfl
   simp only[ZW,List.flatMap_cons,List.flatMap_nil,List.getElem?_cons_zero,List.getElem?_cons_succ,Option.toList_some,List.cons_append,List.nil_append]
   intro w4 hk4
   haveI p_w4:Zb w4 _:=⟨hk4⟩
   clear hk4
   go_wp2_with fail
   refine nxt (Calls.retV (HV.out _ kp) rfl) fun w5 p_w5=>?_;have hz_w5:=szk w w5
   go_wp2_with fail
   refine nxt (HG.out _ kp) fun w6 p_w6=>?_;have hz_w6:=szk w w6
   go_wp2_with fail
   cases hq:ZO (u+k) a with
   | none=>
    have HW:Hid (Qv (ZF t n) t x=none):=by rw[Hid,HW1.out,hq]
    refine nxt (Calls.retP (QX _ _ a) hq) fun w10 p_w10=>?_;have hz_w10:=szk w w10
    show bodyPost _ _ _ (.panic QJ) _ _
    rw[HW.out]
    exact ZA rfl kp
   | some u'=>
    have HW:Hid (Qv (ZF t n) t x=some u'):=by rw[Hid,HW1.out,hq]
    refine nxt (Calls.retV (QX _ _ a) hq) fun w10 p_w10=>?_;have hz_w10:=szk w w10
    clear hq
    go_wp2_with fail
    rw[HW.out]
    exact Zu rfl (Zj results82 (Zh rfl)) kp
 | none=>
  have hx2:(QU t x).2.2=false:=by rw[HAO.out,hg];rfl
  have h3:=HI2.out
  rw[hx2,Bool.false_or,Bool.and_eq_true,HPO.out]at h3
  obtain⟨⟨b,a⟩,hp⟩:=Option.isSome_iff_exists.1 h3.2
  have HW1:Hid (Qv (ZF t n) t x=ZO u b):=by rw[Hid,HM.out,hg];simp only[hp]
  have HPX:=hh (HPS.out _ _ hp)
  have HP2:=hh (fun w' hk=>HP.out w' (Yn t x.ent).sub hk)
  clear HM HAS HAB HAO HPO HPS HI2 h3 hg hp HP
  rw[HPX.out]at HP2
  simp only at HP2
  generalize Yn t x.ent=e at*
  go_enter func82,ntmps82
  go_wp2_with fail
  refine Zy [0,1,2,3,4,5] [6,7] (by kernel_rfl) (by kernel_rfl) (fun _ _ _ _ _ h=>h) ?_;apply Exists.intro;refine⟨fun U hU hN=>?_,?_⟩;simp only[ZW,List.flatMap_cons,List.flatMap_nil,List.getElem?_cons_zero,List.getElem?_cons_succ,Option.toList_some,List.cons_append,List.nil_append]
  ·repeat(go_big_quiet_step (fail))
   refine wpQuiet_nil ?_
   exact rfl
  simp only[ZW,List.flatMap_cons,List.flatMap_nil,List.getElem?_cons_zero,List.getElem?_cons_succ,Option.toList_some,List.cons_append,List.nil_append]
  intro w4 hk4
  haveI p_w4:Zb w4 _:=⟨hk4⟩
  clear hk4
  go_wp2_with fail
  refine nxt (Calls.retV (HV.out _ kp) rfl) fun w5 p_w5=>?_;have hz_w5:=szk w w5
  go_wp2_with fail
  refine nxt (HG.out _ kp) fun w6 p_w6=>?_;have hz_w6:=szk w w6
  clear HV HG HB
  go_wp2_with fail
  refine Ze 10 2 (fun _=> .cells #[.int .i64 0,.int .i64 0] 150) (by kernel_rfl) (by kernel_rfl) (fun i o h1 h2 h3=>by obtain rfl | rfl:i=10∨i=11:=(by omega);all_goals(obtain rfl:=Option.some.inj h3;exact Zab rfl rfl Tryz.zeroBd)) (fun _ _ _ _ _ h=>h) ?_;apply Exists.intro;refine⟨fun U hU hN=>?_,?_⟩;simp only[List.take_succ_cons,List.take_zero]
  ·iterate 3 (go_big_quiet_step (fail))
   go_big_quiet_step (exact Calls.headV hU (HE.out _ (Kept.trans kp (Zs.prop _))))
   go_big_quiet_step (fail)
   go_big_quiet_step (exact Calls.headV hU (HP2.out _ (Kept.trans kp (Zs.prop _))))
   repeat(go_big_quiet_step (fail))
   refine wpQuiet_nil ?_
   exact rfl
  simp only[List.drop_succ_cons,List.drop_zero,List.take_succ_cons,List.take_zero]
  intro B2 hB2 _ B3 hB3 hne w8 hk8 hh
  haveI p_w8:Zb w8 _:=⟨hk8⟩
  haveI bx2:Zc w8 B2 150 #[.int .i64 0,.int .i64 0]:=Q8 hh (by simp)
  haveI bx3:Zc w8 B3 150 #[.int .i64 0,.int .i64 0]:=Q8 hh (by simp)
  have hne2:=ZdW hne
  haveI ap1:Qf B2 B3:=⟨hne2⟩
  haveI ap2:Qf B3 B2:=⟨hne2.symm⟩
  haveI g2:Z2 B2 _:=⟨hB2⟩
  haveI g3:Z2 B3 _:=⟨hB3⟩
  have hz2:w.heap.size≤B2:=Nat.le_trans (Kept.size (X:=[]) kp) hB2
  have hz3:w.heap.size≤B3:=Nat.le_trans (Kept.size (X:=[]) kp) hB3
  clear hk8 hh hne
  clear HE HP2
  go_wp2_with fail
  cases hq:ZO u b with
  | none=>
   have HW:Hid (Qv (ZF t n) t x=none):=by rw[Hid,HW1.out,hq]
   refine nxt (Calls.retP (QX _ _ b) hq) fun w10 p_w10=>?_;have hz_w10:=szk w w10
   show bodyPost _ _ _ (.panic QJ) _ _
   rw[HW.out]
   exact ZA rfl kp
  | some u'=>
   have HW:Hid (Qv (ZF t n) t x=some u'):=by rw[Hid,HW1.out,hq]
   refine nxt (Calls.retV (QX _ _ b) hq) fun w10 p_w10=>?_;have hz_w10:=szk w w10
   clear hq
   go_wp2_with fail
   rw[HW.out]
   exact Zu rfl (Zj results82 (Zh rfl)) kp
theorem Zs0 (w:World) (v:Zp) (t:Tab) (x:ExV) (n:Nat) (hT:Zw w v t) (hx:Qe w n x):Calls prog 37 #[.agg (v.cells t),.agg x.cells.toArray] w (ZE (.bool (isP t n x)) w):=by
 have HI:=hh (fun w' (hk:Kept [] w w')=>Zsf v t n w' x (hT.kept hk) (hx.kept hk))
 clear hT hx
 unfold Zp.cells at*
 go_enter func37,ntmps37
 go_wp2_with fail
 refine nxt (HI.out _ kp) fun w2 p_w2=>?_;have hz_w2:=szk w w2
 go_wp2_with fail
 exact Za rfl (Zj results37 (Zh rfl)) kp
theorem ZlR (p q:Addr) (x y:Int) (u:TypeId) (pv:Value) (older:List PanicEntry) (w:World) (hc:w.cell? p=some (.int .i64 x)) (hz:w.frozen? p=false)
 (hd:(w.setCell p (.int .i64 0)).cell? q=some (.int .i64 y)) (he:(w.setCell p (.int .i64 0)).frozen? q=false):
 CallsD prog 38 #[.pointer (some p),.pointer (some q)] (.panicking ({v:= .iface u pv,recovered:=false}::older)) w fun e u' w'=>
  e= .returned (.tuple #[])∧u'= .panicking ({v:= .iface u pv,recovered:=true}::older)∧w'=(w.setCell p (.int .i64 0)).setCell q (.int .i64 71):=by
 refine callsD_of_wpS func38 rfl fun c₀ cs hu=>?_
 apply wpS_seq
 apply wpS_region
 simp[wpOpsS,go_sem,recoverD,hu,ntmps38,Exit.thenS]
 refine wpS_cond (t:=true) (by simp[Act.eval,Array.replicate]) ?_
 simp only[if_true]
 apply wpS_region
 simp[wpOpsS,go_sem,hc,hz,hd,he,bodyPostS,results,results38]
theorem Zjg (p q:Addr) (w:World):
 CallsD prog 38 #[.pointer (some p),.pointer (some q)] .returning w fun e u' w'=>e= .returned (.tuple #[])∧u'= .returning∧w'=w:=by
 refine callsD_of_wpS func38 rfl fun c₀ cs hu=>?_
 apply wpS_seq
 apply wpS_region
 simp[wpOpsS,go_sem,recoverD,hu,ntmps38,Exit.thenS]
 refine wpS_cond (t:=false) (by simp[Act.eval,Array.replicate]) ?_
 simp only[Bool.false_eq_true,if_false]
 refine wpS_of_wp (wp_skip ?_)
 cases c₀
 simp_all [bodyPostS,results,results38]
theorem ZbR (w:World) (v:Zp) (t:Tab) (x:ExV) (n:Nat) (hV:Zaq v t n) (hT:Zw w v t) (hx:Qe w n x):Calls prog 11 #[.agg (v.cells t),.agg x.cells.toArray] w (ZE (.tuple #[.int .i64 (Zv t n x).1,.int .i64 (Zv t n x).2]) w):=by
 have HI:=hh (fun w' (hk:Kept [] w w')=>Zs0 w' v t x n (hT.kept hk) (hx.kept hk))
 have HV:=hh (fun w' (hk:Kept [] w w') h=>hV w' x (hT.kept hk) (hx.kept hk) h)
 have hmf:∀(fn:Fn) (first cap:Array Value) (w:World),(Instr.makeFunc fn first cap).run prog w= .ok (.func fn first cap) w:=fun _ _ _ _=>rfl
 have HM:Hid (Zv t n x=if isP t n x then(match ZF t n x with | some v=>(v,(0:Int)) | none=>((0:Int),(71:Int)))else((0:Int),(70:Int))):=rfl
 clear hT hx hV
 unfold Zp.cells at*
 go_enter_defers func11,ntmps11
 go_wp2_with fail
 refine nxt (HI.out _ kp) fun w2 p_w2=>?_;have hz_w2:=szk w w2
 cases hi:isP t n x
 ·have HW:Hid (Zv t n x=(0,70)):=by rw[Hid,HM.out,hi];rfl
  go_wp2_with fail
  rw[HW.out]
  unfold bodyPostD
  simp[Leaves,settle,results,results11,go_sem]
  exact⟨rfl,kp⟩
 cases hv:ZF t n x with
 | none=>
  have HW:Hid (Zv t n x=(0,71)):=by rw[Hid,HM.out,hi,hv];rfl
  rw[hv]at HV
  go_wp2_with fail
  refine nxt (Calls.retP (HV.out _ kp hi) rfl) fun w3 p_w3=>?_;have hz_w3:=szk w w3
  show bodyPostD prog Tryz.f11 _ (.panic QJ) _ _
  rw[HW.out]
  refine leaves_cons (f:=38) (args:=#[.pointer (some ⟨w.heap.size+1+1,0,none⟩),.pointer (some ⟨w.heap.size+1+1+1,0,none⟩)]) (by simp) (by simp[go_sem]) ?_
  refine(ZlR ⟨w.heap.size+1+1,0,none⟩ ⟨w.heap.size+1+1+1,0,none⟩ 0 0 _ _ [] w3 ?_ ?_ ?_ ?_).mono ?_
  ·simp[go_sem]
  ·simp[go_sem]
  ·simp[go_sem]
  ·simp[go_sem]
  rintro e u' w'' ⟨rfl,rfl,rfl⟩
  simp[Leaves,settle,results,results11,go_sem]
  exact⟨rfl,kp⟩
 | some u=>
  have HW:Hid (Zv t n x=(u,0)):=by rw[Hid,HM.out,hi,hv];rfl
  rw[hv]at HV
  go_wp2_with fail
  refine nxt (Calls.retV (HV.out _ kp hi) rfl) fun w3 p_w3=>?_;have hz_w3:=szk w w3
  go_wp2_with fail
  rw[HW.out]
  refine leaves_cons (f:=38) (args:=#[.pointer (some ⟨w.heap.size+1+1,0,none⟩),.pointer (some ⟨w.heap.size+1+1+1,0,none⟩)]) (by simp) (by simp[go_sem]) ?_
  refine(Zjg _ _ _).mono ?_
  rintro e u' w'' ⟨rfl,rfl,rfl⟩
  simp[Leaves,settle,results,results11,go_sem]
  exact⟨rfl,kp⟩
theorem Tryz.infoSView (v:Zp) (t:Tab):(prog.info? 231).map (·.size)=some (v.cells t).toList.length:=by
 show _=some 5
 kernel_rfl
theorem Tryz.sizeTab:(prog.info? 30).map (·.size)=some 5:=by kernel_rfl
def Y9 (t:Tab) (e:Int):Option Zx:=if e < 0 then none else t.ents[e.toNat]?
def JJ (t:Tab) (e:Int):Zx:=(Y9 t e).getD Yu
def ZsS (x:Zx) (b:Bool) (w:World) (e:Ending) (w':World):Prop:=e= .returned (.tuple #[.agg x.cells.toArray,.bool b])∧Kept [] w w'
theorem Zx.range {w:World} {b:Nat} {x:Zx} (h:w.heap[b]? =some (.cells x.cells.toArray 95 (0,0))):w.rangeAt b 0 x.cells:=fun j u hu=>by
 rw[Nat.zero_add,cell_of_row _ _ _ _ _ _ h]
 simpa using hu
theorem JK {w:World} {B:Nat} {x:Zx} {b:Bool} {tmps:Array Value} (h4:tmps.getD 4 undef= .pointer (some ⟨B,0,none⟩)) (h5:tmps.getD 5 undef= .bool b) (hr:w.rangeAt B 0 x.cells):
 (results Tryz.f161 tmps).run prog w= .ok (.tuple #[.agg x.cells.toArray,.bool b]) w:=by
 simp only[Array.getD_eq_getD_getElem?]at h4 h5
 simp[results,results161,h4,h5,asAddr,Sem.run_bind,run_loadVar_mid w B 0 95 x.cells _ hr underlying95 rfl (Tryz.infoEnt x)]
theorem ZhG (w:World) (v:Zp) (t:Tab) (e:Int) (hT:Zw w v t):
 Calls prog 161 #[.agg (v.cells t),.int .i64 e] w (ZsS (JJ t e) (Y9 t e).isSome w):=by
 unfold JJ
 have HT:=hh hT
 have q1:=hT.elc
 have q2:=hT.em
 clear hT
 unfold Zp.cells
 go_enter func161,ntmps161
 by_cases h0:e < 0
 ·have HR:Hid (Y9 t e=none):=by simp[Hid,Y9,h0]
  go_wp2_with (refine ZY rfl 95 (.tmp 4) (.tmp 16) rfl _ Yu.cells.toArray (w.heap.size+1) rfl (by simp) rfl (Tryz.infoEnt _) rfl (Zx.one _) ?_)
  refine bodyPost_ret (JK (x:=Yu) rfl rfl (Zx.range (Zf (o:= .cells Yu.cells.toArray 95) (by simp)))) rfl ?_
  rw[HR.out]
  exact⟨rfl,(Kept.alloc _ _ _).trans (Kept.alloc _ _ _)⟩
 ·obtain⟨n,rfl⟩:=Int.eq_ofNat_of_zero_le (by omega:0≤e)
  by_cases h1:n < t.ents.length
  ·obtain⟨x,hx⟩:∃x,t.ents[n]? =some x:=⟨_,List.getElem?_eq_getElem h1⟩
   have HR:Hid (Y9 t (n:Int)=some x):=by
    rw[Hid,Y9,if_neg (by omega)]
    simpa using hx
   obtain⟨b,o,ha,hr⟩:=HT.out.es.some_ hx
   have HROW:=hh (hr n x hx)
   rw[ha]
   clear hr hx ha
   go_wp2_with (refine wpList_load_mid rfl 95 (.tmp 21) rfl b (o+n*22) rfl x.cells _ (World.rangeAt_alloc (World.rangeAt_alloc HROW.out _) _) underlying95 rfl (Tryz.infoEnt x) ?_)
   refine bodyPost_ret (JK (x:=x) rfl rfl (Zx.range (Zf (by simp)))) rfl ?_
   rw[HR.out]
   exact⟨rfl,(Kept.alloc _ _ _).trans (Kept.alloc _ _ _)⟩
  ·have HR:Hid (Y9 t (n:Int)=none):=by
    rw[Hid,Y9,if_neg (by omega)]
    simp;omega
   go_wp2_with (refine ZY rfl 95 (.tmp 4) (.tmp 16) rfl _ Yu.cells.toArray (w.heap.size+1) rfl (by simp) rfl (Tryz.infoEnt _) rfl (Zx.one _) ?_)
   refine bodyPost_ret (JK (x:=Yu) rfl rfl (Zx.range (Zf (o:= .cells Yu.cells.toArray 95) (by simp)))) rfl ?_
   rw[HR.out]
   exact⟨rfl,(Kept.alloc _ _ _).trans (Kept.alloc _ _ _)⟩
theorem ZaJ:(prog.info? 3).map (fun i=>(i.zero,i.size,i.bytes))=some (some (.int .i64 0),1,8):=by kernel_rfl
theorem Zb6 (w:World) (a:Option Addr) (c:Nat) (xs:List Int) (hc:xs.length≤c) (hm:c≤9223372036854775807) (hI:ZM w a xs) (hl:xs.length≤100000) (K:Nat) (caps:Array Value) (p:Int→Bool) (eg:∀args w,(callFunc K args).run prog w= .ok (.enter K args) w)
 (hp:∀W x,Kept [] w W→x∈xs→Calls prog K (#[.int .i64 x]++caps) W (J0 (p x) W)):
 Calls prog 158 #[.slice a xs.length c,.func (.func K) #[] caps] w fun e w'=>∃v,e= .returned v∧w'.ownsRow w.heap.size 3 1 v (xs.filter p).length ((xs.filter p).map (Value.int .i64))∧Kept [] w w':=by
 have HI:=hh hI
 have HP:=hh hp
 clear hI hp
 obtain⟨i0,hi,hz0,hz1,hz2⟩:=info_parts ZaJ
 go_enter func158,ntmps158
 go_wp2_with fail
 go_loopw [5,10] (fun v i wr=>∃k:Nat,k≤xs.length∧i= .int .i64 k∧wr.ownsRow w.heap.size 3 1 v ((xs.take k).filter p).length (((xs.take k).filter p).map (Value.int .i64))∧Kept [] w wr) (fun _ i _=>xs.length - (intOf i).toNat)
 case atStart=>exact⟨0,Nat.zero_le _,rfl,World.ownsRow_nil _ _ _ _,Kept.refl _ _⟩
 case round=>
  obtain⟨k,hk,rfl,ho,hkr⟩:=hrel
  obtain⟨A5,c5,rfl⟩:=Zq ho
  have HO:=hh ho
  have HK:=hh hkr
  clear ho hkr
  obtain⟨wo,rfl⟩:∃wo:World,wo=wr:=⟨_,rfl⟩
  by_cases hlt:k < xs.length
  ·obtain⟨x,hx⟩:∃x,xs[k]? =some x:=⟨_,List.getElem?_eq_getElem hlt⟩
   have HX:=hh hx
   rcases HI.out with h0 | ⟨b,o,rfl,hcx⟩
   ·rw[h0]at hlt;simp at hlt
   ·have qx:=HK.out.cell (hcx k x hx) (by simp)
    clear hcx hx
    go_wp2_with fail
    refine(HP.out _ _ HK.out (List.mem_of_getElem? HX.out)).mono ?_
    rintro e w2 ⟨rfl,hk2⟩
    have HK2:=hh (HK.out.trans hk2)
    have HO2:=hh (Zk HO.out hk2 (by simp))
    have HS:Hid ((xs.take (k+1)).filter p=(xs.take k).filter p++(if p x then [x]else [])):=by
     obtain⟨hk',e⟩:=List.getElem?_eq_some_iff.1 HX.out
     rw[Hid,List.take_succ_eq_append_getElem hk',e,List.filter_append]
     cases hp:p x <;> simp[List.filter,hp]
    have hfl:((xs.take k).filter p).length≤xs.length:=Nat.le_trans (List.length_filter_le _ _) (by simp;omega)
    have hz:=HK2.out.size
    clear hk2 HO HK qx
    cases hpx:p x
    ·rw[hpx]at HS
     clear hpx
     go_wp2_with fail
     go_roundw
     case rel=>exact⟨k+1,by omega,by go_num,by rw[HS.out];simpa using HO2.out,HK2.out⟩
     case measure=>simp[intOf];omega
    ·rw[hpx]at HS
     clear hpx
     generalize (xs.take k).filter p=rs at*
     have hA:rs.length+1≤maxLen:=by unfold maxLen;omega
     have hB:(rs.length+1)*8≤140737488355328:=by omega
     have hC:w.heap.size≤(w2.alloc (.cells #[.int .i64 x] 3)).heap.size:=by simp;omega
     go_wp2_with (at_builtin;refine wpList_append_own _ rfl _ _ 31 rfl w.heap.size 3 i0 (.int .i64 0) 1 8 underlying31 hi hz0 hz1 hz2 rfl (by decide) (.slice A5 rs.length c5) rs.length (rs.map (Value.int .i64)) rfl (HO2.out.alloc _) ⟨w2.heap.size,0,none⟩ 1 1 [.int .i64 x] rfl rfl (cell_one_new _ _ _) (ZgT _ _) hA hB hC ?_;intro vb wb hob hgb _;have HOB:=hh hob;have HKB:=hh ((HK2.out.trans (Kept.alloc _ _ _)).grown hgb (fun q hq=>ZaD HO2.out q hq));clear hob hgb)
     go_roundw
     case rel=>exact⟨k+1,by omega,by go_num,by rw[HS.out];simpa using HOB.out,HKB.out⟩
     case measure=>simp[intOf];omega
  ·obtain rfl:k=xs.length:=by omega
   have HO2:=hh (by have:=HO.out;rw[List.take_length]at this;exact this)
   rw[List.take_length]
   clear HO
   go_wp2_with fail
   go_ret
   exact⟨_,rfl,HO2.out,HK.out⟩
def ZmY (b:Bool) (w:World) (e:Ending) (w':World):Prop:=∃i:Int,e= .returned (.int .i64 i)∧decide (0≤i)=b∧Kept [] w w'
theorem Zg8 (w:World) (a:Option Addr) (c:Nat) (xs:List Int) (hc:xs.length≤c) (hm:c≤9223372036854775807) (hI:ZM w a xs) (K:Nat) (caps:Array Value) (p:Int→Bool) (eg:∀args w,(callFunc K args).run prog w= .ok (.enter K args) w)
 (hp:∀W x,Kept [] w W→x∈xs→Calls prog K (#[.int .i64 x]++caps) W (J0 (p x) W)):
 Calls prog 83 #[.slice a xs.length c,.func (.func K) #[] caps] w (ZmY (xs.any p) w):=by
 have HI:=hh hI
 have HP:=hh hp
 clear hI hp
 go_enter func83,ntmps83
 go_wp2_with fail
 go_loopw [8] (fun i wr=>∃k:Nat,k≤xs.length∧i= .int .i64 k∧(xs.take k).any p=false∧Kept [] w wr) (fun i _=>xs.length - (intOf i).toNat)
 case atStart=>exact⟨0,Nat.zero_le _,rfl,rfl,Kept.refl _ _⟩
 case round=>
  obtain⟨k,hk,rfl,hn,hkr⟩:=hrel
  have HN:=hh hn
  have HK:=hh hkr
  clear hn hkr
  obtain⟨wo,rfl⟩:∃wo:World,wo=wr:=⟨_,rfl⟩
  by_cases hlt:k < xs.length
  ·obtain⟨x,hx⟩:∃x,xs[k]? =some x:=⟨_,List.getElem?_eq_getElem hlt⟩
   have HX:=hh hx
   rcases HI.out with h0 | ⟨b,o,rfl,hcx⟩
   ·rw[h0]at hlt;simp at hlt
   ·have qx:=HK.out.cell (hcx k x hx) (by simp)
    clear hcx hx
    go_wp2_with fail
    refine(HP.out _ _ HK.out (List.mem_of_getElem? HX.out)).mono ?_
    rintro e w2 ⟨rfl,hk2⟩
    have HK2:=hh (HK.out.trans hk2)
    have HS:Hid ((xs.take (k+1)).any p=p x):=by
     obtain⟨hk',e⟩:=List.getElem?_eq_some_iff.1 HX.out
     rw[Hid,List.take_succ_eq_append_getElem hk',e,List.any_append,HN.out]
     simp
    have HA:Hid (p x=true→xs.any p=true):=fun h=>List.any_eq_true.2 ⟨x,List.mem_of_getElem? HX.out,h⟩
    clear hk2 HK qx
    cases hpx:p x
    ·rw[hpx]at HS
     clear hpx HA
     go_wp2_with fail
     go_roundw
     case rel=>exact⟨k+1,by omega,by go_num,HS.out,HK2.out⟩
     case measure=>simp[intOf];omega
    ·have HA2:=hh (HA.out hpx)
     clear hpx HA HS
     go_wp2_with fail
     go_ret
     exact⟨_,rfl,by rw[HA2.out];simp,HK2.out⟩
  ·obtain rfl:k=xs.length:=by omega
   have HN2:=hh (by have:=HN.out;rw[List.take_length]at this;exact this)
   clear HN
   go_wp2_with fail
   go_ret
   exact⟨_,rfl,by rw[HN2.out];simp,HK.out⟩
theorem ZaR (w:World) (a:Option Addr) (c:Nat) (xs:List Int) (hc:xs.length≤c) (hm:c≤9223372036854775807) (hI:ZM w a xs) (K:Nat) (caps:Array Value) (p:Int→Bool) (eg:∀args w,(callFunc K args).run prog w= .ok (.enter K args) w)
 (hp:∀W x,Kept [] w W→x∈xs→Calls prog K (#[.int .i64 x]++caps) W (J0 (p x) W)):
 Calls prog 231 #[.slice a xs.length c,.func (.func K) #[] caps] w (J0 (xs.any p) w):=by
 have HC:=hh (Zg8 w a c xs hc hm hI K caps p eg hp)
 clear hp hI eg
 go_enter func231,ntmps231
 go_wp2_with fail
 refine HC.out.mono ?_
 rintro e w2 ⟨i,rfl,hi,hk⟩
 have HI:=hh hi
 have HK:=hh hk
 clear hi hk HC
 go_wp2_with fail
 go_ret
 rw[HI.out]
 exact⟨rfl,HK.out⟩
end
end Go.Proofs.YtfaecpkocgcofaaGreatDoor
