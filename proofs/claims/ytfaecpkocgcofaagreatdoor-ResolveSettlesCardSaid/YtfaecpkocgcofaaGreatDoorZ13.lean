/- Lemmas for ResolveSettles, printed small: V12. -/
import Derived.Test.YtfaecpkocgcofaaGreatDoorZ12
import Derived.Deep.RegionWith
set_option linter.all false
set_option maxRecDepth 100000
set_option maxHeartbeats 8000000
open Go.Proofs.Tryz
namespace Go.Proofs.YtfaecpkocgcofaaGreatDoor
section
open Go.RowKit
def ZkO (m k:Value):Sem Next:=do return .value (←Instr.lookup 224 m k true)
@[go_sem ↓] theorem ZnX (ρ:Operand→Value) (dst:Option Tmp) (m k:Operand) (ty:TypeId) (pos:String) (after:Array Edge) (guard:Option (Nat×Bool)):
 execOp ρ {dst,op:= .lookup 224 m k true,type:=ty,pos,after,guard}=ZkO (ρ m) (ρ k):=rfl
theorem Tryz.zeroOper (w:World):(zeroValue 222).run prog w= .ok (.agg #[.bool false,.nilFunc]) w:=by kernel_rfl
class Yx (w:World) (r:Nat) (k:Int) (v:outParam Value) (ok:outParam Bool):Prop where
 has:∃(es:Array MapEntry) (c:Nat) (q:Option (Nat×Value)),w.heap[r]? =some (.map es c)∧Instr.findNow (.int .u8) (.int .u8 k) es.toList 0=some q∧(q.map (·.2)).getD (.agg #[.bool false,.nilFunc])=v∧q.isSome=ok
section
variable (w:World) (r:Nat) (k:Int) (v:Value) (ok:Bool)
theorem Yx.kept {w w':World} {r:Nat} {k:Int} {v:Value} {ok:Bool} (h:Yx w r k v ok) (hk:Kept [] w w'):Yx w' r k v ok:=by
 obtain⟨es,c,q,h1,h2⟩:=h.has
 exact⟨es,c,q,hk.obj h1 (by simp),h2⟩
instance (ob:Obj) [h:Yx w r k v ok]:Yx (w.alloc ob) r k v ok:=h.kept (Kept.alloc _ _ _)
instance [h:Yx w r k v ok]:Yx w.drew r k v ok:=h.kept (Kept.drew _ _)
instance (w':World) [p:Zb w' w] [h:Yx w r k v ok]:Yx w' r k v ok:=h.kept p.kept
@[go_sem] theorem Zrn [h:Yx w r k v ok]:Sem.run prog (ZkO (.map (some r)) (.int .u8 k)) w= .ok (.value (.tuple #[v,.bool ok])) w:=by
 obtain⟨es,c,q,h1,h2,h3,h4⟩:=h.has
 simp only[ZkO,Sem.run_bind,Jk w underlying224 underlying37 (Tryz.zeroOper w) r es c h1 (.int .u8 k) rfl q h2,Result.andThen_ok,Sem.run_pure,h3,h4]
end
theorem ZiY {w:World} {r c:Nat} {es:Array MapEntry} (h:Y6 w r es c) {k:Int} {i:Nat} {v:Value} (hf:Instr.findNow (.int .u8) (.int .u8 k) es.toList 0=some (some (i,v))):Yx w r k v true:=⟨es,c,_,h.has,hf,rfl,rfl⟩
theorem Zdj {w:World} {r c:Nat} {es:Array MapEntry} (h:Y6 w r es c) {k:Int} (hf:Instr.findNow (.int .u8) (.int .u8 k) es.toList 0=some none):Yx w r k (.agg #[.bool false,.nilFunc]) false:=⟨es,c,_,h.has,hf,rfl,rfl⟩
def Zrk (w7:World) (f:Bool) (o:Int) (v19 v20:Value) (wc:World):Prop:=
 Kept [] w7 wc∧v20= .bool f∧∃B,v19= .pointer (some ⟨B,0,none⟩)∧(f=true→∃K caps,Zc wc B 222 #[.bool (ZqU o),.func (.func K) #[] caps]∧QP wc K caps o)
theorem QP.kept {w w':World} {K:Nat} {caps:Array Value} {o:Int} (h:QP w K caps o) (hk:Kept [] w w'):QP w' K caps o:=⟨h.eg,fun W a b hW=>h.run W a b (hk.trans hW)⟩
theorem Zjp.setO {w:World} {r B7 B8 B9 B10 B11 B12 B j:Nat} {cs:Array Value} {u:Value} (h:Zjp w r B7 B8 B9 B10 B11 B12) (hb:Zc w B 222 cs):Zjp (w.setCell ⟨B,j,none⟩ u) r B7 B8 B9 B10 B11 B12:=by
 have ne:∀(k:Nat) (cs2:Array Value),Zc w k 110 cs2→Zc (w.setCell ⟨B,j,none⟩ u) k 110 cs2:=fun k cs2 hk=>by
  have hne:B≠k:=fun e=>by
   subst e
   have h1:=hk.has
   rw[hb.has]at h1
   simp at h1
  haveI:Qf B k:=⟨hne⟩
  haveI:=hk
  infer_instance
 have hm:r≠B:=fun e=>by
  subst e
  have h1:=h.map.has
  rw[hb.has]at h1
  simp at h1
 exact⟨⟨(heap_setCell_other w ⟨B,j,none⟩ r u hm).trans h.map.has⟩,ne _ _ h.b7,ne _ _ h.b8,ne _ _ h.b9,ne _ _ h.b10,ne _ _ h.b11,ne _ _ h.b12⟩
theorem ZqT {w:World} {r B7 B8 B9 B10 B11 B12:Nat} (h:Zjp w r B7 B8 B9 B10 B11 B12) {o:Int} (h1:1≤o) (h2:o≤15) {i K:Nat} {caps:Array Value}
 (hf:Instr.findNow (.int .u8) (.int .u8 o) (Ztc B7 B8 B9 B10 B11 B12).toList 0=some (some (i,.agg #[.bool (ZqU o),.func (.func K) #[] caps]))):QP w K caps o:=by
 obtain⟨i',K',caps',hf',hd⟩:=ZhW h h1 h2
 rw[hf]at hf'
 simp only[Option.some.injEq,Prod.mk.injEq,Value.agg.injEq,Array.mk.injEq,List.cons.injEq,Value.func.injEq,Fn.func.injEq,true_and,and_true]at hf'
 obtain⟨_,rfl,rfl⟩:=hf'
 exact hd
theorem ZqS {V:ExV→Option Int} {x:ExV} (h:V (l0 x)=none):dyV V x=none:=by unfold dyV;rw[h]
theorem Zuc {V:ExV→Option Int} {x:ExV} (h:V (l0 x)=some 0) (ho:x.oper=16):dyV V x=some 0:=by unfold dyV;rw[h];simp[ho]
theorem Zub {V:ExV→Option Int} {x:ExV} {a:Int} (h:V (l0 x)=some a) (ho:x.oper=17) (ha:a≠0):dyV V x=some 1:=by unfold dyV;rw[h];simp[ho,ha]
theorem Zvw {V:ExV→Option Int} {x:ExV} {a:Int} (h:V (l0 x)=some a) (ho:x.oper=16∧a≠0∨x.oper=17∧a=0):dyV V x=V (l1 x):=by
 unfold dyV
 rw[h]
 rcases ho with⟨h1,h2⟩ | ⟨h1,h2⟩
 ·simp only[h1,h2]
  cases V (l1 x) <;> simp
 ·simp only[h1,h2]
  cases V (l1 x) <;> simp
theorem Zua {V:ExV→Option Int} {x:ExV} {a:Int} (h:V (l0 x)=some a) (h1:x.oper≠16) (h2:x.oper≠17) (hb:V (l1 x)=none):dyV V x=none:=by
 unfold dyV
 rw[h,hb]
 simp[h1,h2]
theorem Zt9 {V:ExV→Option Int} {x:ExV} {a b:Int} (h:V (l0 x)=some a) (h1:x.oper≠16) (h2:x.oper≠17) (hb:V (l1 x)=some b):dyV V x=opP x.oper a b:=by
 unfold dyV
 rw[h,hb]
 simp[h1,h2]
theorem Zp5 (w:World) (v:Zp) (t:Tab) (x:ExV) (n:Nat) (ih:Zaq v t n) (hT:Zw w v t) (hx:Qe w (n+1) x) (hI:ZbQ (isP t n) x.ls 2=true) (ho:1≤x.oper∧x.oper≤17) (hk:x.kind=12):YS w v t x n:=by
 unfold YS
 obtain⟨hl,hI⟩:=Zl8 hI
 obtain⟨b0,o0,ha,hat,hat1,hi0,hi1⟩:=Je hx (by omega)
 have HV:=hh (fun w' (hk:Kept [] w w')=>ih w' (l0 x) (hT.kept hk) (hi0.kept hk) (hI _ (ZiX (by omega))))
 have HV1:=hh (fun w' (hk:Kept [] w w')=>ih w' (l1 x) (hT.kept hk) (hi1.kept hk) (hI _ (ZiX (by omega))))
 have HB:=hh (fun z (h:ZF t n (l0 x)=some z)=>Zc6 hT.ll h)
 have HB1:=hh (fun z (h:ZF t n (l1 x)=some z)=>Zc6 hT.ll h)
 have hr:Qv (ZF t n) t x=dyV (ZF t n) x:=by
  rw[Qv]
  simp only[hk]
  rfl
 have D0:=hh (fun h=>hr.trans (ZqS (V:=ZF t n) (x:=x) h))
 have D16:=hh (fun h ho=>hr.trans (Zuc (V:=ZF t n) (x:=x) h ho))
 have D17:=hh (fun a h ho ha=>hr.trans (Zub (V:=ZF t n) (x:=x) (a:=a) h ho ha))
 have DS:=hh (fun a h ho=>hr.trans (Zvw (V:=ZF t n) (x:=x) (a:=a) h ho))
 have DO0:=hh (fun a h h1 h2 hb=>hr.trans (Zua (V:=ZF t n) (x:=x) (a:=a) h h1 h2 hb))
 have DO1:=hh (fun a b h h1 h2 hb=>hr.trans (Zt9 (V:=ZF t n) (x:=x) (a:=a) (b:=b) h h1 h2 hb))
 have q1:=hx.2.2.2.2.1
 have hl2:(0:Int) < (x.ls.length:Int):=by omega
 have hl3:(1:Int) < (x.ls.length:Int):=by omega
 obtain⟨o16,o17⟩:=ho
 clear ih hT hx hl hI hi0 hi1 hr
 unfold Zp.cells at*
 generalize ZF t n (l0 x)=o at*
 generalize ZF t n (l1 x)=o1 at*
 generalize l0 x=y at*
 generalize l1 x=z at*
 go_enter func82,ntmps82
 go_wp2_with fail
 refine Zy [0,1,2,3,4] [5,6] (by kernel_rfl) (by kernel_rfl) (fun _ _ _ _ _ h=>h) ?_;apply Exists.intro;refine⟨fun U hU hN=>?_,?_⟩;simp only[ZW,List.flatMap_cons,List.flatMap_nil,List.getElem?_cons_zero,List.getElem?_cons_succ,Option.toList_some,List.cons_append,List.nil_append]
 ·repeat(go_big_quiet_step (fail))
  refine wpQuiet_nil ?_
  exact rfl
 simp only[ZW,List.flatMap_cons,List.flatMap_nil,List.getElem?_cons_zero,List.getElem?_cons_succ,Option.toList_some,List.cons_append,List.nil_append]
 intro w4 hk4
 haveI p_w4:Zb w4 _:=⟨hk4⟩
 clear hk4
 go_wp2_with fail
 cases o with
 | none=>
  have HW:Hid (Qv (ZF t n) t x=none):=D0.out rfl
  refine nxt (Calls.retP (HV.out _ kp) rfl) fun w5 p_w5=>?_;have hz_w5:=szk w w5
  show bodyPost _ _ _ (.panic QJ) _ _
  rw[HW.out]
  exact ZA rfl kp
 | some a=>
 obtain⟨a1,a2⟩:=HB.out a rfl
 refine nxt (Calls.retV (HV.out _ kp) rfl) fun w5 p_w5=>?_;have hz_w5:=szk w w5
 clear HV HB
 have H16:=hh (fun(h:a=0)=>D16.out (by rw[h]))
 have H17:=hh (D17.out a rfl)
 have HS:=hh (DS.out a rfl)
 have HO0:=hh (DO0.out a rfl)
 have HO1:=hh (fun b=>DO1.out a b rfl)
 clear D0 D16 D17 DS DO0 DO1
 by_cases c16:x.oper=16
 ·by_cases c0:a=0
  ·have HW:Hid (Qv (ZF t n) t x=some (ZT false)):=H16.out c0 c16
   subst c0
   clear H16 H17 HS HO0 HO1 HV1 HB1
   go_wp2_with fail
   refine nxt (Q4 _ _) fun w6 p_w6=>?_;have hz_w6:=szk w w6
   go_wp2_with fail
   rw[HW.out]
   exact Zu rfl (Zj results82 (Zh rfl)) kp
  ·have c1:(a == 0)=false:=by simp[c0]
   have HM:Hid (Qv (ZF t n) t x=o1):=HS.out (.inl ⟨c16,c0⟩)
   clear H16 H17 HS HO0 HO1 c0
   go_wp2_with fail
   refine Zy [0,1,2,3,4] [5,6] (by kernel_rfl) (by kernel_rfl) (fun _ _ _ _ _ h=>h) ?_;apply Exists.intro;refine⟨fun U hU hN=>?_,?_⟩;simp only[ZW,List.flatMap_cons,List.flatMap_nil,List.getElem?_cons_zero,List.getElem?_cons_succ,Option.toList_some,List.cons_append,List.nil_append]
   ·repeat(go_big_quiet_step (fail))
    refine wpQuiet_nil ?_
    exact rfl
   simp only[ZW,List.flatMap_cons,List.flatMap_nil,List.getElem?_cons_zero,List.getElem?_cons_succ,Option.toList_some,List.cons_append,List.nil_append]
   intro w6 hk6
   haveI p_w6:Zb w6 _:=⟨hk6⟩
   clear hk6
   go_wp2_with fail
   cases o1 with
   | none=>
    have HW:Hid (Qv (ZF t n) t x=none):=HM.out
    refine nxt (Calls.retP (HV1.out _ kp) rfl) fun w7 p_w7=>?_;have hz_w7:=szk w w7
    show bodyPost _ _ _ (.panic QJ) _ _
    rw[HW.out]
    exact ZA rfl kp
   | some b=>
   obtain⟨b1,b2⟩:=HB1.out b rfl
   refine nxt (Calls.retV (HV1.out _ kp) rfl) fun w7 p_w7=>?_;have hz_w7:=szk w w7
   clear HV1 HB1
   go_wp2_with fail
   go_cut [19,20] (fun v19 v20 wc=>Zrk w7 false x.oper v19 v20 wc)
   case first=>
    go_region_with (
     go_at_call 152
     refine(Jn _).mono ?_
     rintro e w9 ⟨r,B7,B8,B9,B10,B11,B12,rfl,hops,hk9⟩
     haveI p_w9:Zb w9 _:=⟨hk9⟩
     have hz9:=hk9.size
     haveI lo:=Zdj hops.map (ZhV B7 B8 B9 B10 B11 B12 (o:=16) (.inl rfl))
     clear hk9)
    all_goals
     go_wp2_with fail
     go_meet
     exact⟨kp,rfl,_,rfl,fun h=>by cases h⟩
   case rest=>
   obtain⟨hk10,rfl,B,rfl,hf⟩:=hcut
   haveI p_wc:Zb wc _:=⟨hk10⟩
   clear hk10 hf
   have HW:Hid (Qv (ZF t n) t x=some b):=HM.out
   go_wp2_with fail
   rw[HW.out]
   exact Zu rfl (Zj results82 (Zh rfl)) kp
 by_cases c17:x.oper=17
 ·by_cases c0:a=0
  ·have HM:Hid (Qv (ZF t n) t x=o1):=HS.out (.inr ⟨c17,c0⟩)
   subst c0
   clear H16 H17 HS HO0 HO1 c16
   go_wp2_with fail
   refine Zy [0,1,2,3,4] [5,6] (by kernel_rfl) (by kernel_rfl) (fun _ _ _ _ _ h=>h) ?_;apply Exists.intro;refine⟨fun U hU hN=>?_,?_⟩;simp only[ZW,List.flatMap_cons,List.flatMap_nil,List.getElem?_cons_zero,List.getElem?_cons_succ,Option.toList_some,List.cons_append,List.nil_append]
   ·repeat(go_big_quiet_step (fail))
    refine wpQuiet_nil ?_
    exact rfl
   simp only[ZW,List.flatMap_cons,List.flatMap_nil,List.getElem?_cons_zero,List.getElem?_cons_succ,Option.toList_some,List.cons_append,List.nil_append]
   intro w6 hk6
   haveI p_w6:Zb w6 _:=⟨hk6⟩
   clear hk6
   go_wp2_with fail
   cases o1 with
   | none=>
    have HW:Hid (Qv (ZF t n) t x=none):=HM.out
    refine nxt (Calls.retP (HV1.out _ kp) rfl) fun w7 p_w7=>?_;have hz_w7:=szk w w7
    show bodyPost _ _ _ (.panic QJ) _ _
    rw[HW.out]
    exact ZA rfl kp
   | some b=>
   obtain⟨b1,b2⟩:=HB1.out b rfl
   refine nxt (Calls.retV (HV1.out _ kp) rfl) fun w7 p_w7=>?_;have hz_w7:=szk w w7
   clear HV1 HB1
   go_wp2_with fail
   go_cut [19,20] (fun v19 v20 wc=>Zrk w7 false x.oper v19 v20 wc)
   case first=>
    go_region_with (
     go_at_call 152
     refine(Jn _).mono ?_
     rintro e w9 ⟨r,B7,B8,B9,B10,B11,B12,rfl,hops,hk9⟩
     haveI p_w9:Zb w9 _:=⟨hk9⟩
     have hz9:=hk9.size
     haveI lo:=Zdj hops.map (ZhV B7 B8 B9 B10 B11 B12 (o:=17) (.inr rfl))
     clear hk9)
    all_goals
     go_wp2_with fail
     go_meet
     exact⟨kp,rfl,_,rfl,fun h=>by cases h⟩
   case rest=>
   obtain⟨hk10,rfl,B,rfl,hf⟩:=hcut
   haveI p_wc:Zb wc _:=⟨hk10⟩
   clear hk10 hf
   have HW:Hid (Qv (ZF t n) t x=some b):=HM.out
   go_wp2_with fail
   rw[HW.out]
   exact Zu rfl (Zj results82 (Zh rfl)) kp
  ·have HW:Hid (Qv (ZF t n) t x=some (ZT true)):=H17.out c17 c0
   have c1:(a != 0)=true:=by simp[c0]
   clear H16 H17 HS HO0 HO1 HV1 HB1 c16 c0
   go_wp2_with fail
   refine nxt (Q4 _ _) fun w6 p_w6=>?_;have hz_w6:=szk w w6
   go_wp2_with fail
   rw[HW.out]
   exact Zu rfl (Zj results82 (Zh rfl)) kp
 have o15:x.oper≤15:=by omega
 have e16:(x.oper == 16)=false:=by simp[c16]
 have e17:(x.oper == 17)=false:=by simp[c17]
 replace HO0:=hh (HO0.out c16 c17)
 replace HO1:=hh (fun b=>HO1.out b c16 c17)
 clear H16 H17 HS c16 c17
 go_wp2_with fail
 refine Zy [0,1,2,3,4] [5,6] (by kernel_rfl) (by kernel_rfl) (fun _ _ _ _ _ h=>h) ?_;apply Exists.intro;refine⟨fun U hU hN=>?_,?_⟩;simp only[ZW,List.flatMap_cons,List.flatMap_nil,List.getElem?_cons_zero,List.getElem?_cons_succ,Option.toList_some,List.cons_append,List.nil_append]
 ·repeat(go_big_quiet_step (fail))
  refine wpQuiet_nil ?_
  exact rfl
 simp only[ZW,List.flatMap_cons,List.flatMap_nil,List.getElem?_cons_zero,List.getElem?_cons_succ,Option.toList_some,List.cons_append,List.nil_append]
 intro w6 hk6
 haveI p_w6:Zb w6 _:=⟨hk6⟩
 clear hk6
 go_wp2_with fail
 cases o1 with
 | none=>
  have HW:Hid (Qv (ZF t n) t x=none):=HO0.out rfl
  refine nxt (Calls.retP (HV1.out _ kp) rfl) fun w7 p_w7=>?_;have hz_w7:=szk w w7
  show bodyPost _ _ _ (.panic QJ) _ _
  rw[HW.out]
  exact ZA rfl kp
 | some b=>
 obtain⟨b1,b2⟩:=HB1.out b rfl
 have HM:Hid (Qv (ZF t n) t x=opP x.oper a b):=HO1.out b rfl
 refine nxt (Calls.retV (HV1.out _ kp) rfl) fun w7 p_w7=>?_;have hz_w7:=szk w w7
 clear HV1 HB1 HO0 HO1
 go_wp2_with fail
 go_cut [19,20] (fun v19 v20 wc=>Zrk w7 true x.oper v19 v20 wc)
 case first=>
  go_region_with (
   go_at_call 152
   refine(Jn _).mono ?_
   rintro e w9 ⟨r,B7,B8,B9,B10,B11,B12,rfl,hops,hk9⟩
   haveI p_w9:Zb w9 _:=⟨hk9⟩
   have hz9:=hk9.size
   obtain⟨i,K,caps,hf,hd⟩:=ZhW hops o16 o15
   haveI lo:=ZiY hops.map hf
   have HD:=hh hd
   have HF:=hh hf
   have HOP:=hh hops
   clear hf hd hops
   clear hk9)
  all_goals
   go_wp2_with fail
   go_meet
   first
    | exact⟨kp,rfl,_,rfl,fun _=>⟨_,_,by infer_instance,ZqT ((HOP.out.setO (by infer_instance)).setO (by infer_instance)) o16 o15 HF.out⟩⟩
    | exact⟨kp,rfl,_,rfl,fun _=>⟨_,_,by infer_instance,HD.out.kept kp⟩⟩
 case rest=>
 obtain⟨hk10,rfl,B,rfl,hf⟩:=hcut
 obtain⟨K,caps,hb,hd⟩:=hf rfl
 haveI p_wc:Zb wc _:=⟨hk10⟩
 haveI bxo:=hb
 have eg:=hd.eg
 have HD:=hh hd
 have hz_wc:w.heap.size≤wc.heap.size:=Kept.size (X:=[]) kp
 clear hk10 hf hb hd
 cases hv:ZqU x.oper with
 | true=>
  by_cases c0:b=0
  ·have HW:Hid (Qv (ZF t n) t x=none):=by rw[Hid,HM.out,ZgS,if_pos ⟨hv,c0⟩]
   rw[hv]at bxo
   subst c0
   clear HM HD eg
   go_wp2_with fail
   refine nxt (ZbO _) fun w11 p_w11=>?_;have hz_w11:=szk w w11
   show bodyPost _ _ _ (.panic QJ) _ _
   rw[HW.out]
   exact ZA rfl kp
  ·have HW:Hid (Qv (ZF t n) t x=some (opG x.oper a b)):=by rw[Hid,HM.out,ZgS,if_neg (fun h=>c0 h.2)]
   have HR:=hh (fun W (hk:Kept [] wc W)=>HD.out.run W a b hk ⟨a1,a2⟩ ⟨b1,b2⟩ (fun _=>c0))
   have c1:(b == 0)=false:=by simp[c0]
   rw[hv]at bxo
   clear HM HD c0
   go_wp2_with fail
   refine nxt (HR.out _ kp) fun w11 p_w11=>?_;have hz_w11:=szk w w11
   go_wp2_with fail
   rw[HW.out]
   exact Zu rfl (Zj results82 (Zh rfl)) kp
 | false=>
  have HW:Hid (Qv (ZF t n) t x=some (opG x.oper a b)):=by rw[Hid,HM.out,ZgS,if_neg (fun h=>by rw[hv]at h;cases h.1)]
  have HR:=hh (fun W (hk:Kept [] wc W)=>HD.out.run W a b hk ⟨a1,a2⟩ ⟨b1,b2⟩ (fun h=>by rw[hv]at h;cases h))
  rw[hv]at bxo
  clear HM HD
  go_wp2_with fail
  refine nxt (HR.out _ kp) fun w11 p_w11=>?_;have hz_w11:=szk w w11
  go_wp2_with fail
  rw[HW.out]
  exact Zu rfl (Zj results82 (Zh rfl)) kp
end
end Go.Proofs.YtfaecpkocgcofaaGreatDoor
