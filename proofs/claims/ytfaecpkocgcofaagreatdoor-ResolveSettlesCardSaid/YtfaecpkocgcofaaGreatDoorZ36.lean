/- Lemmas for ResolveSettles, printed small: M8 M9. -/
import Derived.Test.YtfaecpkocgcofaaGreatDoorZ35
set_option linter.all false
set_option maxRecDepth 100000
set_option maxHeartbeats 8000000
open Go.Proofs.Tryz
namespace Go.Proofs.YtfaecpkocgcofaaGreatDoor
section
open Go.RowKit
def QK (assoc:List AsV→Bool) (x:ExV):Bool:=(Jo assoc 33 1 256 x).1
theorem Zrh (assoc:List AsV→Bool) (hAS:Zmo assoc) (w:World) (x:ExV) (hx:ExD [] w x) (hT:Zf8 w):Calls prog 71 #[.agg x.cells.toArray] w (ZE (.bool (QK assoc x)) w):=by
 have HX:=hh hx
 have HT:=hh hT
 clear hx hT
 go_enter func71,ntmps71
 go_upto_region 4 with(fail)
 refine Zm ?_
 intro w0 hw0
 haveI p_w0:Zb w0 w:=⟨by rw[hw0];exact kp⟩
 haveI b0:Zc w0 w.heap.size 41 x.cells.toArray:=by rw[hw0];infer_instance
 haveI b1:Zc w0 (w.heap.size+1) 3 #[.int .i64 256]:=by rw[hw0];infer_instance
 haveI b2:Zc w0 (w.heap.size+2) 197 #[.func (.func 128) #[] #[.pointer (some ⟨w.heap.size+1,0,none⟩),.pointer (some ⟨w.heap.size+2,0,none⟩)]]:=by rw[hw0];exact Zc.mk (Zf (by simp))
 have hs0:w.heap.size+2 < w0.heap.size:=by rw[hw0];simp
 clear hw0
 have eg:=Tryz.entersMay1
 have eg2:=Tryz.entersMay11
 refine Zn [⟨6,[],false,.eq (.func (.func 128) #[] #[.pointer (some ⟨w.heap.size+1,0,none⟩),.pointer (some ⟨w.heap.size+2,0,none⟩)])⟩,⟨7,[6],false,.mv (w.heap.size+1) (w.heap.size+2) 1 [w.heap.size+1]⟩,⟨8,[],false,.eq (.agg x.cells.toArray)⟩] (by kernel_rfl) (by kernel_rfl) ?_
 apply Exists.intro
 refine⟨fun vs=>?_,?_⟩
 ·simp only[List.map_cons,List.map_nil,PSz.toP,Jj,Act.put,List.setIfInBounds_toArray,List.set_cons_zero,List.set_cons_succ]
  exact rfl
 refine⟨⟨?_,?_,?_,trivial⟩,?_⟩<;>intro vs Z w9 hk hZ hg
 all_goals
  haveI p_w9:Zb w9 _:=⟨hk⟩
  have hz_w9:=hk.size
  have HZ:=hh hZ
  clear hk hZ
  (try simp only[ZG,Zi,Z8,SZ.eq_p,SZ.ex_p,SZ.wx_p,SZ.new_p,SZ.mv_p,Nat.reduceEqDiff,reduceIte,and_true]at hg)
 ·clear hg
  go_wp2_with fail
  exact⟨kp,rfl,Z,.inl ⟨rfl,rfl⟩,rfl⟩
 ·obtain e6:=hg
  (try simp only[e6])
  go_wp2_with fail
  refine(Zfz _ (w.heap.size+1) (w.heap.size+2) 1).mono ?_
  rintro e w8 ⟨BD2,rfl,hb8,hle8,hk8⟩
  go_wp2_with fail
  exact⟨hk8,rfl,Z,.inl ⟨rfl,rfl⟩,BD2,rfl,hb8,by have:=(Kept.size (X:=[]) (w:=w0) (w':=w9) kp);simp;omega⟩
 ·clear hg
  go_wp2_with fail
  exact⟨kp,rfl,Z,.inl ⟨rfl,rfl⟩,rfl⟩
 obtain⟨e6,⟨B7,e7,b7,n7⟩,e8⟩:=hg
 simp only[e6,e7,e8]
 clear e6 e7 e8
 have hk09:Kept [] w0 w9:=kp
 have hkw9:Kept [] w w9:=kp
 have HV:Hid ((Jo assoc 33 1 256 x).1=QK assoc x):=rfl
 have HVI:=hh (ZjK assoc hAS (w.heap.size+1) (w.heap.size+2) 33 w9 B7 1 256 x (by decide) (by decide) (by decide) (by decide) ⟨hk09.obj b1.has (by simp)⟩ ⟨b7⟩ ⟨hk09.obj b2.has (by simp)⟩ (by simpa using n7) (by omega)
  (HX.out.later hkw9 (fun q hq=> .inr (by simp at hq;omega)))
  (fun W hk=>HT.out.kept (Kept.trans0 hkw9 hk (by omega))))
 have HKW9:=hh hkw9
 clear b7 n7 hk09 hkw9
 unfold Zrr
 go_wp2_with fail
 refine HVI.out.mono ?_
 rintro e w8 ⟨rfl,hb8,hk8⟩
 have HK8:Hid (Kept [] w w8):=Kept.trans0 HKW9.out hk8 (by omega)
 clear hb8 hk8
 generalize (Jo assoc 33 1 256 x).1=q at*
 go_wp2_with fail
 rw[←HV.out]
 exact Za rfl (Zj results71 (Zh rfl)) HK8.out
def chN (k:Int):Option Int:=if k=1 then some 1 else if k=2 then some 2 else if k=3 then some 0 else none
def chE:Array MapEntry:=#[⟨.int .u8 1,.int .i64 1,0⟩,⟨.int .u8 2,.int .i64 2,1⟩,⟨.int .u8 3,.int .i64 0,2⟩]
theorem Zon (k:Int):∃q,Instr.findNow (.int .u8) (.int .u8 k) chE.toList 0=some q∧q.map (·.2)=(chN k).map (Value.int .i64):=by
 by_cases h1:k=1
 ·subst h1;exact⟨_,rfl,rfl⟩
 by_cases h2:k=2
 ·subst h2;exact⟨_,rfl,rfl⟩
 by_cases h3:k=3
 ·subst h3;exact⟨_,rfl,rfl⟩
 refine⟨none,?_,?_⟩
 ·have e:∀j,Instr.sameNow (.int .u8) (.int .u8 k) (.int .u8 j)=some (k == j):=fun j=>rfl
  have e1:(k == 1)=false:=by simpa using h1
  have e2:(k == 2)=false:=by simpa using h2
  have e3:(k == 3)=false:=by simpa using h3
  simp only[chE,Instr.findNow,e,e1,e2,e3]
 ·simp[chN,h1,h2,h3]
theorem Tryz.zeroInt (w:World):(zeroValue 3).run prog w= .ok (.int .i64 0) w:=by kernel_rfl
def Zh4 (m k:Value):Sem Next:=do return .value (←Instr.lookup 338 m k true)
@[go_sem ↓] theorem ZnZ (ρ:Operand→Value) (dst:Option Tmp) (m k:Operand) (ty:TypeId) (pos:String) (after:Array Edge) (guard:Option (Nat×Bool)):
 execOp ρ {dst,op:= .lookup 338 m k true,type:=ty,pos,after,guard}=Zh4 (ρ m) (ρ k):=rfl
class ZcM (w:World) (mr:Nat):Prop where
 has:w.heap[mr]? =some (.map chE 3)
instance (w:World) (mr:Nat) (ob:Obj) [h:ZcM w mr]:ZcM (w.alloc ob) mr:=⟨Zr h.has (Array.getElem?_eq_some_iff.1 h.has).1⟩
instance (w:World) (mr:Nat) [h:ZcM w mr]:ZcM w.drew mr:=⟨h.has⟩
instance (w w':World) (mr:Nat) [p:Zb w' w] [h:ZcM w mr]:ZcM w' mr:=⟨p.kept.obj h.has (by simp)⟩
@[go_sem] theorem ZiK (w:World) (mr:Nat) (k:Int) [h:ZcM w mr]:Sem.run prog (Zh4 (.map (some mr)) (.int .u8 k)) w= .ok (.value (.tuple #[.int .i64 ((chN k).getD 0),.bool (chN k).isSome])) w:=by
 obtain⟨q,h1,h2⟩:=Zon k
 simp only[Zh4,Sem.run_bind,Jk w underlying338 underlying58 (Tryz.zeroInt w) mr chE 3 h.has (.int .u8 k) rfl q h1,Result.andThen_ok,Sem.run_pure]
 rw[h2]
 have e:q.isSome=(chN k).isSome:=by
  have:=congrArg Option.isSome h2
  simpa using this
 rw[e]
 cases chN k <;> rfl
def ZqD (m k x:Value):Sem Next:=do Instr.mapUpdate 338 m k x;pure .skip
@[go_sem ↓] theorem Zpk (ρ:Operand→Value) (dst:Option Tmp) (m k x:Operand) (ty:TypeId) (pos:String) (after:Array Edge) (guard:Option (Nat×Bool)):
 execOp ρ {dst,op:= .insert 338 m k x,type:=ty,pos,after,guard}=ZqD (ρ m) (ρ k) (ρ x):=rfl
@[go_sem] theorem ZrU (w:World) (r:Nat) (es:Array MapEntry) (c:Nat) (k:Int) (v:Value) [h:Y6 w r es c] (hf:ZaI k es=true):
 Sem.run prog (ZqD (.map (some r)) (.int .u8 k) v) w= .ok .skip (QY w r (.map (es.push {key:= .int .u8 k,val:=v,born:=c}) (c+1))):=by
 simp only[ZqD,Sem.run_bind,Jl w underlying338 underlying58 r es c h.has (.int .u8 k) v rfl (YX k _ 0 hf),Result.andThen_ok,Sem.run_pure]
def ZbV (n:Nat) (c:ChV):Bool:=!(chN c.1).isSome || (decide ((chN c.1).getD 0≠(c.2.2.2.length:Int)) || (decide (c.1=3) && decide (1 < n)))
theorem ZiN (w:World) (c:ChV) (B1 B2 mr:Nat) (A:Option Addr) (n k:Nat) [Zc w B1 338 #[.map (some mr)]] [Zc w B2 61 #[.slice A n k]] [ZcM w mr]:
 Calls prog 282 (#[.agg (ChV.cells c).toArray]++ #[.pointer (some ⟨B1,0,none⟩),.pointer (some ⟨B2,0,none⟩)]) w (ZE (.bool (ZbV n c)) w):=by
 obtain⟨c1,c2,c3,cl⟩:=c
 have HV:Hid (ZbV n (c1,c2,c3,cl)=(!(chN c1).isSome || (decide ((chN c1).getD 0≠(cl.length:Int)) || (decide (c1=3) && decide (1 < n))))):=rfl
 generalize hq:chN c1=q at*
 have HQ:=hh hq
 have hlk:Sem.run prog (Zh4 (.map (some mr)) (.int .u8 c1)) (w.alloc (.cells (ChV.cells (c1,c2,c3,cl)).toArray 60))= .ok (.value (.tuple #[.int .i64 (q.getD 0),.bool q.isSome])) (w.alloc (.cells (ChV.cells (c1,c2,c3,cl)).toArray 60)):=by rw[←hq];exact ZiK _ mr c1
 clear hq
 cases q with
 | none=>
  rw[Option.getD_none,Option.isSome_none]at hlk
  go_enter func282,ntmps282
  go_wp2_with fail
  all_goals
   refine Jw rfl (Zj results282 (Zh rfl)) ?_ kp
   rw[HV.out]
   simp[HQ.out]
 | some z=>
  rw[Option.getD_some,Option.isSome_some]at hlk
  go_enter func282,ntmps282
  go_wp2_with fail
  all_goals
   refine Jw rfl (Zj results282 (Zh rfl)) ?_ kp
   rw[HV.out]
   all_goals try simp[*,HQ.out]
   all_goals try omega
@[go_sem] theorem ZpP (w:World) (r:Nat) (o:Obj):(QY w r o).heap.size=w.heap.size:=by simp[QY]
theorem Tryz.entersRight1:∀args w,(callFunc 282 args).run prog w= .ok (.enter 282 args) w:=Go.Proofs.enters_of func282 (by kernel_rfl) rfl
def J7 (l:List ChV):Bool:=decide (0 < l.length) && (decide (l.length≤16) && !l.any (ZbV l.length))
theorem Zkn (w:World) (A:Option Addr) (c:Nat) (l:List ChV) (hr:Zo ChV 2 ChV.cells w A l) (hl:l.length≤140737488355328):Calls prog 254 #[.slice A l.length c] w (ZE (.bool (J7 l)) w):=by
 have HH:Hid (∀W B1 B2 mr,Kept [] w W→Zc W B1 338 #[.map (some mr)]→Zc W B2 61 #[.slice A l.length c]→ZcM W mr→
  Calls prog 281 #[.slice A l.length c,.func (.func 282) #[] #[.pointer (some ⟨B1,0,none⟩),.pointer (some ⟨B2,0,none⟩)]] W (ZE (.bool (l.any (ZbV l.length))) W)):=fun W B1 B2 mr hk h1 h2 h3=>
  Zk8 W A c l hl (hr.kept hk) 282 #[] _ (ZbV l.length) Tryz.entersRight1 (fun W2 x hk2 _=>by
   haveI:=h1.kept hk2
   haveI:=h2.kept hk2
   haveI:ZcM W2 mr:=⟨hk2.obj h3.has (by simp)⟩
   exact ZiN W2 x B1 B2 mr A l.length c)
 have HV:Hid (J7 l=(decide (0 < l.length) && (decide (l.length≤16) && !l.any (ZbV l.length)))):=rfl
 clear hr
 generalize l.any (ZbV l.length)=q at*
 go_enter func254,ntmps254
 go_upto_region 2 with(fail)
 refine Zm ?_
 intro w0 hw0
 haveI p_w0:Zb w0 w:=⟨by rw[hw0];exact kp⟩
 haveI b1:Zc w0 w.heap.size 61 #[.slice A l.length c]:=by rw[hw0];infer_instance
 haveI b2:Zc w0 (w.heap.size+2) 338 #[.map (some (w.heap.size+1))]:=by rw[hw0];infer_instance
 haveI b3:ZcM w0 (w.heap.size+1):=⟨by rw[hw0];exact Y6.has⟩
 clear hw0
 by_cases h0:0 < l.length
 case neg=>
  have HW:Hid (J7 l=false):=by rw[Hid,HV.out,decide_eq_false h0];rfl
  go_wp2_with fail
  rw[HW.out]
  exact Za rfl (Zj results254 (Zh rfl)) kp
 by_cases h8:l.length≤16
 case neg=>
  have HW:Hid (J7 l=false):=by rw[Hid,HV.out,decide_eq_false h8];simp
  have h9:(16:Int) < (l.length:Int):=by omega
  go_wp2_with fail
  rw[HW.out]
  exact Za rfl (Zj results254 (Zh rfl)) kp
 replace HV:Hid (J7 l= !q):=by rw[Hid,HV.out,decide_eq_true h0,decide_eq_true h8];rfl
 have h2:(l.length:Int)≤16:=by omega
 go_wp2_with fail
 refine nxt (HH.out _ _ _ _ kp inferInstance inferInstance inferInstance) fun w2 p_w2=>?_;have hz_w2:=szk w w2
 go_wp2_with fail
 rw[HV.out]
 exact Za rfl (Zj results254 (Zh rfl)) kp
def ZpB (n k:Nat) (a:AsV):Bool:=decide (0 < a.2.1.length) && (!J7 a.2.1 || (decide ((a.2.1.headD ZeS).1=3) && decide ((k:Int) < (n:Int) - 1)))
def Y3 (l:List AsV):Nat→Bool
 | 0=>true
 | k+1=>Y3 l k && !ZpB l.length k (l.getD k default)
theorem ZbK {l:List AsV} {k:Nat} (h:Y3 l k=false):∀m,k≤m→Y3 l m=false:=by
 intro m
 induction m with
 | zero=>intro hm;rw[show(0:Nat)=k by omega];exact h
 | succ m ih=>
  intro hm
  by_cases e:k=m+1
  ·rw[←e];exact h
  ·rw[Y3,ih (by omega),Bool.false_and]
def ZfG (l:List AsV):Bool:=decide ((l.headD default).2.1.length=0)
def ZV (l:List AsV):Bool:=!(decide (l.length=0) || (decide (32 < l.length) || (!ZP l || (decide (l.length=1) && ZfG l)))) && Y3 l l.length
theorem ZbD:Zmo ZV:=by
 intro w A c l h
 have HO:=hh (fun W (hk:Kept [] w W)=>Zcn W A c l (h.kept hk))
 have HR:=hh (fun W a (ha:a∈l) (hk:Kept [] w W)=>Zkn W a.1 a.2.2.1 a.2.1 ((h.2.2 a ha).1.kept hk) (h.2.2 a ha).2.1)
 have HC:=hh (fun a (ha:a∈l)=>(h.2.2 a ha))
 have HI:=hh h.1
 have hl:=h.2.1
 have HV:Hid (ZV l=(!(decide (l.length=0) || (decide (32 < l.length) || (!ZP l || (decide (l.length=1) && ZfG l)))) && Y3 l l.length)):=rfl
 clear h
 by_cases h0:l.length=0
 ·have HW:Hid (ZV l=false):=by rw[Hid,HV.out,decide_eq_true h0];rfl
  have h0':l= []:=List.eq_nil_of_length_eq_zero h0
  clear HO HR HC HI HV
  go_enter func180,ntmps180
  go_wp2_with fail
  rw[HW.out]
  exact Za rfl (Zj results180 (Zh rfl)) kp
 have h0':¬l= []:=fun e=>h0 (by rw[e];rfl)
 by_cases h32:32 < l.length
 ·have HW:Hid (ZV l=false):=by rw[Hid,HV.out,decide_eq_true h32];simp
  have h32':(32:Int) < (l.length:Int):=by omega
  clear HO HR HC HI HV
  go_enter func180,ntmps180
  go_wp2_with fail
  rw[HW.out]
  exact Za rfl (Zj results180 (Zh rfl)) kp
 have h32':¬(32:Int) < (l.length:Int):=by omega
 have h00:((l.length:Int) == 0)=false:=by simp;exact h0'
 cases hs:ZP l
 ·have HW:Hid (ZV l=false):=by rw[Hid,HV.out,hs];simp
  rw[hs]at HO
  clear HR HC HI HV
  go_enter func180,ntmps180
  go_wp2_with fail
  refine nxt (HO.out _ kp) fun w2 p_w2=>?_;have hz_w2:=szk w w2
  go_wp2_with fail
  rw[HW.out]
  exact Za rfl (Zj results180 (Zh rfl)) kp
 rw[hs]at HO
 obtain⟨a0,ha0⟩:∃a,l[0]? =some a:=⟨_,List.getElem?_eq_getElem (by omega)⟩
 have HH0:Hid (ZfG l=decide (a0.2.1.length=0)):=by
  rw[Hid,ZfG]
  cases l with
  | nil=>simp at ha0
  | cons x r=>
   obtain rfl:x=a0:=by simpa using ha0
   rfl
 have hA0:=(HC.out a0 (List.mem_of_getElem? ha0)).2.1
 obtain⟨b0,o0,hA,hcx0⟩:=HI.out.some_ ha0
 have qc0:w.cell? ⟨b0,o0,none⟩=some (.slice a0.1 a0.2.1.length a0.2.2.1):=by have:=hcx0 0 a0 ha0 0 _ rfl;simpa using this
 obtain rfl:=hA
 clear hcx0 ha0
 replace HV:Hid (ZV l=(!(decide (l.length=1) && ZfG l) && Y3 l l.length)):=by
  rw[Hid,HV.out,hs,decide_eq_false h0,decide_eq_false h32];rfl
 by_cases h1:l.length=1∧a0.2.1.length=0
 ·have HW:Hid (ZV l=false):=by rw[Hid,HV.out,HH0.out,decide_eq_true h1.1,decide_eq_true h1.2];rfl
  obtain⟨e1,e2⟩:=h1
  have e1':((l.length:Int) == 1)=true:=by simp;omega
  have e2':a0.2.1= []:=List.eq_nil_of_length_eq_zero e2
  have hpos:0 < l.length:=by omega
  clear HV HR HC HI e1
  go_enter func180,ntmps180
  go_wp2_with fail
  refine nxt (HO.out _ kp) fun w2 p_w2=>?_;have hz_w2:=szk w w2
  have qc2:=Zb.kept.cell qc0 (by simp) (w':=w2)
  go_wp2_with fail
  rw[HW.out]
  exact Za rfl (Zj results180 (Zh rfl)) kp
 replace HV:Hid (ZV l=Y3 l l.length):=by
  rw[Hid,HV.out,HH0.out]
  cases hd:(decide (l.length=1) && decide (a0.2.1.length=0))with
  | false=>rfl
  | true=>
   simp only[Bool.and_eq_true,decide_eq_true_eq]at hd
   exact absurd hd h1
 have HB:Hid (∀k a,l[k]? =some a→Y3 l (k+1)=(Y3 l k && !ZpB l.length k a)):=fun k a h=>by
  rw[Y3,List.getD_eq_getElem?_getD,h];rfl
 by_cases e1:l.length=1
 ·have e2:¬a0.2.1.length=0:=fun h=>h1 ⟨e1,h⟩
  have e1':((l.length:Int) == 1)=true:=by simp;omega
  have e2':¬a0.2.1= []:=fun h=>e2 (by rw[h];rfl)
  have e3':((a0.2.1.length:Int) == 0)=false:=by simp;exact e2'
  have hpos:0 < l.length:=by omega
  clear h1 e1
  go_enter func180,ntmps180
  go_wp2_with fail
  refine nxt (HO.out _ kp) fun w2 p_w2=>?_;have hz_w2:=szk w w2
  have qc2:=Zb.kept.cell qc0 (by simp) (w':=w2)
  go_upto_region 4 with(fail)
  go_loopw [33] (fun s33 wr=>∃k:Nat,s33= .int .i64 k∧k≤l.length∧Y3 l k=true∧Kept [] w wr) (fun s33 _=>l.length - (intOf s33).toNat)
  case atStart=>exact⟨0,rfl,Nat.zero_le _,rfl,kp⟩
  case round=>
   obtain⟨k,rfl,hk,hg,hkr⟩:=hrel
   have HG:=hh hg
   have HK3:=hh hkr
   haveI p_w3:Zb wr w:=⟨hkr⟩
   clear hg hkr p_w2
   obtain⟨w3,rfl⟩:∃w3:World,w3=wr:=⟨_,rfl⟩
   by_cases hlt:k < l.length
   ·obtain⟨a,ha⟩:∃a,l[k]? =some a:=⟨_,List.getElem?_eq_getElem hlt⟩
    have HM:Hid (a∈l):=List.mem_of_getElem? ha
    have HGK:Hid (Y3 l (k+1)= !ZpB l.length k a):=by rw[Hid,HB.out k a ha,HG.out,Bool.true_and]
    have HBA:Hid (ZpB l.length k a=(decide (0 < a.2.1.length) && (!J7 a.2.1 || (decide ((a.2.1.headD ZeS).1=3) && decide ((k:Int) < (l.length:Int) - 1))))):=rfl
    obtain⟨b,o,e0,hcx⟩:=HI.out.some_ ha
    obtain⟨rfl,rfl⟩:b0=b∧o0=o:=by cases e0;exact⟨rfl,rfl⟩
    haveI ia:QH w b0 (o0+k*10) a:=⟨hcx k a ha⟩
    have HRA:=hh (fun W (hk:Kept [] w W)=>HR.out W a HM.out hk)
    have HCA:=hh (HC.out a HM.out)
    have hca:=(HC.out a HM.out).2.1
    clear hcx ha e0
    obtain⟨a1,a2,a3,ax⟩:=a
    simp only at hca HCA HRA HBA
    cases a2 with
    | nil=>
     have HG2:Hid (Y3 l (k+1)=true):=by rw[Hid,HGK.out,HBA.out];rfl
     go_wp2_with fail
     go_roundw
     case rel=>exact⟨k+1,by go_num,by omega,HG2.out,kp⟩
     case measure=>simp[intOf];omega
    | cons c cr=>
     obtain⟨cb,co,rfl,hcc⟩:=HCA.out.1.some_ (j:=0) (x:=c) rfl
     have qcc:w.cell? ⟨cb,co,none⟩=some (.int .u8 c.1):=by have:=hcc 0 c rfl 0 _ rfl;simpa using this
     have qc3:=HK3.out.cell qcc (by simp)
     have hpos2:0 < (c::cr).length:=by simp
     clear hcc qcc
     cases hr:J7 (c::cr)
     ·have HW:Hid (ZV l=false):=by rw[Hid,HV.out];exact ZbK (k:=k+1) (by rw[HGK.out,HBA.out,hr];rfl) _ (by omega)
      rw[hr]at HRA
      go_wp2_with fail
      refine nxt (HRA.out _ kp) fun w5 p_w5=>?_;have hz_w5:=szk w w5
      go_wp2_with fail
      go_ret
      rw[HW.out]
      exact⟨rfl,kp⟩
     ·rw[hr]at HRA HBA
      replace HBA:Hid (ZpB l.length k (some ⟨cb,co,none⟩,c::cr,a3,ax)=(decide (c.1=3) && decide ((k:Int) < (l.length:Int) - 1))):=HBA.out
      by_cases h3:c.1=3
      ·by_cases hkl:(k:Int) < (l.length:Int) - 1
       ·have HW:Hid (ZV l=false):=by rw[Hid,HV.out];exact ZbK (k:=k+1) (by rw[HGK.out,HBA.out,decide_eq_true h3,decide_eq_true hkl];rfl) _ (by omega)
        have h3':(c.1 == 3)=true:=by simpa using h3
        clear h3
        go_wp2_with fail
        refine nxt (HRA.out _ kp) fun w5 p_w5=>?_;have hz_w5:=szk w w5
        have qc4:=Zb.kept.cell (Kept.cell (Kept.alloc [] _ _) qc3 (by simp)) (by simp) (w':=w5)
        go_wp2_with fail
        go_ret
        rw[HW.out]
        exact⟨rfl,kp⟩
       ·have HG2:Hid (Y3 l (k+1)=true):=by rw[Hid,HGK.out,HBA.out,decide_eq_false hkl,Bool.and_false];rfl
        have h3':(c.1 == 3)=true:=by simpa using h3
        have hkl2:decide ((k:Int) < (l.length:Int) - 1)=false:=decide_eq_false hkl
        clear h3
        go_wp2_with fail
        refine nxt (HRA.out _ kp) fun w5 p_w5=>?_;have hz_w5:=szk w w5
        have qc4:=Zb.kept.cell (Kept.cell (Kept.alloc [] _ _) qc3 (by simp)) (by simp) (w':=w5)
        go_wp2_with fail
        go_roundw
        case rel=>exact⟨k+1,by go_num,by omega,HG2.out,kp⟩
        case measure=>simp[intOf];omega
      ·have HG2:Hid (Y3 l (k+1)=true):=by rw[Hid,HGK.out,HBA.out,decide_eq_false h3];rfl
       have h3':(c.1 == 3)=false:=by simpa using h3
       clear h3
       go_wp2_with fail
       refine nxt (HRA.out _ kp) fun w5 p_w5=>?_;have hz_w5:=szk w w5
       have qc4:=Zb.kept.cell (Kept.cell (Kept.alloc [] _ _) qc3 (by simp)) (by simp) (w':=w5)
       go_wp2_with fail
       go_roundw
       case rel=>exact⟨k+1,by go_num,by omega,HG2.out,kp⟩
       case measure=>simp[intOf];omega
   ·obtain rfl:k=l.length:=by omega
    have HW:Hid (ZV l=true):=by rw[Hid,HV.out,HG.out]
    go_wp2_with fail
    go_ret
    rw[HW.out]
    exact⟨rfl,HK3.out⟩
 ·have e1':((l.length:Int) == 1)=false:=by simp;omega
  clear h1
  go_enter func180,ntmps180
  go_wp2_with fail
  refine nxt (HO.out _ kp) fun w2 p_w2=>?_;have hz_w2:=szk w w2
  go_upto_region 4 with(fail)
  go_loopw [33] (fun s33 wr=>∃k:Nat,s33= .int .i64 k∧k≤l.length∧Y3 l k=true∧Kept [] w wr) (fun s33 _=>l.length - (intOf s33).toNat)
  case atStart=>exact⟨0,rfl,Nat.zero_le _,rfl,kp⟩
  case round=>
   obtain⟨k,rfl,hk,hg,hkr⟩:=hrel
   have HG:=hh hg
   have HK3:=hh hkr
   haveI p_w3:Zb wr w:=⟨hkr⟩
   clear hg hkr p_w2
   obtain⟨w3,rfl⟩:∃w3:World,w3=wr:=⟨_,rfl⟩
   by_cases hlt:k < l.length
   ·obtain⟨a,ha⟩:∃a,l[k]? =some a:=⟨_,List.getElem?_eq_getElem hlt⟩
    have HM:Hid (a∈l):=List.mem_of_getElem? ha
    have HGK:Hid (Y3 l (k+1)= !ZpB l.length k a):=by rw[Hid,HB.out k a ha,HG.out,Bool.true_and]
    have HBA:Hid (ZpB l.length k a=(decide (0 < a.2.1.length) && (!J7 a.2.1 || (decide ((a.2.1.headD ZeS).1=3) && decide ((k:Int) < (l.length:Int) - 1))))):=rfl
    obtain⟨b,o,e0,hcx⟩:=HI.out.some_ ha
    obtain⟨rfl,rfl⟩:b0=b∧o0=o:=by cases e0;exact⟨rfl,rfl⟩
    haveI ia:QH w b0 (o0+k*10) a:=⟨hcx k a ha⟩
    have HRA:=hh (fun W (hk:Kept [] w W)=>HR.out W a HM.out hk)
    have HCA:=hh (HC.out a HM.out)
    have hca:=(HC.out a HM.out).2.1
    clear hcx ha e0
    obtain⟨a1,a2,a3,ax⟩:=a
    simp only at hca HCA HRA HBA
    cases a2 with
    | nil=>
     have HG2:Hid (Y3 l (k+1)=true):=by rw[Hid,HGK.out,HBA.out];rfl
     go_wp2_with fail
     go_roundw
     case rel=>exact⟨k+1,by go_num,by omega,HG2.out,kp⟩
     case measure=>simp[intOf];omega
    | cons c cr=>
     obtain⟨cb,co,rfl,hcc⟩:=HCA.out.1.some_ (j:=0) (x:=c) rfl
     have qcc:w.cell? ⟨cb,co,none⟩=some (.int .u8 c.1):=by have:=hcc 0 c rfl 0 _ rfl;simpa using this
     have qc3:=HK3.out.cell qcc (by simp)
     have hpos2:0 < (c::cr).length:=by simp
     clear hcc qcc
     cases hr:J7 (c::cr)
     ·have HW:Hid (ZV l=false):=by rw[Hid,HV.out];exact ZbK (k:=k+1) (by rw[HGK.out,HBA.out,hr];rfl) _ (by omega)
      rw[hr]at HRA
      go_wp2_with fail
      refine nxt (HRA.out _ kp) fun w5 p_w5=>?_;have hz_w5:=szk w w5
      go_wp2_with fail
      go_ret
      rw[HW.out]
      exact⟨rfl,kp⟩
     ·rw[hr]at HRA HBA
      replace HBA:Hid (ZpB l.length k (some ⟨cb,co,none⟩,c::cr,a3,ax)=(decide (c.1=3) && decide ((k:Int) < (l.length:Int) - 1))):=HBA.out
      by_cases h3:c.1=3
      ·by_cases hkl:(k:Int) < (l.length:Int) - 1
       ·have HW:Hid (ZV l=false):=by rw[Hid,HV.out];exact ZbK (k:=k+1) (by rw[HGK.out,HBA.out,decide_eq_true h3,decide_eq_true hkl];rfl) _ (by omega)
        have h3':(c.1 == 3)=true:=by simpa using h3
        clear h3
        go_wp2_with fail
        refine nxt (HRA.out _ kp) fun w5 p_w5=>?_;have hz_w5:=szk w w5
        have qc4:=Zb.kept.cell (Kept.cell (Kept.alloc [] _ _) qc3 (by simp)) (by simp) (w':=w5)
        go_wp2_with fail
        go_ret
        rw[HW.out]
        exact⟨rfl,kp⟩
       ·have HG2:Hid (Y3 l (k+1)=true):=by rw[Hid,HGK.out,HBA.out,decide_eq_false hkl,Bool.and_false];rfl
        have h3':(c.1 == 3)=true:=by simpa using h3
        have hkl2:decide ((k:Int) < (l.length:Int) - 1)=false:=decide_eq_false hkl
        clear h3
        go_wp2_with fail
        refine nxt (HRA.out _ kp) fun w5 p_w5=>?_;have hz_w5:=szk w w5
        have qc4:=Zb.kept.cell (Kept.cell (Kept.alloc [] _ _) qc3 (by simp)) (by simp) (w':=w5)
        go_wp2_with fail
        go_roundw
        case rel=>exact⟨k+1,by go_num,by omega,HG2.out,kp⟩
        case measure=>simp[intOf];omega
      ·have HG2:Hid (Y3 l (k+1)=true):=by rw[Hid,HGK.out,HBA.out,decide_eq_false h3];rfl
       have h3':(c.1 == 3)=false:=by simpa using h3
       clear h3
       go_wp2_with fail
       refine nxt (HRA.out _ kp) fun w5 p_w5=>?_;have hz_w5:=szk w w5
       have qc4:=Zb.kept.cell (Kept.cell (Kept.alloc [] _ _) qc3 (by simp)) (by simp) (w':=w5)
       go_wp2_with fail
       go_roundw
       case rel=>exact⟨k+1,by go_num,by omega,HG2.out,kp⟩
       case measure=>simp[intOf];omega
   ·obtain rfl:k=l.length:=by omega
    have HW:Hid (ZV l=true):=by rw[Hid,HV.out,HG.out]
    go_wp2_with fail
    go_ret
    rw[HW.out]
    exact⟨rfl,HK3.out⟩
end
end Go.Proofs.YtfaecpkocgcofaaGreatDoor
