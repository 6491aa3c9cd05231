/- Lemmas for ResolveSettles, printed small: K22 K11 K12 S4 S5 V1. -/
import Derived.Test.YtfaecpkocgcofaaGreatDoorZ5
set_option linter.all false
set_option maxRecDepth 100000
set_option maxHeartbeats 8000000
open Go.Proofs.Tryz
namespace Go.Proofs.YtfaecpkocgcofaaGreatDoor
section
open Go.RowKit
section
variable {P:Program} {md:Region.Mode} {ops:Array Oper} {Q:Exit→Act→World→Prop} {w0:World}
def ZnM (md:Region.Mode) (ops:Array Oper) (hd:List Nat) (i:Nat):Bool:=(List.range ops.size).all fun t=>hd.contains t || ZpF md ops 12 t i
theorem Zbc {i:Nat} {done:Array Bool} {hd:List Nat} (h:ZnM md ops hd i=true) (hc:Qa md ops done) (hun:done.getD i true=false):∀t,t∉hd→t∉Region.ready md ops done:=fun t ht hr=>by
 obtain⟨_,ot,hot,_⟩:=mem_ready.1 hr
 have:=List.all_eq_true.1 h t (List.mem_range.2 (Array.getElem?_eq_some_iff.1 hot).1)
 simp only[Bool.or_eq_true]at this
 rcases this with h1 | h1
 ·exact ht (by simpa using h1)
 ·exact Zc5 hc hun h1 hr
def Zik (l:List Oper) (S:List PSp) (size:Nat):Bool:=
 decide (S.length≤l.length) && ZlH S l && (S.all fun s=>decide (s.d < size)) && QC (S.map (·.d)) && ZlK .any S S l &&
 ((List.range S.length).all fun i=>ZnM .any l.toArray (List.range S.length) i) && ZfR .any 0 (l.take S.length) &&
 ZhJ .any l.toArray (List.range' S.length (l.length - S.length)) (Zhr S.length l.length)
end
section
variable {P:Program} {T K E:TypeId} {d:TypeDesc}
theorem Zki (w:World) (o o':Obj):({w.alloc o with heap:=(w.alloc o).heap.setIfInBounds w.heap.size o'}:World)=w.alloc o':=by
 have:(w.heap.push o).setIfInBounds w.heap.size o'=w.heap.push o':=by
  apply Array.ext
  ·simp
  ·intro i h1 h2
   rw[Array.getElem_setIfInBounds (by simpa using h1)]
   by_cases e:w.heap.size=i
   ·subst e;simp
   ·have:i < w.heap.size:=by simp at h1;omega
    simp[e,Array.getElem_push,this]
 show({w with heap:=(w.heap.push o).setIfInBounds w.heap.size o'}:World)={w with heap:=w.heap.push o'}
 rw[this]
def JV (d:TypeDesc) (k:Value):Bool:=match d,k with | .string,.string _=>true | .int _,.int _ _=>true | _,_=>false
theorem YU {e:Bool} {n:Nat} {k:Value} (w:World) (hK:P.underlying K=some d) (hk:JV d k=true):(Instr.checkKey e (n+1) K k).run P w= .ok () w:=by
 unfold Instr.checkKey
 simp only[Sem.run_bind,run_underlying hK,Result.andThen_ok]
 unfold JV at hk
 split at hk <;> first | rfl | cases hk
theorem ZcT (w:World) (hT:P.underlying T=some (.map K E)) (hK:P.underlying K=some d) (r:Nat) (hr:r=w.heap.size) (es:Array MapEntry) (c:Nat) (key v:Value) (hk:JV d key=true) (hf:Instr.findNow d key es.toList 0=some none):
 (Instr.mapUpdate T (.map (some r)) key v).run P (w.alloc (.map es c))= .ok () (w.alloc (.map (es.push {key:=key,val:=v,born:=c}) (c+1))):=by
 subst hr
 have hb:=heap_alloc_new w (.map es c)
 unfold Instr.mapUpdate
 simp only[Sem.run_bind,run_underlying hT,Result.andThen_ok,getObj,Sem.run,hb,YU _ hK hk,Instr.findKey,run_underlying hK,hf,Sem.run_pure,setObj]
 rw[Zki]
theorem Jk (w:World) (hT:P.underlying T=some (.map K E)) (hK:P.underlying K=some d) {z:Value} (hz:(zeroValue E).run P w= .ok z w) (r:Nat) (es:Array MapEntry) (c:Nat) (hb:w.heap[r]? =some (.map es c)) (key:Value) (hk:JV d key=true) (q:Option (Nat×Value)) (hf:Instr.findNow d key es.toList 0=some q):
 (Instr.lookup T (.map (some r)) key true).run P w= .ok (.tuple #[(q.map (·.2)).getD z,.bool q.isSome]) w:=by
 unfold Instr.lookup
 simp only[Sem.run_bind,run_underlying hT,Result.andThen_ok,getObj,Sem.run,hb,YU _ hK hk,Instr.findKey,run_underlying hK,hf,Sem.run_pure]
 cases q with
 | none=>simp[hz]
 | some x=>simp
end
@[go_sem] theorem ExV.len' (x:ExV):x.cells.length=9:=rfl
@[go_sem high] theorem Tryz.storeEx (x:ExV) (w:World) (k:Nat) (hk:k=w.heap.size):Sem.run prog (storeCells ⟨k,0,none⟩ x.cells)
 (w.alloc (.cells #[.int .u8 0,.int .u8 0,.int .i64 0,.string ⟨#[]⟩,.slice none 0 0,.slice none 0 0,.int .i64 0,.int .i64 0,.int .i64 0] 41))= .ok () (w.alloc (.cells x.cells.toArray 41)):=by
 subst hk
 exact run_storeCells_new w 41 _ x.cells.toArray (by simpa using Tryz.infoEx x) (by simp[ExV.cells]) x.one
@[go_sem] theorem Tryz.mkMap (t:TypeId) (w:World):(Instr.makeMap t none).run prog w= .ok (.map (some w.heap.size)) (w.alloc (.map #[] 0)):=rfl
theorem Tryz.infoSh2:(prog.info? 215).map (·.size)=some 2:=by kernel_rfl
instance (w:World) (B:Nat) (cs:Array Value) [h:Zc w B 215 cs] [n:ZeN cs 2]:Ya w 215 ⟨B,0,none⟩ (.agg cs):=⟨by
 have:=run_loadVar_mid (P:=prog) w B 0 215 cs.toList _ (ZR (by simpa using h.has)) underlying215 rfl (by rw[Tryz.infoSh2];simp[n.len])
 simpa using this⟩
class Y6 (w:World) (r:Nat) (es:outParam (Array MapEntry)) (c:outParam Nat):Prop where
 has:w.heap[r]? =some (.map es c)
instance (w:World) (k:Nat) (es:Array MapEntry) (c:Nat) [h:Jh w k]:Y6 (w.alloc (.map es c)) k es c:=⟨Zf h.size.symm⟩
instance (w:World) (r:Nat) (es:Array MapEntry) (c:Nat) (ob:Obj) [h:Y6 w r es c]:Y6 (w.alloc ob) r es c:=⟨Zr h.has (Array.getElem?_eq_some_iff.1 h.has).1⟩
instance (w:World) (r:Nat) (es:Array MapEntry) (c:Nat) [h:Y6 w r es c]:Y6 w.drew r es c:=⟨h.has⟩
instance (w w':World) (r:Nat) (es:Array MapEntry) (c:Nat) [p:Zb w' w] [h:Y6 w r es c]:Y6 w' r es c:=⟨p.kept.obj h.has (by simp)⟩
instance (w:World) (U:World→Prop) (r:Nat) (es:Array MapEntry) (c:Nat) (z:Zs w U) [h:Y6 w r es c]:Y6 z.1 r es c:=⟨z.2.1.obj h.has (by simp)⟩
def QY (w:World) (r:Nat) (o:Obj):World:={w with heap:=w.heap.setIfInBounds r o}
theorem Zb7 {w:World} {r:Nat} {o:Obj} (h:r < w.heap.size):(QY w r o).heap[r]? =some o:=by simp[QY,h]
theorem Zbl {w:World} {r k:Nat} {o:Obj} (h:r≠k):(QY w r o).heap[k]? =w.heap[k]? :=by simp[QY,Array.getElem?_setIfInBounds_ne h]
theorem Kept.map' {w w':World} (h:Kept [] w w') (r:Nat) (o:Obj) (hr:w.heap.size≤r):Kept [] w (QY w' r o):=
 ⟨h.os,h.tape,h.output,by simpa [QY]using h.size,fun k hk hx=>by
  rw[Zbl (by omega)]
  exact h.block k hk hx⟩
instance (w:World) (k r:Nat) (o:Obj) [h:Jh w k]:Jh (QY w r o) k:=⟨by simpa [QY]using h.size⟩
instance (w:World) (r:Nat) (es es':Array MapEntry) (c c':Nat) [h:Y6 w r es c]:Y6 (QY w r (.map es' c')) r es' c':=⟨Zb7 (Array.getElem?_eq_some_iff.1 h.has).1⟩
instance (w:World) (r B:Nat) (es:Array MapEntry) (c:Nat) (o:Obj) (ty:TypeId) (cs:Array Value) [h:Zc w B ty cs] [m:Y6 w r es c]:Zc (QY w r o) B ty cs:=⟨by
 rw[Zbl (fun e=>by have h1:=h.has;rw[←e,m.has]at h1;cases h1)]
 exact h.has⟩
def Js (m k x:Value):Sem Next:=do Instr.mapUpdate 281 m k x;pure .skip
@[go_sem ↓] theorem Zlh (ρ:Operand→Value) (dst:Option Tmp) (m k x:Operand) (ty:TypeId) (pos:String) (after:Array Edge) (guard:Option (Nat×Bool)):
 execOp ρ {dst,op:= .insert 281 m k x,type:=ty,pos,after,guard}=Js (ρ m) (ρ k) (ρ x):=rfl
theorem YT {w:World} {r:Nat} {es:Array MapEntry} {c:Nat} {key:ByteArray} {v:Value} (hr:r=w.heap.size) (hf:Instr.findNow .string (.string key) es.toList 0=some none):
 Sem.run prog (Js (.map (some r)) (.string key) v) (w.alloc (.map es c))= .ok .skip (w.alloc (.map (es.push {key:= .string key,val:=v,born:=c}) (c+1))):=by
 simp only[Js,Sem.run_bind,ZcT w underlying281 underlying9 r hr es c (.string key) v rfl hf,Result.andThen_ok,Sem.run_pure]
@[go_sem] theorem Zm5 (w:World) (r:Nat) (v:Value) (hr:r=w.heap.size):Sem.run prog (Js (.map (some r)) (.string ⟨#[80,111,115]⟩) v) (w.alloc (.map #[] 0))= .ok .skip (w.alloc (.map #[⟨.string ⟨#[80,111,115]⟩,v,0⟩] 1)):=YT hr rfl
@[go_sem] theorem Zm4 (w:World) (r:Nat) (v v0:Value) (hr:r=w.heap.size):Sem.run prog (Js (.map (some r)) (.string ⟨#[86,97,108]⟩) v) (w.alloc (.map #[⟨.string ⟨#[80,111,115]⟩,v0,0⟩] 1))= .ok .skip (w.alloc (.map #[⟨.string ⟨#[80,111,115]⟩,v0,0⟩,⟨.string ⟨#[86,97,108]⟩,v,1⟩] 2)):=YT hr rfl
@[go_sem] theorem Zm3 (w:World) (r:Nat) (v v0 v1:Value) (hr:r=w.heap.size):Sem.run prog (Js (.map (some r)) (.string ⟨#[83,117,99,99]⟩) v) (w.alloc (.map #[⟨.string ⟨#[80,111,115]⟩,v0,0⟩,⟨.string ⟨#[86,97,108]⟩,v1,1⟩] 2))= .ok .skip (w.alloc (.map #[⟨.string ⟨#[80,111,115]⟩,v0,0⟩,⟨.string ⟨#[86,97,108]⟩,v1,1⟩,⟨.string ⟨#[83,117,99,99]⟩,v,2⟩] 3)):=YT hr rfl
@[go_sem] theorem Zm2 (w:World) (r:Nat) (v v0 v1 v2:Value) (hr:r=w.heap.size):Sem.run prog (Js (.map (some r)) (.string ⟨#[80,114,101,100]⟩) v) (w.alloc (.map #[⟨.string ⟨#[80,111,115]⟩,v0,0⟩,⟨.string ⟨#[86,97,108]⟩,v1,1⟩,⟨.string ⟨#[83,117,99,99]⟩,v2,2⟩] 3))= .ok .skip (w.alloc (.map #[⟨.string ⟨#[80,111,115]⟩,v0,0⟩,⟨.string ⟨#[86,97,108]⟩,v1,1⟩,⟨.string ⟨#[83,117,99,99]⟩,v2,2⟩,⟨.string ⟨#[80,114,101,100]⟩,v,3⟩] 4)):=YT hr rfl
def ZaH (m k:Value):Sem Next:=do return .value (←Instr.lookup 281 m k true)
@[go_sem ↓] theorem Zjx (ρ:Operand→Value) (dst:Option Tmp) (m k:Operand) (ty:TypeId) (pos:String) (after:Array Edge) (guard:Option (Nat×Bool)):
 execOp ρ {dst,op:= .lookup 281 m k true,type:=ty,pos,after,guard}=ZaH (ρ m) (ρ k):=rfl
def shX (s:ByteArray):(Int×Bool)×Bool:=
 if s=Zs4 then((0,false),true)else if s=Zs3 then((0,true),true)else if s=ZmZ then((1,true),true)else if s=Zm0 then((-1,true),true)else((0,false),false)
theorem Ze9 (s:ByteArray):Ze8 s=if(shX s).2 then some (shX s).1 else none:=by
 unfold Ze8 shX
 split
 ·rfl
 split
 ·rfl
 split
 ·rfl
 split <;> rfl
theorem ZsI (a b:ByteArray):(a == b)=decide (a=b):=by
 rw[Bool.eq_iff_iff,decide_eq_true_eq]
 constructor
 ·intro h
  have h:(a.data == b.data)=true:=h
  cases a;cases b
  simpa using h
 ·rintro rfl
  show(a.data == a.data)=true
  simp
theorem Tryz.zeroShift (w:World):(zeroValue 215).run prog w= .ok (.agg #[.int .i64 0,.bool false]) w:=by kernel_rfl
@[go_sem] theorem Zm1 (w:World) (r:Nat) (s:ByteArray) [h:Y6 w r #[⟨.string ⟨#[80,111,115]⟩,.agg #[.int .i64 0,.bool false],0⟩,⟨.string ⟨#[86,97,108]⟩,.agg #[.int .i64 0,.bool true],1⟩,⟨.string ⟨#[83,117,99,99]⟩,.agg #[.int .i64 1,.bool true],2⟩,⟨.string ⟨#[80,114,101,100]⟩,.agg #[.int .i64 (-1),.bool true],3⟩] 4]:
 Sem.run prog (ZaH (.map (some r)) (.string s)) w= .ok (.value (.tuple #[.agg #[.int .i64 (shX s).1.1,.bool (shX s).1.2],.bool (shX s).2])) w:=by
 have key:∀q,Instr.findNow .string (.string s) [⟨.string Zs4,.agg #[.int .i64 0,.bool false],0⟩,⟨.string Zs3,.agg #[.int .i64 0,.bool true],1⟩,⟨.string ZmZ,.agg #[.int .i64 1,.bool true],2⟩,⟨.string Zm0,.agg #[.int .i64 (-1),.bool true],3⟩] 0=some q→
  Sem.run prog (ZaH (.map (some r)) (.string s)) w= .ok (.value (.tuple #[(q.map (·.2)).getD (.agg #[.int .i64 0,.bool false]),.bool q.isSome])) w:=fun q hq=>by
  simp only[ZaH,Sem.run_bind,Jk w underlying281 underlying9 (Tryz.zeroShift w) r _ 4 h.has (.string s) rfl q hq,Result.andThen_ok,Sem.run_pure]
 by_cases h1:s=Zs4
 ·subst h1
  exact key (some (0,.agg #[.int .i64 0,.bool false])) rfl
 by_cases h2:s=Zs3
 ·subst h2
  exact key (some (1,.agg #[.int .i64 0,.bool true])) rfl
 by_cases h3:s=ZmZ
 ·subst h3
  exact key (some (2,.agg #[.int .i64 1,.bool true])) rfl
 by_cases h4:s=Zm0
 ·subst h4
  exact key (some (3,.agg #[.int .i64 (-1),.bool true])) rfl
 rw[key none (by simp[Instr.findNow,Instr.sameNow,ZsI,h1,h2,h3,h4])]
 simp[shX,h1,h2,h3,h4]
theorem Zkq (t:Tab) (n:Int):Yp t n=if(Zay t n).1.kind=2∨(Zay t n).1.kind=3 then some ((Zay t n).2.1.lo,(Zay t n).2.1.hi)else none:=by
 unfold Yp Zi0 tyP Zay Zju tyO Zc8
 by_cases h1:n < 0∨(t.subs.length:Int)≤n
 ·simp[h1,YE,TyV.kind]
 ·simp only[if_neg h1]
  by_cases h2:(t.subs.getD n.toNat default).t < 0∨(t.types.length:Int)≤(t.subs.getD n.toNat default).t
  ·simp only[if_pos h2]
   simp[YE,TyV.kind]
  ·simp only[if_neg h2]
theorem Zji (w:World) (v:Zp) (t:Tab) (n:Int) (hT:Zw w v t):Calls prog 262 #[.agg (v.cells t),.int .i64 n] w (ZE (ZsJ (Yp t n)) w):=by
 have HC:=hh (fun w' (hk:Kept [] w w')=>Zp2 w' v t n (hT.kept hk))
 have HV:=hh (Zkq t n)
 unfold Zp.cells at*
 clear hT
 go_enter func262,ntmps262
 go_wp2_with fail
 refine(HC.out _ kp).mono ?_
 rintro e w1 ⟨rfl,hk1⟩
 have HK:Hid (Kept [] w w1):=Kept.trans kp hk1
 clear hk1 HC
 have hz1:=HK.out.size
 unfold ZtI Zrm
 generalize (Zay t n).1=y at*
 generalize (Zay t n).2.1=s at*
 generalize (Zay t n).2.2=ok at*
 by_cases k2:y.kind=2
 ·have HW:Hid (Yp t n=some (s.lo,s.hi)):=by rw[Hid,HV.out];simp[k2]
  clear HV
  go_wp2_with fail
  go_region
  go_wp2_with fail
  rw[HW.out]
  exact Za rfl (ZgM results262 (Zh rfl) (Zh rfl) (Zh rfl)) kp
 by_cases k3:y.kind=3
 ·have HW:Hid (Yp t n=some (s.lo,s.hi)):=by rw[Hid,HV.out];simp[k3]
  clear HV
  go_wp2_with fail
  go_region
  go_wp2_with fail
  rw[HW.out]
  exact Za rfl (ZgM results262 (Zh rfl) (Zh rfl) (Zh rfl)) kp
 have HW:Hid (Yp t n=none):=by rw[Hid,HV.out];simp[k2,k3]
 have k2':(y.kind != 2)=true:=by simp[k2]
 have k3':(y.kind != 3)=true:=by simp[k3]
 clear HV k2 k3
 go_wp2_with fail
 rw[HW.out]
 exact Za rfl (ZgM results262 (Zh rfl) (Zh rfl) (Zh rfl)) kp
theorem Zks (w:World) (v:Zp) (t:Tab) (n:Int) (hT:Zw w v t):Calls prog 197 #[.agg (v.cells t),.int .i64 n] w (ZE (ZsJ (Yp t n)) w):=by
 have HC:=hh (fun w' (hk:Kept [] w w')=>Zji w' v t n (hT.kept hk))
 unfold Zp.cells at*
 clear hT
 go_enter func197,ntmps197
 go_wp2_with fail
 refine(HC.out _ kp).mono ?_
 rintro e w1 ⟨rfl,hk1⟩
 have HK:Hid (Kept [] w w1):=Kept.trans kp hk1
 clear hk1 HC
 unfold ZsJ
 generalize Yp t n=r at*
 go_wp2_with fail
 exact Za rfl (ZgM results197 (Zh rfl) (Zh rfl) (Zh rfl)) kp
def Qs (t:Tab) (n:Int):Bd×Bd×Bool:=
 match Yp t n with
 | none=>((0,0),(0,0),false)
 | some b=>(b,(ZU t (Zc8 t n).t).getD (0,0),(ZU t (Zc8 t n).t).isSome)
def pvV (r:Bd×Bd×Bool):Value:= .tuple #[.agg #[.int .i64 r.1.1,.int .i64 r.1.2],.agg #[.int .i64 r.2.1.1,.int .i64 r.2.1.2],.bool r.2.2]
def bvV (r:Bd×Bool):Value:= .tuple #[.agg #[.int .i64 r.1.1,.int .i64 r.1.2],.bool r.2]
theorem ZaB (t:Tab) (n:Int):(Qs t n).2.2=(JB t n).isSome:=by
 unfold Qs JB
 cases Yp t n with
 | none=>rfl
 | some b=>cases h:ZU t (Zc8 t n).t <;> simp[h]
theorem Zah {t:Tab} {n:Int} {b a:Bd} (h:JB t n=some (b,a)):Qs t n=(b,a,true):=by
 unfold Qs JB at*
 cases hr:Yp t n with
 | none=>rw[hr]at h;cases h
 | some c=>
  rw[hr]at h
  cases hs:ZU t (Zc8 t n).t with
  | none=>simp[hs]at h
  | some d=>simp[hs]at h;simp[hs,h]
theorem ZiP {t:Tab} {n:Int} {b:Bd} (h:Yp t n=some b):∃m:Nat,n=(m:Int)∧m < t.subs.length∧b=((Zc8 t n).lo,(Zc8 t n).hi):=by
 unfold Yp at h
 split at h
 ·rename_i hk
  injection h with h
  by_cases h1:n < 0∨(t.subs.length:Int)≤n
  ·have:Zi0 t n=0:=by simp[Zi0,tyP,h1]
   rw[this]at hk
   simp at hk
  ·exact⟨n.toNat,by omega,by omega,h.symm⟩
 ·cases h
theorem ZaA (w:World) (v:Zp) (t:Tab) (n:Int) (hT:Zw w v t):Calls prog 148 #[.agg (v.cells t),.int .i64 n] w (ZE (pvV (Qs t n)) w):=by
 have HT:=hh hT
 have HC:=hh (fun w' (hk:Kept [] w w')=>Zks w' v t n (hT.kept hk))
 have HS:=hh (fun w' m (hk:Kept [] w w')=>QF w' v t m (hT.kept hk))
 unfold Zp.cells at HC HS
 unfold Zp.cells
 clear hT
 go_enter func148,ntmps148
 go_wp2_with fail
 refine(HC.out _ kp).mono ?_
 rintro e w1 ⟨rfl,hk1⟩
 haveI b2:Zc w1 w.heap.size _ _:=Zc.kept (by infer_instance) hk1
 haveI b4:Zc w1 (w.heap.size+1) _ _:=Zc.kept (by infer_instance) hk1
 haveI b5:Zc w1 (w.heap.size+1+1) _ _:=Zc.kept (by infer_instance) hk1
 have HK:Hid (Kept [] w w1):=Kept.trans kp hk1
 clear hk1 HC
 have hz1:=HK.out.size
 cases hr:Yp t n with
 | none=>
  have HW:Hid (Qs t n=((0,0),(0,0),false)):=by rw[Hid,Qs,hr]
  clear hr
  unfold ZsJ
  go_wp2_with fail
  go_region
  go_wp2_with fail
  rw[HW.out]
  exact Za rfl (ZgM results148 (Z0 rfl inferInstance) (Z0 rfl inferInstance) (Zh rfl)) kp
 | some b=>
  obtain⟨m,rfl,hm,hb⟩:=ZiP hr
  have HR:=hh hr
  clear hr hb
  obtain⟨s,bs,os,hs,ha,hat,_⟩:=Zb4 (HT.out.kept HK.out) hm
  have HU:Hid (Zc8 t (m:Int)=s):=by simp[Hid,Zc8,List.getD_eq_getElem?_getD,hs]
  have hm2:(m:Int) < (t.subs.length:Int):=by omega
  rw[ha]at b2 HS
  unfold bdV at HS
  clear hs ha HT
  unfold ZsJ
  simp only[Option.getD_some,Option.isSome_some]
  go_wp2_with fail
  refine Ze 12 0 (fun _=> .cells #[] 0) (by kernel_rfl) (by kernel_rfl) (fun i o h1 h2=>by omega) (fun _ _ _ _ _ h=>h) ?_
  apply Exists.intro
  refine⟨fun U hU hN=>?_,?_⟩
  ·simp only[List.take_succ_cons,List.take_zero]
   repeat(go_big_quiet_step (exact Calls.headV hU (HS.out _ _ (HK.out.trans (Zs.prop _)))))
   refine wpQuiet_nil ?_
   exact rfl
  ·simp only[List.drop_succ_cons,List.drop_zero,List.take_zero]
   intro w2 hk2 _
   have HW:Hid (Qs t (m:Int)=(b,(ZU t s.t).getD (0,0),(ZU t s.t).isSome)):=by
    rw[Hid,Qs,HR.out,HU.out]
   haveI c4:Zc w2 (w.heap.size+1) _ _:=Zc.kept (by infer_instance) hk2
   haveI c5:Zc w2 (w.heap.size+1+1) _ _:=Zc.kept (by infer_instance) hk2
   have HK0:=HK
   clear HK
   have HK:Hid (Kept [] w w2):=HK0.out.trans hk2
   clear hk2 HK0 b2 b4 b5 hat HS HR HU
   go_wp2_with fail
   go_region
   go_wp2_with fail
   rw[HW.out]
   exact Za rfl (ZgM results148 (Z0 rfl inferInstance) (Z0 rfl inferInstance) (Zh rfl)) kp
def ZqQ (x:Zx):Value:= .agg x.cells.toArray
theorem Zb5 {w:World} {v:Zp} {t:Tab} (hT:Zw w v t) {n:Nat} (h:n < t.ents.length):
 ∃x b o,t.ents[n]? =some x∧v.ea=some ⟨b,o,none⟩∧YO w b (o+n*22) x∧(-9223372036854775808≤x.value∧x.value≤9223372036854775807):=by
 obtain⟨x,hx⟩:∃x,t.ents[n]? =some x:=⟨_,List.getElem?_eq_getElem h⟩
 obtain⟨b,o,ha,hr⟩:=hT.es.some_ hx
 exact⟨x,b,o,hx,ha,⟨hr n x hx⟩,hT.eb x (List.mem_of_getElem? hx)⟩
theorem ZlE {t:Tab} {e:Int} (h:e < 0∨(t.ents.length:Int)≤e):Yn t e=Yu:=by unfold Yn;rw[if_pos h]
theorem Zss {t:Tab} {n:Nat} {x:Zx} (h:t.ents[n]? =some x):Yn t (n:Int)=x:=by
 have hl:=(List.getElem?_eq_some_iff.1 h).1
 unfold Yn
 rw[if_neg (by omega)]
 simp[List.getD_eq_getElem?_getD,h]
theorem YK (w:World) (v:Zp) (t:Tab) (x:ExV) (hT:Zw w v t):Calls prog 141 #[.agg (v.cells t),.agg x.cells.toArray] w (ZE (ZqQ (Yn t x.ent)) w):=by
 have HT:=hh hT
 have q1:=hT.el
 clear hT
 unfold Zp.cells
 generalize he:x.ent=e
 by_cases h0:e < 0
 ·have HR:Hid (Yn t e=Yu):=ZlE (.inl h0)
  go_enter func141,ntmps141
  go_wp2_with fail
  rw[HR.out]
  exact Za rfl (Zj results141 (Z0 rfl inferInstance)) kp
 obtain⟨n,rfl⟩:=Int.eq_ofNat_of_zero_le (by omega:0≤e)
 by_cases h1:t.ents.length≤n
 ·have HR:Hid (Yn t (n:Int)=Yu):=ZlE (.inr (by omega))
  have h2:(t.ents.length:Int)≤(n:Int):=by omega
  go_enter func141,ntmps141
  go_wp2_with fail
  rw[HR.out]
  exact Za rfl (Zj results141 (Z0 rfl inferInstance)) kp
 obtain⟨y,b,o,hy,ha,hat,_⟩:=Zb5 HT.out (by omega:n < t.ents.length)
 have HR:=hh (Zss hy)
 have h2:(n:Int) < (t.ents.length:Int):=by omega
 rw[ha]
 clear hy ha
 go_enter func141,ntmps141
 go_wp2_with fail
 rw[HR.out]
 exact Za rfl (Zj results141 (Z0 rfl inferInstance)) kp
theorem Zfv (w:World) (x:ExV):Calls prog 195 #[.agg x.cells.toArray] w (ZE (.bool (Yz x)) w):=by
 have HV:Hid (Yz x=(x.kind == 3 || x.kind == 4)):=rfl
 cases e:(x.kind == 3)
 ·rw[e]at HV
  go_enter func195,ntmps195
  go_wp2_with fail
  rw[HV.out]
  exact Za rfl (Zj results195 (Zh rfl)) kp
 ·rw[e]at HV
  go_enter func195,ntmps195
  go_wp2_with fail
  rw[HV.out]
  exact Za rfl (Zj results195 (Zh rfl)) kp
theorem Zb2 (w:World) (x:Zx):Calls prog 194 #[.agg x.cells.toArray] w (ZE (.bool (Yo x)) w):=by
 have HV:Hid (Yo x=(x.kind == 5 || x.kind == 6)):=rfl
 cases e:(x.kind == 5)
 ·rw[e]at HV
  go_enter func194,ntmps194
  go_wp2_with fail
  rw[HV.out]
  exact Za rfl (Zj results194 (Zh rfl)) kp
 ·rw[e]at HV
  go_enter func194,ntmps194
  go_wp2_with fail
  rw[HV.out]
  exact Za rfl (Zj results194 (Zh rfl)) kp
def Yr (t:Tab) (x:ExV):Bd×Bd×Bool:=if Yz x && Yo (Yn t x.ent)then Qs t (Yn t x.ent).sub else((0,0),(0,0),false)
theorem ZaG (t:Tab) (x:ExV):(Yr t x).2.2=(Jq t x).isSome:=by
 unfold Yr Jq
 split
 ·exact ZaB _ _
 ·rfl
theorem JX {t:Tab} {x:ExV} {b a:Bd} (h:Jq t x=some (b,a)):Yr t x=(b,a,true):=by
 unfold Yr Jq at*
 split at h
 ·rename_i hc
  rw[if_pos hc]
  exact Zah h
 ·cases h
theorem Jp (w:World) (v:Zp) (t:Tab) (x:ExV) (hT:Zw w v t):Calls prog 144 #[.agg (v.cells t),.agg x.cells.toArray] w (ZE (pvV (Yr t x)) w):=by
 have HC:=hh (fun w' (hk:Kept [] w w')=>YK w' v t x (hT.kept hk))
 have HP:=hh (fun w' m (hk:Kept [] w w')=>ZaA w' v t m (hT.kept hk))
 have HV:Hid (Yr t x=if Yz x && Yo (Yn t x.ent)then Qs t (Yn t x.ent).sub else((0,0),(0,0),false)):=rfl
 unfold Zp.cells at*
 clear hT
 go_enter func144,ntmps144
 go_wp2_with fail
 refine nxt (HC.out _ kp) fun w1 p_w1=>?_;have hz_w1:=szk w w1
 clear HC
 generalize Yn t x.ent=y at*
 unfold ZqQ
 go_wp2_with fail
 refine nxt (Zfv _ _) fun w2 p_w2=>?_;have hz_w2:=szk w w2
 cases hn:Yz x
 ·have HW:Hid (Yr t x=((0,0),(0,0),false)):=by rw[Hid,HV.out,hn];rfl
  clear hn HV HP
  go_wp2_with fail
  go_region
  go_wp2_with fail
  rw[HW.out]
  exact Za rfl (ZgM results144 (Z0 rfl inferInstance) (Z0 rfl inferInstance) (Zh rfl)) kp
 rw[hn]at HV
 clear hn
 go_wp2_with fail
 refine nxt (Zb2 _ _) fun w3 p_w3=>?_;have hz_w3:=szk w w3
 cases hn:Yo y
 ·have HW:Hid (Yr t x=((0,0),(0,0),false)):=by rw[Hid,HV.out,hn];rfl
  clear hn HV HP
  go_wp2_with fail
  go_region
  go_wp2_with fail
  rw[HW.out]
  exact Za rfl (ZgM results144 (Z0 rfl inferInstance) (Z0 rfl inferInstance) (Zh rfl)) kp
 have HW:Hid (Yr t x=Qs t y.sub):=by rw[Hid,HV.out,hn];rfl
 clear hn HV
 go_wp2_with fail
 refine nxt (HP.out _ _ kp) fun w4 p_w4=>?_;have hz_w4:=szk w w4
 unfold pvV
 generalize Qs t y.sub=r at*
 go_wp2_with fail
 rw[HW.out]
 exact Za rfl (ZgM results144 (Z0 rfl inferInstance) (Z0 rfl inferInstance) (Zh rfl)) kp
def QJ:List PanicEntry:=[{v:= .iface 279 (.agg #[]),recovered:=false}]
def Zre (w:World) (e:Ending) (w':World):Prop:=e= .panicked QJ∧Kept [] w w'
def Zjz (o:Option Int) (w:World) (e:Ending) (w':World):Prop:=match o with | some v=>ZE (.int .i64 v) w e w' | none=>Zre w e w'
theorem ZA {P:Program} {fn:Func} {a:Act} {w w':World} (hd:a.defers= []) (hk:Kept [] w w'):bodyPost P fn (Zjz none w) (.panic QJ) a w':=⟨hd,rfl,hk⟩
theorem Zhu {P:Program} {fn:Func} {a:Act} {w w':World} (hd:a.defers= []) (hk:Kept [] w w'):bodyPost P fn (Zre w) (.panic QJ) a w':=⟨hd,rfl,hk⟩
theorem Zu {P:Program} {fn:Func} {v:Int} {a:Act} {w w':World} (hd:a.defers= []) (hr:(results fn a.tmps).run P w'= .ok (.int .i64 v) w') (hk:Kept [] w w'):bodyPost P fn (Zjz (some v) w) .ret a w':=
 bodyPost_ret hr hd ⟨rfl,hk⟩
theorem ZbO (w:World):Calls prog 146 #[] w (Zre w):=by
 go_enter func146,ntmps146
 go_wp2_with fail
 exact Zhu rfl kp
theorem QX (w:World) (x:Int) (b:Bd):Calls prog 81 #[.int .i64 x,.agg #[.int .i64 b.1,.int .i64 b.2]] w (Zjz (ZO x b) w):=by
 by_cases h1:x < b.1
 ·have HW:Hid (ZO x b=none):=by rw[Hid,ZO,if_pos (.inl h1)]
  go_enter func81,ntmps81
  go_wp2_with fail
  refine nxt (ZbO _) fun w1 p_w1=>?_;have hz_w1:=szk w w1
  show bodyPost _ _ (Zjz (ZO x b) w) (.panic QJ) _ w1
  rw[HW.out]
  exact ZA rfl kp
 by_cases h2:b.2 < x
 ·have HW:Hid (ZO x b=none):=by rw[Hid,ZO,if_pos (.inr h2)]
  go_enter func81,ntmps81
  go_wp2_with fail
  refine nxt (ZbO _) fun w1 p_w1=>?_;have hz_w1:=szk w w1
  show bodyPost _ _ (Zjz (ZO x b) w) (.panic QJ) _ w1
  rw[HW.out]
  exact ZA rfl kp
 have HW:Hid (ZO x b=some x):=by rw[Hid,ZO,if_neg (by omega)]
 have h3:b.1≤x:=by omega
 have h4:x≤b.2:=by omega
 go_enter func81,ntmps81
 go_wp2_with fail
 rw[HW.out]
 exact Zu rfl (Zj results81 (Zh rfl)) kp
theorem Q4 (w:World) (b:Bool):Calls prog 149 #[.bool b] w (ZE (.int .i64 (ZT b)) w):=by
 cases b
 all_goals
  go_enter func149,ntmps149
  go_wp2_with fail
  exact Za rfl (Zj results149 (Zh rfl)) kp
theorem ZpI {a b:Int} (ha: -4611686018427387904≤a∧a≤4611686018427387904): -4611686018427387904≤a.tmod b∧a.tmod b≤4611686018427387904:=by
 have h:=Int.natAbs_tmod a b
 have h2:a.natAbs % b.natAbs≤a.natAbs:=Nat.mod_le _ _
 omega
theorem ZiV (w:World) (a b:Int) (ha: -4611686018427387904≤a∧a≤4611686018427387904) (hb: -4611686018427387904≤b∧b≤4611686018427387904) (h0:b≠0):Calls prog 206 #[.int .i64 a,.int .i64 b] w (ZE (.int .i64 (ZnA a b)) w):=by
 obtain⟨r1,r2⟩:=ZpI (b:=b) ha
 have HV:Hid (ZnA a b=if a.tmod b≠0∧decide (a.tmod b < 0)≠decide (b < 0)then a.tmod b+b else a.tmod b):=rfl
 by_cases h1:a.tmod b=0
 ·have HW:Hid (ZnA a b=0):=by rw[Hid,HV.out,if_neg (by simp[h1]),h1]
  have h2:(a.tmod b != 0)=false:=by simp[h1]
  clear HV
  go_enter func206,ntmps206
  go_wp2_with fail
  rw[HW.out]
  exact Za rfl (Zj results206 (Zh rfl)) kp
 have h2:(a.tmod b != 0)=true:=by simp[h1]
 by_cases h3:a.tmod b < 0
 ·by_cases h4:b < 0
  ·have HW:Hid (ZnA a b=a.tmod b):=by rw[Hid,HV.out,if_neg (by simp[h3,h4])]
   clear HV h1
   go_enter func206,ntmps206
   go_wp2_with fail
   rw[HW.out]
   exact Za rfl (Zj results206 (Zh rfl)) kp
  ·have HW:Hid (ZnA a b=a.tmod b+b):=by rw[Hid,HV.out,if_pos (by simp[h1,h3,h4])]
   clear HV h1
   go_enter func206,ntmps206
   go_wp2_with fail
   rw[HW.out]
   exact Za rfl (Zj results206 (Zh rfl)) kp
 ·by_cases h4:b < 0
  ·have HW:Hid (ZnA a b=a.tmod b+b):=by rw[Hid,HV.out,if_pos (by simp[h1,h3,h4])]
   clear HV h1
   go_enter func206,ntmps206
   go_wp2_with fail
   rw[HW.out]
   exact Za rfl (Zj results206 (Zh rfl)) kp
  ·have HW:Hid (ZnA a b=a.tmod b):=by rw[Hid,HV.out,if_neg (by simp[h3,h4])]
   clear HV h1
   go_enter func206,ntmps206
   go_wp2_with fail
   rw[HW.out]
   exact Za rfl (Zj results206 (Zh rfl)) kp
def Za5 (a b:Int):Int:=if b≠0∧ZeR a > (4611686018427387904:Int).tdiv (ZeR b)then 4611686018427387905 else a*b
theorem Zku (a:Int):Za5 a 0=0:=by simp[Za5]
theorem ZcI {p:Int} (h:0≤p):ZeR p=p:=by unfold ZeR;rw[if_neg (by omega)]
theorem ZeL {p:Int} (h:0≤p):ZeR (-p)=p:=by unfold ZeR;split <;> omega
theorem ZdR {a b p q:Int} (ha:ZeR a=p) (hb:ZeR b=q) (hp:0≤p) (hq:0 < q):(4611686018427387904 / q < p→Za5 a b=4611686018427387905)∧(¬4611686018427387904 / q < p→Za5 a b=a*b∧0≤p*q∧p*q≤4611686018427387904):=by
 have hb0:b≠0:=fun h=>by rw[h,ZcI (Int.le_refl 0)]at hb;omega
 have ht:(4611686018427387904:Int).tdiv q=4611686018427387904 / q:=Int.tdiv_eq_ediv_of_nonneg (by omega)
 unfold Za5
 rw[ha,hb,ht]
 constructor
 ·intro h
  rw[if_pos ⟨hb0,h⟩]
 ·intro h
  rw[if_neg (fun x=>h x.2)]
  have h1:p*q≤4611686018427387904 / q*q:=Int.mul_le_mul_of_nonneg_right (by omega) (by omega)
  have h2:=Int.ediv_mul_le 4611686018427387904 (b:=q) (by omega)
  exact⟨rfl,Int.mul_nonneg hp (by omega),by omega⟩
theorem Zqb (w:World) (p q:Int) (hp:0≤p) (hp2:p≤4611686018427387904) (hq:0 < q) (hq2:q≤4611686018427387904):Calls prog 203 #[.int .i64 p,.int .i64 q] w (ZE (.int .i64 (Za5 p q)) w):=by
 have HP:=ZdR (ZcI hp) (ZcI (by omega:0≤q)) hp hq
 have hn:(q != 0)=true:=by simp;omega
 have hm:0≤p*q→p*q≤4611686018427387904→ -4611686018427387904≤p*q∧p*q≤4611686018427387904:=fun h h'=>by
  have e:p*q=p*q:=rfl
  rw[e]
  omega
 by_cases h1:4611686018427387904 / q < p
 ·have HW:=hh (HP.1 h1)
  clear HP hm
  go_enter func203,ntmps203
  go_wp2_with fail
  rw[HW.out]
  exact Za rfl (Zj results203 (Zh rfl)) kp
 ·obtain⟨e,m1,m2⟩:=HP.2 h1
  have HW:=hh e
  obtain⟨m3,m4⟩:=hm m1 m2
  clear HP e hm
  go_enter func203,ntmps203
  go_wp2_with fail
  rw[HW.out]
  exact Za rfl (Zj results203 (Zh rfl)) kp
theorem Zqd (w:World) (p q:Int) (hp:0 < p) (hp2:p≤4611686018427387904) (hq:0 < q) (hq2:q≤4611686018427387904):Calls prog 203 #[.int .i64 (-p),.int .i64 q] w (ZE (.int .i64 (Za5 (-p) q)) w):=by
 have HP:=ZdR (ZeL (Int.le_of_lt hp)) (ZcI (by omega:0≤q)) (Int.le_of_lt hp) hq
 have hn:(q != 0)=true:=by simp;omega
 have hm:0≤p*q→p*q≤4611686018427387904→ -4611686018427387904≤ -p*q∧ -p*q≤4611686018427387904:=fun h h'=>by
  have e: -p*q= -(p*q):=Int.neg_mul p q
  rw[e]
  omega
 by_cases h1:4611686018427387904 / q < p
 ·have HW:=hh (HP.1 h1)
  clear HP hm
  go_enter func203,ntmps203
  go_wp2_with fail
  rw[HW.out]
  exact Za rfl (Zj results203 (Zh rfl)) kp
 ·obtain⟨e,m1,m2⟩:=HP.2 h1
  have HW:=hh e
  obtain⟨m3,m4⟩:=hm m1 m2
  clear HP e hm
  go_enter func203,ntmps203
  go_wp2_with fail
  rw[HW.out]
  exact Za rfl (Zj results203 (Zh rfl)) kp
theorem Zqc (w:World) (p q:Int) (hp:0≤p) (hp2:p≤4611686018427387904) (hq:0 < q) (hq2:q≤4611686018427387904):Calls prog 203 #[.int .i64 p,.int .i64 (-q)] w (ZE (.int .i64 (Za5 p (-q))) w):=by
 have HP:=ZdR (ZcI hp) (ZeL (by omega:0≤q)) hp hq
 have hn:(-q != 0)=true:=by simp;omega
 have hm:0≤p*q→p*q≤4611686018427387904→ -4611686018427387904≤p* -q∧p* -q≤4611686018427387904:=fun h h'=>by
  have e:p* -q= -(p*q):=Int.mul_neg p q
  rw[e]
  omega
 by_cases h1:4611686018427387904 / q < p
 ·have HW:=hh (HP.1 h1)
  clear HP hm
  go_enter func203,ntmps203
  go_wp2_with fail
  rw[HW.out]
  exact Za rfl (Zj results203 (Zh rfl)) kp
 ·obtain⟨e,m1,m2⟩:=HP.2 h1
  have HW:=hh e
  obtain⟨m3,m4⟩:=hm m1 m2
  clear HP e hm
  go_enter func203,ntmps203
  go_wp2_with fail
  rw[HW.out]
  exact Za rfl (Zj results203 (Zh rfl)) kp
theorem Zqe (w:World) (p q:Int) (hp:0 < p) (hp2:p≤4611686018427387904) (hq:0 < q) (hq2:q≤4611686018427387904):Calls prog 203 #[.int .i64 (-p),.int .i64 (-q)] w (ZE (.int .i64 (Za5 (-p) (-q))) w):=by
 have HP:=ZdR (ZeL (Int.le_of_lt hp)) (ZeL (by omega:0≤q)) (Int.le_of_lt hp) hq
 have hn:(-q != 0)=true:=by simp;omega
 have hm:0≤p*q→p*q≤4611686018427387904→ -4611686018427387904≤ -p* -q∧ -p* -q≤4611686018427387904:=fun h h'=>by
  have e: -p* -q=p*q:=Int.neg_mul_neg p q
  rw[e]
  omega
 by_cases h1:4611686018427387904 / q < p
 ·have HW:=hh (HP.1 h1)
  clear HP hm
  go_enter func203,ntmps203
  go_wp2_with fail
  rw[HW.out]
  exact Za rfl (Zj results203 (Zh rfl)) kp
 ·obtain⟨e,m1,m2⟩:=HP.2 h1
  have HW:=hh e
  obtain⟨m3,m4⟩:=hm m1 m2
  clear HP e hm
  go_enter func203,ntmps203
  go_wp2_with fail
  rw[HW.out]
  exact Za rfl (Zj results203 (Zh rfl)) kp
theorem Zr4 (w:World) (p:Int):Calls prog 203 #[.int .i64 p,.int .i64 0] w (ZE (.int .i64 (Za5 p 0)) w):=by
 have HW:=hh (Zku p)
 go_enter func203,ntmps203
 go_wp2_with fail
 rw[HW.out]
 exact Za rfl (Zj results203 (Zh (by simp))) kp
theorem ZgO (w:World) (a b:Int) (ha: -4611686018427387904≤a∧a≤4611686018427387904) (hb: -4611686018427387904≤b∧b≤4611686018427387904):Calls prog 203 #[.int .i64 a,.int .i64 b] w (ZE (.int .i64 (Za5 a b)) w):=by
 by_cases h0:b=0
 ·subst h0;exact Zr4 w a
 by_cases h1:a < 0
 ·obtain⟨p,rfl⟩:∃p,a= -p:=⟨-a,by omega⟩
  by_cases h2:b < 0
  ·obtain⟨q,rfl⟩:∃q,b= -q:=⟨-b,by omega⟩
   exact Zqe w p q (by omega) (by omega) (by omega) (by omega)
  ·exact Zqd w p b (by omega) (by omega) (by omega) (by omega)
 ·by_cases h2:b < 0
  ·obtain⟨q,rfl⟩:∃q,b= -q:=⟨-b,by omega⟩
   exact Zqc w a q (by omega) (by omega) (by omega) (by omega)
  ·exact Zqb w a b (by omega) (by omega) (by omega) (by omega)
end
end Go.Proofs.YtfaecpkocgcofaaGreatDoor
