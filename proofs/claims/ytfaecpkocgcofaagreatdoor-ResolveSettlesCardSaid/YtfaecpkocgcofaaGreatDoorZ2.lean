/- Lemmas for ResolveSettles, printed small: K8 S1 S2 S3. -/
import Derived.Test.YtfaecpkocgcofaaGreatDoorZ1
import Derived.BigRegion
set_option linter.all false
set_option maxRecDepth 100000
set_option maxHeartbeats 8000000
open Go.Proofs.Tryz
namespace Go.Proofs.YtfaecpkocgcofaaGreatDoor
section
open Go.RowKit
class Jh (w:World) (k:Nat):Prop where
 size:w.heap.size=k
instance (w:World):Jh w w.heap.size:=⟨rfl⟩
instance (w:World) (k:Nat) (ob:Obj) [h:Jh w k]:Jh (w.alloc ob) (k+1):=⟨by simp[h.size]⟩
instance (w:World) (k:Nat) [h:Jh w k]:Jh w.drew k:=⟨h.size⟩
instance (w:World) (k:Nat) (a:Addr) (u:Value) [h:Jh w k]:Jh (w.setCell a u) k:=⟨by simp[h.size]⟩
instance (w:World) (k D:Nat) (cs:Array Value) [h:Jh w k]:Jh (w.setRow D cs) k:=⟨by simp[World.setRow,h.size]⟩
class Q1 (w:World) (b o:Nat) (x:outParam ExV):Prop where
 range:w.rangeAt b o x.cells
instance (w:World) (b o:Nat) (x:ExV) (ob:Obj) [h:Q1 w b o x]:Q1 (w.alloc ob) b o x:=⟨World.rangeAt_alloc h.range ob⟩
instance (w:World) (b o:Nat) (x:ExV) [h:Q1 w b o x]:Q1 w.drew b o x:=⟨by simpa using h.range⟩
instance (w:World) (b o:Nat) (x:ExV) (z:Qr w) [h:Q1 w b o x]:Q1 z.1 b o x:=⟨fun j u hu=>z.2.cell (h.range j u hu) (by simp)⟩
instance (w:World) (b o D:Nat) (x:ExV) (cs:Array Value) [h:Q1 w b o x] [a:Qf D b]:Q1 (w.setRow D cs) b o x:=⟨QB h.range D cs a.ne⟩
theorem Q1.kept {w w':World} {b o:Nat} {x:ExV} (h:Q1 w b o x) (hk:Kept [] w w'):Q1 w' b o x:=⟨fun j u hu=>hk.cell (h.range j u hu) (by simp)⟩
theorem Tryz.infoEx (x:ExV):(prog.info? 41).map (·.size)=some x.cells.length:=by
 show _=some 9
 kernel_rfl
def ZkU (v:Value):Sem Next:=do return .value (←Instr.loadAt 41 v)
@[go_sem ↓] theorem Zn2 (ρ:Operand→Value) (dst:Option Tmp) (x:Operand) (ty:TypeId) (pos:String) (after:Array Edge) (guard:Option (Nat×Bool)):
 execOp ρ {dst,op:= .load 41 x,type:=ty,pos,after,guard}=ZkU (ρ x):=rfl
@[go_sem] theorem Zrq (w:World) (b o:Nat) (x:ExV) [h:Q1 w b o x]:Sem.run prog (ZkU (.pointer (some ⟨b,o,none⟩))) w= .ok (.value (.agg x.cells.toArray)) w:=by
 simp only[ZkU,Instr.loadAt,Instr.sureAddr,Sem.run_bind,Sem.run_pure,Result.andThen_ok,run_loadVar_mid w b o 41 x.cells _ h.range underlying41 rfl (Tryz.infoEx x)]
theorem ZqP {w:World} {n:Nat} {x:ExV} (h:Qe w (n+1) x) {j:Nat} (hj:j < x.ls.length):∃b o,x.la=some ⟨b,o,none⟩∧Q1 w b (o+j*9) (x.ls.getD j default)∧Qe w n (x.ls.getD j default):=by
 obtain⟨y,hy⟩:∃y,x.ls[j]? =some y:=⟨_,List.getElem?_eq_getElem hj⟩
 obtain⟨b,o,ha,hr⟩:=h.1.some_ hy
 have e:x.ls.getD j default=y:=by simp[List.getD_eq_getElem?_getD,hy]
 rw[e]
 exact⟨b,o,ha,⟨hr j y hy⟩,h.2.1 y (List.mem_of_getElem? hy)⟩
theorem ZsM {w:World} {n:Nat} {x:ExV} (h:Qe w (n+1) x) (hj:0 < x.al.length):∃b o,x.aa=some ⟨b,o,none⟩∧Q1 w b (o+1) (a0 x)∧Qe w n (a0 x):=by
 obtain⟨y,hy⟩:∃y,x.al[0]? =some y:=⟨_,List.getElem?_eq_getElem hj⟩
 obtain⟨b,o,ha,hr⟩:=h.2.2.1.some_ hy
 have e:a0 x=y.2.2.2:=by simp[a0,List.getD_eq_getElem?_getD,hy]
 rw[e]
 refine⟨b,o,ha,⟨fun j u hu=>?_⟩,h.2.2.2.1 y (List.mem_of_getElem? hy)⟩
 have:=hr 0 y hy (j+1) u (by simpa [AsV.cells]using hu)
 simpa [Nat.add_assoc,Nat.add_comm 1 j]using this
class Zc (w:World) (B:Nat) (ty:outParam TypeId) (cs:outParam (Array Value)):Prop where
 has:w.heap[B]? =some (.cells cs ty (0,0))
instance (w:World) (k:Nat) (ty:TypeId) (cs:Array Value) [h:Jh w k]:Zc (w.alloc (.cells cs ty)) k ty cs:=⟨Zf h.size.symm⟩
instance (w:World) (B:Nat) (ty:TypeId) (cs:Array Value) (ob:Obj) [h:Zc w B ty cs]:Zc (w.alloc ob) B ty cs:=⟨Zr h.has (Array.getElem?_eq_some_iff.1 h.has).1⟩
instance (w:World) (B:Nat) (ty:TypeId) (cs:Array Value) [h:Zc w B ty cs]:Zc w.drew B ty cs:=⟨h.has⟩
instance (w:World) (B:Nat) (ty:TypeId) (cs:Array Value) (z:Qr w) [h:Zc w B ty cs]:Zc z.1 B ty cs:=⟨z.2.obj h.has (by simp)⟩
instance (w:World) (B:Nat) (ty:TypeId) (cs cs':Array Value) [h:Zc w B ty cs]:Zc (w.setRow B cs') B ty cs':=⟨setRow_heap _ _ _ _ _ _ h.has⟩
instance (w:World) (B D:Nat) (ty:TypeId) (cs cs':Array Value) [h:Zc w B ty cs] [a:Qf D B]:Zc (w.setRow D cs') B ty cs:=⟨by
 have:=a.ne
 simp[World.setRow,Array.getElem?_modify,this,h.has]⟩
instance (w:World) (B j:Nat) (ty:TypeId) (cs:Array Value) (u:Value) [h:Zc w B ty cs]:Zc (w.setCell ⟨B,j,none⟩ u) B ty (cs.setIfInBounds j u):=⟨heap_setCell_same _ _ _ _ _ _ h.has⟩
instance (w:World) (B D j:Nat) (ty:TypeId) (cs:Array Value) (u:Value) [h:Zc w B ty cs] [a:Qf D B]:Zc (w.setCell ⟨D,j,none⟩ u) B ty cs:=⟨(heap_setCell_other w _ B u (Ne.symm a.ne)).trans h.has⟩
theorem Zc.kept {w w':World} {B:Nat} {ty:TypeId} {cs:Array Value} (h:Zc w B ty cs) (hk:Kept [] w w'):Zc w' B ty cs:=⟨hk.obj h.has (by simp)⟩
theorem Zc.lt {w:World} {B:Nat} {ty:TypeId} {cs:Array Value} (h:Zc w B ty cs):B < w.heap.size:=(Array.getElem?_eq_some_iff.1 h.has).1
@[go_sem] theorem Zti (w:World) (B j:Nat) (ty:TypeId) (cs:Array Value) [h:Zc w B ty cs]:w.cell? ⟨B,j,none⟩=cs[j]? :=cell_of_row _ _ _ _ _ _ h.has
@[go_sem] theorem Zrt (w:World) (B j:Nat) (ty:TypeId) (cs:Array Value) [h:Zc w B ty cs]:w.frozen? ⟨B,j,none⟩=false:=frozen_of_row _ _ _ _ _ h.has
instance (w:World) (B:Nat) (x:TyV) [h:Zc w B 86 x.cells.toArray]:QW 86 18 w B:=⟨⟨_,h.has,rfl⟩⟩
instance (w:World) (B:Nat) (a0 a1 a2 a3 a4 a5 a6 a7 a8 a9 a10 a11 a12 a13 a14 a15 a16 a17:Value) [h:Zc w B 86 #[a0,a1,a2,a3,a4,a5,a6,a7,a8,a9,a10,a11,a12,a13,a14,a15,a16,a17]]:QW 86 18 w B:=⟨⟨_,h.has,rfl⟩⟩
instance (w:World) (B:Nat) (a0 a1 a2 a3 a4 a5 a6 a7 a8 a9 a10 a11 a12 a13 a14 a15 a16 a17 a18 a19 a20 a21:Value) [h:Zc w B 95 #[a0,a1,a2,a3,a4,a5,a6,a7,a8,a9,a10,a11,a12,a13,a14,a15,a16,a17,a18,a19,a20,a21]]:QW 95 22 w B:=⟨⟨_,h.has,rfl⟩⟩
instance (w:World) (B:Nat) (x:Zx) [h:Zc w B 95 x.cells.toArray]:QW 95 22 w B:=⟨⟨_,h.has,rfl⟩⟩
theorem Tryz.storeEntBox (x:Zx) (w:World) (B:Nat) [h:QW 95 22 w B]:Sem.run prog (storeCells ⟨B,0,none⟩ x.cells) w= .ok () (w.setRow B x.cells.toArray):=by
 obtain⟨c,hc,hs⟩:=h.has
 have:=run_storeVar_row (P:=prog) w B 95 95 c x.cells.toArray hc (by simpa using Tryz.infoEnt x) (by simpa [Zx.len]using hs) x.one
 cases hq:prog.info? 95 with
 | none=>have h1:=Tryz.infoEnt x;rw[hq]at h1;cases h1
 | some i=>
  have hsz:x.cells.toArray.size=i.size:=by have:=Tryz.infoEnt x;simp[hq]at this;simp;omega
  simpa [storeVar,sizeOf,typeInfo,hq,Value.cells,hsz]using this
attribute [go_sem] Tryz.storeEntBox
def Zem:Sem Next:=do return .value (←Instr.build 86 #[])
@[go_sem ↓] theorem Zli (ρ:Operand→Value) (dst:Option Tmp) (ty:TypeId) (pos:String) (after:Array Edge) (guard:Option (Nat×Bool)):
 execOp ρ {dst,op:= .build 86 #[],type:=ty,pos,after,guard}=Zem:=by simp[execOp,Zem]
@[go_sem] theorem ZoU (w:World):Sem.run prog Zem w= .ok (.value (.agg YE.cells.toArray)) w:=by kernel_rfl
def ZcF:Sem Next:=do return .value (←Instr.build 95 #[])
@[go_sem ↓] theorem Zjy (ρ:Operand→Value) (dst:Option Tmp) (ty:TypeId) (pos:String) (after:Array Edge) (guard:Option (Nat×Bool)):
 execOp ρ {dst,op:= .build 95 #[],type:=ty,pos,after,guard}=ZcF:=by simp[execOp,ZcF]
@[go_sem] theorem Zm6 (w:World):Sem.run prog ZcF w= .ok (.value (.agg Yu.cells.toArray)) w:=by kernel_rfl
theorem ZR {w:World} {B:Nat} {ty:TypeId} {l:List Value} (h:w.heap[B]? =some (.cells l.toArray ty (0,0))):w.rangeAt B 0 l:=by
 intro j u hu
 rw[Nat.zero_add,cell_of_row _ _ _ _ _ _ h]
 simpa using hu
instance (w:World) (B:Nat) (x:TyV) [h:Zc w B 86 x.cells.toArray]:Zar w B 0 x:=⟨ZR h.has⟩
instance (w:World) (B:Nat) [h:Zc w B 86 #[.int .u8 0,.string ⟨#[]⟩,.int .i64 0,.int .i64 0,.slice none 0 0,.int .i64 0,.int .i64 0,.int .i64 0,.string ⟨#[]⟩,.bool false,.int .i64 0,.slice none 0 0,.int .i64 0,.int .u8 0,.bool false,.int .i64 0,.int .i64 0,.int .i64 0]]:Zar w B 0 YE:=⟨ZR (l:=YE.cells) h.has⟩
instance (w:World) (B:Nat) (x:Zx) [h:Zc w B 95 x.cells.toArray]:YO w B 0 x:=⟨ZR h.has⟩
instance (w:World) (B:Nat) [h:Zc w B 95 #[.int .u8 0,.string ⟨#[]⟩,.int .i64 0,.int .u8 0,.int .i64 0,.int .i64 0,.slice none 0 0,.int .i64 0,.bool false,.int .i64 0,.int .i64 0,.bool false,.bool false,.int .u8 0,.int .i64 0,.int .i64 0,.int .i64 0,.bool false,.bool false,.int .i64 0,.int .i64 0,.int .i64 0]]:YO w B 0 Yu:=⟨ZR (l:=Yu.cells) h.has⟩
instance (w:World) (B:Nat) (x:ExV) [h:Zc w B 41 x.cells.toArray]:Q1 w B 0 x:=⟨ZR h.has⟩
instance (w:World) (B:Nat) (a b c:Int) [h:Zc w B 88 #[.int .i64 a,.int .i64 b,.int .i64 c]]:Y5 w B 0 ⟨a,b,c⟩:=⟨ZR (l:=(ZL.mk a b c).cells) h.has⟩
class Ya (w:World) (t:TypeId) (ad:Addr) (v:outParam Value):Prop where
 run:(loadVar t ad).run prog w= .ok v w
class ZeN (cs:Array Value) (n:Nat):Prop where
 len:cs.size=n
instance (a b:Value):ZeN #[a,b] 2:=⟨rfl⟩
instance (a b c:Value):ZeN #[a,b,c] 3:=⟨rfl⟩
instance (a b c d e:Value):ZeN #[a,b,c,d,e] 5:=⟨rfl⟩
instance (cs:Array Value) (n i:Nat) (u:Value) [h:ZeN cs n]:ZeN (cs.setIfInBounds i u) n:=⟨by simp[h.len]⟩
instance (w:World) (B o:Nat) (x:TyV) [h:Zar w B o x]:Ya w 86 ⟨B,o,none⟩ (.agg x.cells.toArray):=⟨run_loadVar_mid w B o 86 x.cells _ h.range underlying86 rfl (Tryz.infoTy x)⟩
instance (w:World) (B o:Nat) (x:Zx) [h:YO w B o x]:Ya w 95 ⟨B,o,none⟩ (.agg x.cells.toArray):=⟨run_loadVar_mid w B o 95 x.cells _ h.range underlying95 rfl (Tryz.infoEnt x)⟩
instance (w:World) (B o:Nat) (x:ExV) [h:Q1 w B o x]:Ya w 41 ⟨B,o,none⟩ (.agg x.cells.toArray):=⟨run_loadVar_mid w B o 41 x.cells _ h.range underlying41 rfl (Tryz.infoEx x)⟩
theorem Tryz.infoSub3:(prog.info? 88).map (·.size)=some 3:=by kernel_rfl
theorem Tryz.infoBd2:(prog.info? 150).map (·.size)=some 2:=by kernel_rfl
instance (w:World) (B:Nat) (cs:Array Value) [h:Zc w B 88 cs] [n:ZeN cs 3]:Ya w 88 ⟨B,0,none⟩ (.agg cs):=⟨by
 have:=run_loadVar_mid (P:=prog) w B 0 88 cs.toList _ (ZR (by simpa using h.has)) underlying88 rfl (by rw[Tryz.infoSub3];simp[n.len])
 simpa using this⟩
instance (w:World) (B:Nat) (cs:Array Value) [h:Zc w B 150 cs] [n:ZeN cs 2]:Ya w 150 ⟨B,0,none⟩ (.agg cs):=⟨by
 have:=run_loadVar_mid (P:=prog) w B 0 150 cs.toList _ (ZR (by simpa using h.has)) underlying150 rfl (by rw[Tryz.infoBd2];simp[n.len])
 simpa using this⟩
def Zc2 (tmps:Array Value) (w:World):ResultVar→Value→Prop
 | .tmp t,v=>tmps.getD t undef=v
 | .cell a t,v=>∃ad,tmps.getD a undef= .pointer (some ad)∧(loadVar t ad).run prog w= .ok v w
def Ztb (tmps:Array Value) (r:ResultVar):Sem Value:=
 match r with
 | .tmp t=>pure (tmps.getD t undef)
 | .cell a t=>do loadVar t (←asAddr (tmps.getD a undef))
theorem JU {tmps:Array Value} {w:World} {r:ResultVar} {v:Value} (h:Zc2 tmps w r v):(Ztb tmps r).run prog w= .ok v w:=by
 cases r with
 | tmp t=>simp only[Zc2]at h;simp[Ztb,h]
 | cell a t=>
  obtain⟨ad,h1,h2⟩:=h
  simp only[Ztb,h1,asAddr,Sem.run_bind,Sem.run_pure,Result.andThen_ok,h2]
theorem Zca (fn:Func) (tmps:Array Value):results fn tmps=(do let vs←fn.results.mapM (Ztb tmps);pure (if h:vs.size=1 then vs[0]else .tuple vs)):=rfl
theorem Zj {fn:Func} {tmps:Array Value} {w:World} {r1:ResultVar} {v1:Value} (hf:fn.results= #[r1]) (h1:Zc2 tmps w r1 v1):(results fn tmps).run prog w= .ok v1 w:=by
 have e1:=JU h1
 rw[Zca,hf]
 simp[e1]
theorem Qm {fn:Func} {tmps:Array Value} {w:World} {r1 r2:ResultVar} {v1 v2:Value} (hf:fn.results= #[r1,r2]) (h1:Zc2 tmps w r1 v1) (h2:Zc2 tmps w r2 v2):(results fn tmps).run prog w= .ok (.tuple #[v1,v2]) w:=by
 have e1:=JU h1
 have e2:=JU h2
 rw[Zca,hf]
 simp[e1,e2]
theorem ZgM {fn:Func} {tmps:Array Value} {w:World} {r1 r2 r3:ResultVar} {v1 v2 v3:Value} (hf:fn.results= #[r1,r2,r3]) (h1:Zc2 tmps w r1 v1) (h2:Zc2 tmps w r2 v2) (h3:Zc2 tmps w r3 v3):(results fn tmps).run prog w= .ok (.tuple #[v1,v2,v3]) w:=by
 have e1:=JU h1
 have e2:=JU h2
 have e3:=JU h3
 rw[Zca,hf]
 simp[e1,e2,e3]
theorem Zh {tmps:Array Value} {w:World} {t:Tmp} {v:Value} (h:tmps.getD t undef=v):Zc2 tmps w (.tmp t) v:=h
theorem Z0 {tmps:Array Value} {w:World} {a:Tmp} {t:TypeId} {ad:Addr} {v:Value} (h:tmps.getD a undef= .pointer (some ad)) (hl:Ya w t ad v):Zc2 tmps w (.cell a t) v:=⟨ad,h,hl.run⟩
theorem Kept.row' {w w':World} (h:Kept [] w w') (B:Nat) (cs:Array Value) (hB:w.heap.size≤B):Kept [] w (w'.setRow B cs):=
 (Kept.trans (h.mono (Y:=[B]) (by simp)) (Kept.setRow w' B cs (by simp))).mono' (fun x hx hl=>by simp at hx;omega)
theorem Kept.setB {w w':World} (h:Kept [] w w') (b j:Nat) (u:Value) (hB:w.heap.size≤b):Kept [] w (w'.setCell ⟨b,j,none⟩ u):=h.set' _ _ hB
class LtB (a b:Nat):Prop where
 lt:a < b
instance (k:Nat):LtB k (k+1):=⟨by omega⟩
instance (a b:Nat) [h:LtB a b]:LtB a (b+1):=⟨by have:=h.lt;omega⟩
instance (w:World) (B:Nat) (ty:TypeId) (cs:Array Value) [h:Zc w B ty cs]:LtB B w.heap.size:=⟨h.lt⟩
instance (a b:Nat) [h:LtB a b]:Qf a b:=⟨by have:=h.lt;omega⟩
instance (a b:Nat) [h:LtB b a]:Qf a b:=⟨by have:=h.lt;omega⟩
theorem QF (w:World) (v:Zp) (t:Tab) (ty:Int) (hT:Zw w v t):Calls prog 80 #[.agg (v.cells t),.int .i64 ty] w (ZE (bdV (ZU t ty)) w):=by
 have HT:=hh hT
 have q1:=hT.tl
 clear hT
 unfold Zp.cells
 by_cases h0:ty < 0
 ·have HR:Hid (ZU t ty=none):=ZhI (.inl h0)
  go_enter func80,ntmps80
  go_wp2_with fail
  rw[HR.out]
  exact Za rfl (Qm results80 (Z0 rfl inferInstance) (Zh rfl)) kp
 obtain⟨n,rfl⟩:=Int.eq_ofNat_of_zero_le (by omega:0≤ty)
 by_cases h1:t.types.length≤n
 ·have HR:Hid (ZU t (n:Int)=none):=ZhI (.inr (by omega))
  have h2:(t.types.length:Int)≤(n:Int):=by omega
  go_enter func80,ntmps80
  go_wp2_with fail
  rw[HR.out]
  exact Za rfl (Qm results80 (Z0 rfl inferInstance) (Zh rfl)) kp
 obtain⟨y,b,o,hy,ha,hat,hl⟩:=Zbi HT.out (by omega:n < t.types.length)
 have HS:=hh (ZpO hy)
 have h2:(n:Int) < (t.types.length:Int):=by omega
 rw[ha]
 clear hy ha
 by_cases k1:y.kind=1
 ·have HR:Hid (ZU t (n:Int)=some (-4611686018427387904,4611686018427387904)):=by rw[Hid,HS.out];simp[k1]
  go_enter func80,ntmps80
  go_wp2_with fail
  rw[HR.out]
  exact Za rfl (Qm results80 (Z0 rfl inferInstance) (Zh rfl)) kp
 by_cases k2:y.formal=0
 rotate_left
 ·have HR:Hid (ZU t (n:Int)=none):=by rw[Hid,HS.out];simp[k1,k2]
  go_enter func80,ntmps80
  go_wp2_with fail
  rw[HR.out]
  exact Za rfl (Qm results80 (Z0 rfl inferInstance) (Zh rfl)) kp
 by_cases k3:y.kind=2
 ·have HR:Hid (ZU t (n:Int)=some (-2147483648,2147483647)):=by rw[Hid,HS.out];simp[k2,k3]
  go_enter func80,ntmps80
  go_wp2_with fail
  rw[HR.out]
  exact Za rfl (Qm results80 (Z0 rfl inferInstance) (Zh rfl)) kp
 by_cases k4:y.kind=3
 ·have HR:Hid (ZU t (n:Int)=some (0,(y.lits.length:Int) - 1)):=by rw[Hid,HS.out];simp[k2,k4]
  go_enter func80,ntmps80
  go_wp2_with fail
  rw[HR.out]
  exact Za rfl (Qm results80 (Z0 rfl inferInstance) (Zh rfl)) kp
 have HR:Hid (ZU t (n:Int)=none):=by rw[Hid,HS.out];simp[k1,k2,k3,k4]
 go_enter func80,ntmps80
 go_wp2_with fail
 rw[HR.out]
 exact Za rfl (Qm results80 (Z0 rfl inferInstance) (Zh rfl)) kp
theorem Zl1 (w:World) (v:Zp) (t:Tab) (i:Int) (hT:Zw w v t):Calls prog 173 #[.slice v.sa t.subs.length v.sc,.int .i64 i] w (ZE (Ztu (Zju t i)) w):=by
 have HT:=hh hT
 have q1:=hT.sl
 clear hT
 by_cases h0:i < 0
 ·have HR:Hid (Zju t i=none):=ZdI (.inl h0)
  go_enter func173,ntmps173
  go_wp2_with fail
  rw[HR.out]
  exact Za rfl (Qm results173 (Z0 rfl inferInstance) (Zh rfl)) kp
 obtain⟨n,rfl⟩:=Int.eq_ofNat_of_zero_le (by omega:0≤i)
 by_cases h1:t.subs.length≤n
 ·have HR:Hid (Zju t (n:Int)=none):=ZdI (.inr (by omega))
  have h2:(t.subs.length:Int)≤(n:Int):=by omega
  go_enter func173,ntmps173
  go_wp2_with fail
  rw[HR.out]
  exact Za rfl (Qm results173 (Z0 rfl inferInstance) (Zh rfl)) kp
 obtain⟨s,b,o,hs,ha,hat,_⟩:=Zb4 HT.out (by omega:n < t.subs.length)
 have HR:=hh (Zgr hs)
 have h2:(n:Int) < (t.subs.length:Int):=by omega
 rw[ha]
 clear hs ha
 go_enter func173,ntmps173
 go_wp2_with fail
 rw[HR.out]
 exact Za rfl (Qm results173 (Z0 rfl inferInstance) (Zh rfl)) kp
theorem Zir (w:World) (v:Zp) (t:Tab) (i:Int) (hT:Zw w v t):Calls prog 175 #[.slice v.ta t.types.length v.tc,.int .i64 i] w (ZE (tyV (tyO t i)) w):=by
 have HT:=hh hT
 have q1:=hT.tl
 clear hT
 by_cases h0:i < 0
 ·have HR:Hid (tyO t i=none):=ZdF (.inl h0)
  go_enter func175,ntmps175
  go_wp2_with fail
  rw[HR.out]
  exact Za rfl (Qm results175 (Z0 rfl inferInstance) (Zh rfl)) kp
 obtain⟨n,rfl⟩:=Int.eq_ofNat_of_zero_le (by omega:0≤i)
 by_cases h1:t.types.length≤n
 ·have HR:Hid (tyO t (n:Int)=none):=ZdF (.inr (by omega))
  have h2:(t.types.length:Int)≤(n:Int):=by omega
  go_enter func175,ntmps175
  go_wp2_with fail
  rw[HR.out]
  exact Za rfl (Qm results175 (Z0 rfl inferInstance) (Zh rfl)) kp
 obtain⟨s,b,o,hs,ha,hat,_⟩:=Zbi HT.out (by omega:n < t.types.length)
 have HR:=hh (ZjZ hs)
 have h2:(n:Int) < (t.types.length:Int):=by omega
 rw[ha]
 clear hs ha
 go_enter func175,ntmps175
 go_wp2_with fail
 rw[HR.out]
 exact Za rfl (Qm results175 (Z0 rfl inferInstance) (Zh rfl)) kp
def Zay (t:Tab) (n:Int):TyV×ZL×Bool:=
 match Zju t n with
 | none=>(YE,ZmF,false)
 | some s=>match tyO t s.t with
  | none=>(YE,s,false)
  | some y=>(y,s,true)
def ZtI (r:TyV×ZL×Bool):Value:= .tuple #[.agg r.1.cells.toArray,Zrm r.2.1,.bool r.2.2]
theorem Zp2 (w:World) (v:Zp) (t:Tab) (n:Int) (hT:Zw w v t):Calls prog 239 #[.agg (v.cells t),.int .i64 n] w (ZE (ZtI (Zay t n)) w):=by
 have HT:=hh hT
 have HC:=hh (fun w' (hk:Kept [] w w')=>Zl1 w' v t n (hT.kept hk))
 have HC2:=hh (fun w' m (hk:Kept [] w w')=>Zir w' v t m (hT.kept hk))
 clear hT
 have HV:Hid (Zay t n=match Zju t n with | none=>(YE,ZmF,false) | some s=>match tyO t s.t with | none=>(YE,s,false) | some y=>(y,s,true)):=rfl
 unfold Zp.cells
 go_enter func239,ntmps239
 go_wp2_with fail
 refine(HC.out _ (by repeat(first | exact Kept.refl _ _ | exact Kept.alloc _ _ _ | apply Kept.alloc'))).mono ?_
 rintro e w1 ⟨rfl,hk1⟩
 haveI b2:Zc w1 w.heap.size _ _:=Zc.kept (by infer_instance) hk1
 haveI b4:Zc w1 (w.heap.size+1) _ _:=Zc.kept (by infer_instance) hk1
 haveI b5:Zc w1 (w.heap.size+1+1) _ _:=Zc.kept (by infer_instance) hk1
 have HK:Hid (Kept [] w w1):=Kept.trans (by repeat(first | exact Kept.refl _ _ | exact Kept.alloc _ _ _ | apply Kept.alloc')) hk1
 clear hk1 HC
 cases hs:Zju t n with
 | none=>
  rw[hs]at HV
  clear hs
  unfold Ztu Zrm ZmF
  go_wp2_with fail
  go_region
  go_wp2_with fail
  rw[HV.out]
  exact Za rfl (ZgM results239 (Z0 rfl inferInstance) (Z0 rfl inferInstance) (Zh rfl)) kp
 | some s=>
  rw[hs]at HV
  clear hs
  unfold Ztu Zrm
  simp only[Option.getD_some,Option.isSome_some]
  go_wp2_with fail
  refine(HC2.out _ _ kp).mono ?_
  rintro e w2 ⟨rfl,hk2⟩
  haveI c4:Zc w2 (w.heap.size+1) _ _:=Zc.kept (by infer_instance) hk2
  haveI c5:Zc w2 (w.heap.size+1+1) _ _:=Zc.kept (by infer_instance) hk2
  haveI c7:Zc w2 w1.heap.size _ _:=Zc.kept (by infer_instance) hk2
  have hz1:=HK.out.size
  have HK0:=HK
  clear HK
  have HK:Hid (Kept [] w w2):=Kept.trans (by exact HK0.out.alloc' _) hk2
  haveI l4:LtB (w.heap.size+1) w1.heap.size:=inferInstance
  haveI l5:LtB (w.heap.size+1+1) w1.heap.size:=inferInstance
  clear hk2 HC2 b2 b4 b5 HT
  have HW:Hid (ZtI (Zay t n)= .tuple #[.agg ((tyO t s.t).getD YE).cells.toArray,Zrm s,.bool (tyO t s.t).isSome]):=by
   rw[Hid,HV.out]
   cases tyO t s.t <;> rfl
  unfold tyV
  generalize (tyO t s.t).getD YE=y at*
  generalize (tyO t s.t).isSome=ok at*
  go_wp2_with fail
  go_region
  go_wp2_with fail
  rw[HW.out]
  exact Za rfl (ZgM results239 (Z0 rfl inferInstance) (Z0 rfl inferInstance) (Zh rfl)) kp
end
end Go.Proofs.YtfaecpkocgcofaaGreatDoor
