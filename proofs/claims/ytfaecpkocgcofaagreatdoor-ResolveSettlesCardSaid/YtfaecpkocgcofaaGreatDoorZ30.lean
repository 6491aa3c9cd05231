/- Lemmas for ResolveSettles, printed small: N15. -/
import Derived.Test.YtfaecpkocgcofaaGreatDoorZ29
set_option linter.all false
set_option maxRecDepth 100000
set_option maxHeartbeats 8000000
open Go.Proofs.Tryz
namespace Go.Proofs.YtfaecpkocgcofaaGreatDoor
section
open Go.RowKit
def kfl:List (Int×Nat×Nat):=[(1,57,0),(2,58,1),(3,59,2),(4,60,3),(5,61,4),(6,62,5),(7,63,6),
 (8,64,7),(10,65,8),(11,66,9),(12,67,10),(13,68,11),(14,68,12)]
def Zd2 (k:Int):Option Nat:=(kfl.lookup k).map (·.1)
theorem ZkX (R:Nat):(Zh5 R).toList=kfl.map fun p=>⟨.int .u8 p.1,Zfy p.2.1 R,p.2.2⟩:=rfl
theorem Zdp (R:Nat) (k:Int):∀(l:List (Int×Nat×Nat)) (i:Nat),∃q,Instr.findNow (.int .u8) (.int .u8 k) (l.map fun p=>⟨.int .u8 p.1,Zfy p.2.1 R,p.2.2⟩) i=some q∧q.map (·.2)=((l.lookup k).map (·.1)).map (Zfy · R)
 | [],i=>⟨none,rfl,rfl⟩
 | (j,f,b)::l,i=>by
  have e:Instr.sameNow (.int .u8) (.int .u8 k) (.int .u8 j)=some (k == j):=rfl
  simp only[List.map_cons,Instr.findNow,e,List.lookup_cons]
  cases h:(k == j)with
  | true=>exact⟨_,rfl,rfl⟩
  | false=>exact Zdp R k l (i+1)
theorem Tryz.zeroKf (w:World):(zeroValue 145).run prog w= .ok .nilFunc w:=by kernel_rfl
theorem ZdN {P:Program} {T K E:TypeId} {d:TypeDesc} (w:World) (hT:P.underlying T=some (.map K E)) (hK:P.underlying K=some d) {z:Value} (hz:(zeroValue E).run P w= .ok z w) (r:Nat) (es:Array MapEntry) (c:Nat) (hb:w.heap[r]? =some (.map es c)) (key:Value) (hk:JV d key=true) (q:Option (Nat×Value)) (hf:Instr.findNow d key es.toList 0=some q):
 (Instr.lookup T (.map (some r)) key false).run P w= .ok ((q.map (·.2)).getD z) w:=by
 unfold Instr.lookup
 simp only[Sem.run_bind,run_underlying hT,Result.andThen_ok,getObj,Sem.run,hb,YU _ hK hk,Instr.findKey,run_underlying hK,hf,Sem.run_pure]
 cases q with
 | none=>simp[hz]
 | some x=>simp
def kfV (o:Option Nat) (R:Nat):Value:=match o with | some f=>Zfy f R | none=> .nilFunc
def ZkP (m k:Value):Sem Next:=do return .value (←Instr.lookup 129 m k false)
@[go_sem ↓] theorem ZnY (ρ:Operand→Value) (dst:Option Tmp) (m k:Operand) (ty:TypeId) (pos:String) (after:Array Edge) (guard:Option (Nat×Bool)):
 execOp ρ {dst,op:= .lookup 129 m k false,type:=ty,pos,after,guard}=ZkP (ρ m) (ρ k):=rfl
class JS (w:World) (mr:Nat) (R:outParam Nat):Prop where
 has:w.heap[mr]? =some (.map (Zh5 R) 13)
instance (w:World) (mr R:Nat) (ob:Obj) [h:JS w mr R]:JS (w.alloc ob) mr R:=⟨Zr h.has (Array.getElem?_eq_some_iff.1 h.has).1⟩
instance (w:World) (mr R:Nat) [h:JS w mr R]:JS w.drew mr R:=⟨h.has⟩
instance (w w':World) (mr R:Nat) [p:Zb w' w] [h:JS w mr R]:JS w' mr R:=⟨p.kept.obj h.has (by simp)⟩
@[go_sem] theorem Zro (w:World) (mr R:Nat) (k:Int) [h:JS w mr R]:Sem.run prog (ZkP (.map (some mr)) (.int .u8 k)) w= .ok (.value (kfV (Zd2 k) R)) w:=by
 obtain⟨q,h1,h2⟩:=Zdp R k kfl 0
 rw[←ZkX]at h1
 simp only[ZkP,Sem.run_bind,ZdN w underlying129 underlying36 (Tryz.zeroKf w) mr (Zh5 R) 13 h.has (.int .u8 k) rfl q h1,Result.andThen_ok,Sem.run_pure]
 congr 2
 show _=kfV ((kfl.lookup k).map (·.1)) R
 rw[h2]
 cases(kfl.lookup k).map (·.1) <;> rfl
theorem Zg4 {k:Int} {f:Nat} (h:Zd2 k=some f):∀args w,(callFunc f args).run prog w= .ok (.enter f args) w:=by
 have key:∀p,p∈kfl→∀args w,(callFunc p.2.1 args).run prog w= .ok (.enter p.2.1 args) w:=by
  intro p hp
  simp only[kfl,List.mem_cons,List.not_mem_nil,or_false]at hp
  rcases hp with rfl | rfl | rfl | rfl | rfl | rfl | rfl | rfl | rfl | rfl | rfl | rfl | rfl
  ·exact Go.Proofs.enters_of func57 (by kernel_rfl) rfl
  ·exact Go.Proofs.enters_of func58 (by kernel_rfl) rfl
  ·exact Go.Proofs.enters_of func59 (by kernel_rfl) rfl
  ·exact Go.Proofs.enters_of func60 (by kernel_rfl) rfl
  ·exact Go.Proofs.enters_of func61 (by kernel_rfl) rfl
  ·exact Go.Proofs.enters_of func62 (by kernel_rfl) rfl
  ·exact Go.Proofs.enters_of func63 (by kernel_rfl) rfl
  ·exact Go.Proofs.enters_of func64 (by kernel_rfl) rfl
  ·exact Go.Proofs.enters_of func65 (by kernel_rfl) rfl
  ·exact Go.Proofs.enters_of func66 (by kernel_rfl) rfl
  ·exact Go.Proofs.enters_of func67 (by kernel_rfl) rfl
  ·exact Go.Proofs.enters_of func68 (by kernel_rfl) rfl
  ·exact Go.Proofs.enters_of func68 (by kernel_rfl) rfl
 unfold Zd2 at h
 cases hl:kfl.lookup k with
 | none=>rw[hl]at h;cases h
 | some q=>
  rw[hl]at h
  simp only[Option.map_some,Option.some.injEq]at h
  subst h
  have hmem:∀(l:List (Int×Nat×Nat)),l.lookup k=some q→∃j,(j,q)∈l:=by
   intro l
   induction l with
   | nil=>intro h;simp at h
   | cons p l ih=>
    obtain⟨j,r⟩:=p
    intro h
    rw[List.lookup_cons]at h
    split at h
    ·cases h;exact⟨j,by simp⟩
    ·obtain⟨j',hj⟩:=ih h
     exact⟨j',by simp[hj]⟩
  obtain⟨j,hj⟩:=hmem kfl hl
  exact key (j,q) hj
def ndC (x:ExV) (m p q c:Value):Array Value:=#[.int .u8 x.kind,.int .u8 x.oper,.int .i64 x.n,.string x.s,.slice x.la x.ls.length x.lc,.slice x.aa x.al.length x.ac,.int .i64 x.line,.int .i64 x.ent,.int .i64 x.t,m,p,q,c]
section
variable (x:ExV) (m p q c:Value)
@[go_sem] theorem ZuT:(ndC x m p q c)[9]? =some m:=rfl
@[go_sem] theorem Zt0:(ndC x m p q c)[10]? =some p:=rfl
@[go_sem] theorem ZtZ:(ndC x m p q c)[11]? =some q:=rfl
@[go_sem] theorem ZtY:(ndC x m p q c)[12]? =some c:=rfl
@[go_sem] theorem ZuS (v:Value):(ndC x m p q c).setIfInBounds 9 v=ndC x v p q c:=rfl
@[go_sem] theorem ZtX (v:Value):(ndC x m p q c).setIfInBounds 10 v=ndC x m v q c:=rfl
@[go_sem] theorem ZtW (v:Value):(ndC x m p q c).setIfInBounds 11 v=ndC x m p v c:=rfl
@[go_sem] theorem ZtV (v:Value):(ndC x m p q c).setIfInBounds 12 v=ndC x m p q v:=rfl
end
theorem NdV.cells_ndC (d:NdV):d.cells.toArray=ndC d.x (.slice d.ma d.ms.length d.mc) (.slice d.pa d.parts.length d.pc) (.slice d.qa d.args.length d.qc) (.slice d.ca d.chs.length d.cc):=rfl
def Zht (v:Value):Sem Next:=do return .value (←Instr.build 143 #[(0,v)])
@[go_sem ↓] theorem Zmz (ρ:Operand→Value) (dst:Option Tmp) (x:Operand) (ty:TypeId) (pos:String) (after:Array Edge) (guard:Option (Nat×Bool)):
 execOp ρ {dst,op:= .build 143 #[(0,x)],type:=ty,pos,after,guard}=Zht (ρ x):=by simp[execOp,Zht]
@[go_sem] theorem ZpY (w:World) (x:ExV):Sem.run prog (Zht (.agg x.cells.toArray)) w= .ok (.value (.agg (ndC x (.slice none 0 0) (.slice none 0 0) (.slice none 0 0) (.slice none 0 0)))) w:=by kernel_rfl
def Zq1 (v:Value):Sem Next:=do return .value (←Instr.box 143 v)
@[go_sem ↓] theorem Zpm (ρ:Operand→Value) (dst:Option Tmp) (x:Operand) (ty:TypeId) (pos:String) (after:Array Edge) (guard:Option (Nat×Bool)):
 execOp ρ {dst,op:= .box 143 x,type:=ty,pos,after,guard}=Zq1 (ρ x):=by simp[execOp,Zq1]
def Zeo (v:Value):Sem Next:=do return .value (←Instr.buildSlice 120 1 #[(0,v)])
@[go_sem ↓] theorem Zlk (ρ:Operand→Value) (dst:Option Tmp) (x:Operand) (ty:TypeId) (pos:String) (after:Array Edge) (guard:Option (Nat×Bool)):
 execOp ρ {dst,op:= .buildSlice 120 1 #[(0,x)],type:=ty,pos,after,guard}=Zeo (ρ x):=by simp[execOp,Zeo]
@[go_sem] theorem ZoW (w:World) (p:Nat):Sem.run prog (Zeo (.pointer (some ⟨p,0,none⟩))) w= .ok (.value (.slice (some ⟨w.heap.size,0,none⟩) 1 1)) (w.alloc (.cells #[.pointer (some ⟨p,0,none⟩)] 105)):=by kernel_rfl
def Zen (v:Value):Sem Next:=do return .value (←Instr.buildSlice 147 1 #[(0,v)])
@[go_sem ↓] theorem Zlj (ρ:Operand→Value) (dst:Option Tmp) (x:Operand) (ty:TypeId) (pos:String) (after:Array Edge) (guard:Option (Nat×Bool)):
 execOp ρ {dst,op:= .buildSlice 147 1 #[(0,x)],type:=ty,pos,after,guard}=Zen (ρ x):=by simp[execOp,Zen]
@[go_sem] theorem ZoV (w:World) (A:Option Addr) (n c:Nat):Sem.run prog (Zen (.slice A n c)) w= .ok (.value (.slice (some ⟨w.heap.size,0,none⟩) 1 1)) (w.alloc (.cells #[.slice A n c] 120)):=by kernel_rfl
def Zep (v:Value):Sem Next:=do return .value (←Instr.buildSlice 141 1 #[(0,v)])
@[go_sem ↓] theorem Zll (ρ:Operand→Value) (dst:Option Tmp) (x:Operand) (ty:TypeId) (pos:String) (after:Array Edge) (guard:Option (Nat×Bool)):
 execOp ρ {dst,op:= .buildSlice 141 1 #[(0,x)],type:=ty,pos,after,guard}=Zep (ρ x):=by simp[execOp,Zep]
@[go_sem] theorem ZoX (w:World) (A:Option Addr) (n c:Nat):Sem.run prog (Zep (.slice A n c)) w= .ok (.value (.slice (some ⟨w.heap.size,0,none⟩) 1 1)) (w.alloc (.cells #[.slice A n c] 147)):=by kernel_rfl
@[go_sem] theorem ZrW (w:World) (x:ExV) (m p q c:Option Addr) (m1 m2 p1 p2 q1 q2 c1 c2:Nat):Sem.run prog (Zq1 (.agg (ndC x (.slice m m1 m2) (.slice p p1 p2) (.slice q q1 q2) (.slice c c1 c2)))) w= .ok (.value (.pointer (some ⟨w.heap.size,0,none⟩))) (w.alloc (.cells (ndC x (.slice m m1 m2) (.slice p p1 p2) (.slice q q1 q2) (.slice c c1 c2)) 143)):=by kernel_rfl
def ZbT (w:World) (base:Nat) (u:Value) (ps:List Nat):Prop:=w.ownsRow base 105 1 u ps.length (ps.map fun p=> .pointer (some ⟨p,0,none⟩))
theorem ZbT.nil (w:World) (base:Nat):ZbT w base (.slice none 0 0) []:=World.ownsRow_nil _ _ _ _
theorem ZbT.keep {w w':World} {base:Nat} {v:Value} {l:List Nat} {X:List Nat} (h:ZbT w base v l) (hk:Kept X w w') (hx:∀k,v.ownBlock=some k→k∉X):ZbT w' base v l:=Zk h hk hx
theorem ZbT.base' {w:World} {base base':Nat} {v:Value} {l:List Nat} (h:ZbT w base v l) (hb:base'≤base):ZbT w base' v l:=Z7 h hb
theorem ZbT.ptrs {w:World} {base:Nat} {u:Value} {ps:List Nat} (h:ZbT w base u ps):∃A c,u= .slice A ps.length c∧Ji w A ps:=by
 rcases h.2 with⟨rfl,hn⟩ | ⟨g,cap,cur,rfl,hb,hg,hcap,hmax,_⟩
 ·exact⟨none,0,by rw[hn],.inl (List.eq_nil_of_length_eq_zero hn)⟩
 ·refine⟨_,cap,rfl,.inr ⟨g,0,rfl,fun j x hx=>?_⟩⟩
  have:=h.cells (g:=g) rfl j (.pointer (some ⟨x,0,none⟩)) (by simp[hx])
  rwa [Addr.add_mid]at this
theorem ZbT.st {X:List Nat} {w:World} {base:Nat} {u:Value} {ps:List Nat} (h:ZbT w base u ps) (hX:∀q,q∈X→q < base):∃A c,u= .slice A ps.length c∧St X w (fun w'=>Ji w' A ps):=by
 obtain⟨A,c,rfl,_⟩:=h.ptrs
 refine⟨A,c,rfl,fun w' hk=>?_⟩
 obtain⟨A',c',e,hr⟩:=(h.keep hk (fun k hk2 hm=>by have:=hX k hm;have:=(h.lt k hk2).1;omega)).ptrs
 cases e
 exact hr
def Zgk (w:World) (base:Nat) (u:Value) (n:Nat):Prop:=w.ownsRow base 147 1 u n (List.replicate n (.slice none 0 0))
theorem Zgk.nil (w:World) (base:Nat):Zgk w base (.slice none 0 0) 0:=World.ownsRow_nil _ _ _ _
theorem Zgk.keep {w w':World} {base:Nat} {v:Value} {n:Nat} {X:List Nat} (h:Zgk w base v n) (hk:Kept X w w') (hx:∀k,v.ownBlock=some k→k∉X):Zgk w' base v n:=Zk h hk hx
theorem Zgk.cho {w:World} {base:Nat} {u:Value} {n:Nat} (h:Zgk w base u n):∃A c,u= .slice A n c∧Zrl w A (List.replicate n []):=by
 rcases h.2 with⟨rfl,hn⟩ | ⟨g,cap,cur,rfl,hb,hg,hcap,hmax,_⟩
 ·subst hn;exact⟨none,0,rfl,.inl rfl⟩
 ·refine⟨_,cap,rfl,.inr ⟨g,0,rfl,fun j x hx=>?_⟩⟩
  have hj:j < n:=by simpa using(List.getElem?_eq_some_iff.1 hx).1
  have:=h.cells (g:=g) rfl j (.slice none 0 0) (by simp[hj])
  rw[Addr.add_mid]at this
  obtain rfl:x= []:=by
   have:=List.mem_of_getElem? hx
   simpa using(List.mem_replicate.1 this).2
  exact⟨_,this,none,0,rfl,.inl rfl,by simp⟩
theorem Zgk.st {X:List Nat} {w:World} {base:Nat} {u:Value} {n:Nat} (h:Zgk w base u n) (hX:∀q,q∈X→q < base):∃A c,u= .slice A n c∧St X w (fun w'=>Zrl w' A (List.replicate n [])):=by
 obtain⟨A,c,rfl,_⟩:=h.cho
 refine⟨A,c,rfl,fun w' hk=>?_⟩
 obtain⟨A',c',e,hr⟩:=(h.keep hk (fun k hk2 hm=>by have:=hX k hm;have:=(h.lt k hk2).1;omega)).cho
 cases e
 exact hr
theorem ZdX {X:List Nat} {w:World}:∀{ls:List NdV},(∀y,y∈ls→NdD X w y)→∃n,∀y,y∈ls→∀w',Kept X w w'→Zgl w' n y
 | [],_=>⟨0,fun y hy=>by simp at hy⟩
 | x::ls,h=>by
  obtain⟨n,hn⟩:=ZdX (ls:=ls) (fun y hy=>h y (List.mem_cons_of_mem _ hy))
  obtain⟨m,hm⟩:=h x (by simp)
  refine⟨n+m,fun y hy w' hk=>?_⟩
  rcases List.mem_cons.1 hy with rfl | hy
  ·exact(hm w' hk).mono (by omega)
  ·exact(hn y hy w' hk).mono (by omega)
theorem ZkH {X:List Nat} {w:World}:∀{ms:List MeV},MsD X w ms→∃n,∀m,m∈ms→ExK X w n m.e
 | [],_=>⟨0,fun y hy=>by simp at hy⟩
 | x::ls,h=>by
  obtain⟨n,hn⟩:=ZkH (ms:=ls) (fun y hy=>h y (List.mem_cons_of_mem _ hy))
  obtain⟨m,hm⟩:=h x (by simp)
  refine⟨n+m,fun y hy w' hk=>?_⟩
  rcases List.mem_cons.1 hy with rfl | hy
  ·exact(hm w' hk).mono (by omega)
  ·exact(hn y hy w' hk).mono (by omega)
theorem NdD.make {X:List Nat} {w:World} {d:NdV} (h1:St X w (fun w'=>w'.heap[d.p]? =some (.cells d.cells.toArray 143 (0,0)))) (h2:ExD X w d.x) (h3:St X w (fun w'=>Zo MeV 12 MeV.cells w' d.ma d.ms)) (h4:MsD X w d.ms) (h5:∀m,m∈d.ms→0≤m.n∧m.n≤2) (h6:d.ms.length≤1000000)
 (h7:St X w (fun w'=>Ji w' d.pa (d.parts.map NdV.p))) (h8:∀y,y∈d.parts→NdD X w y) (h9:d.parts.length≤1000000000) (h10:St X w (fun w'=>Ji w' d.qa (d.args.map NdV.p))) (h11:∀y,y∈d.args→NdD X w y) (h12:d.args.length≤1000000000)
 (h13:St X w (fun w'=>Zrl w' d.ca d.chs)) (h14:∀l,l∈d.chs→∀k,k∈l→∀y,y∈k→NdD X w y) (h15:d.chs.length≤1000000000):NdD X w d:=by
 obtain⟨n2,k2⟩:=h2
 obtain⟨n4,k4⟩:=ZkH h4
 obtain⟨n8,k8⟩:=ZdX h8
 obtain⟨n11,k11⟩:=ZdX h11
 obtain⟨n14,k14⟩:=ZdX (X:=X) (w:=w) (ls:=d.chs.flatten.flatten) (fun y hy=>by
  obtain⟨k,hk,hy⟩:=List.mem_flatten.1 hy
  obtain⟨l,hl,hk⟩:=List.mem_flatten.1 hk
  exact h14 l hl k hk y hy)
 refine⟨n2+n4+n8+n11+n14+1,fun w' hk=>⟨h1 w' hk,(k2 w' hk).mono (by omega),h3 w' hk,fun m hm=>⟨(k4 m hm w' hk).mono (by omega),h5 m hm⟩,h6,h7 w' hk,fun y hy=>(k8 y hy w' hk).mono (by omega),h9,h10 w' hk,fun y hy=>(k11 y hy w' hk).mono (by omega),h12,
  h13 w' hk,fun l hl k hk2 y hy=>(k14 y (List.mem_flatten.2 ⟨k,List.mem_flatten.2 ⟨l,hl,hk2⟩,hy⟩) w' hk).mono (by omega),h15⟩⟩
theorem NdD.grow {X:List Nat} {w w':World} {v v':Value} {x:NdV} (h:NdD (Qd v X) w x) (hg:w.grownBy w' v.ownBlock) (ha:v'.ownBlock=v.ownBlock∨∃b,v'.ownBlock=some b∧w.heap.size≤b):NdD (Qd v' X) w' x:=by
 obtain⟨n,h⟩:=h
 refine⟨n,fun w'' hk=>h w'' ⟨hk.os.trans hg.os,hk.tape.trans hg.tape,hk.output.trans hg.output,Nat.le_trans hg.size hk.size,fun i hi hx=>?_⟩⟩
 rw[Zl]at hx
 rw[hk.block i (Nat.lt_of_lt_of_le hi hg.size) (by
  rw[Zl]
  rintro(h1 | h1)
  ·rcases ha with h2 | ⟨b,h2,h3⟩
   ·exact hx (.inl (h2▸h1))
   ·rw[h2]at h1
    cases h1
    omega
  ·exact hx (.inr h1))]
 exact hg.block i hi (fun e=>hx (.inl e.symm))
def NdM (M:Nat→ExV→List MeV):Nat→NdV→Prop
 | 0,_=>False
 | n+1,d=>d.ms.map MeV.er=M (n+1) d.x.er∧d.parts.map (fun y=>y.x.er)=d.x.er.ls∧(∀y,y∈d.parts→NdM M n y)∧d.args.map (fun y=>y.x.er)=d.x.er.al.map (fun a=>a.2.2.2)∧(∀y,y∈d.args→NdM M n y)∧
  d.chs.map (fun l=>l.map (fun k=>k.map (fun y=>y.x.er)))=d.x.er.al.map (fun a=>a.2.1.map (fun c=>c.2.2.2))∧(∀l,l∈d.chs→∀k,k∈l→∀y,y∈k→NdM M n y)
def NdS (M:Nat→ExV→List MeV) (n:Nat) (d:NdV):Prop:=d.parts.map (fun y=>y.x.er)=d.x.er.ls∧(∀y,y∈d.parts→NdM M n y)∧d.args.map (fun y=>y.x.er)=d.x.er.al.map (fun a=>a.2.2.2)∧(∀y,y∈d.args→NdM M n y)∧
 d.chs.map (fun l=>l.map (fun k=>k.map (fun y=>y.x.er)))=d.x.er.al.map (fun a=>a.2.1.map (fun c=>c.2.2.2))∧(∀l,l∈d.chs→∀k,k∈l→∀y,y∈k→NdM M n y)
def Zrf (M:Nat→ExV→List MeV) (X:List Nat) (n:Nat) (μ:ExV) (w:World) (e:Ending) (w':World):Prop:=∃d:NdV,e= .returned (.pointer (some ⟨d.p,0,none⟩))∧d.x.er=μ∧NdM M n d∧NdD X w' d∧Kept [] w w'
theorem NdD.z {X Z Z':List Nat} {w w':World} {x:NdV} (h:NdD (X++Z) w x) (hk:Kept [] w w') (hz:∀q,q∈Z'→q∈Z∨w.heap.size≤q):NdD (X++Z') w' x:=h.later hk (fun q hq=>by
 rcases List.mem_append.1 hq with h1 | h1
 ·exact .inl (List.mem_append.2 (.inl h1))
 ·exact(hz q h1).imp (fun h=>List.mem_append.2 (.inr h)) (fun h=>h))
def SZ.nd (M:Nat→ExV→List MeV) (X:List Nat) (n:Nat) (μ:ExV):SZ:=⟨fun Z v w=>∃d:NdV,v= .pointer (some ⟨d.p,0,none⟩)∧d.x.er=μ∧NdM M n d∧NdD (X++Z) w d,fun _ _ _ _ _ ⟨x,h1,h2,h3,h4⟩ hk _ hz=>⟨x,h1,h2,h3,h4.z hk hz⟩⟩
theorem SZ.nd_p (M:Nat→ExV→List MeV) (X:List Nat) (n:Nat) (μ:ExV) (Z:List Nat) (v:Value) (w:World):(SZ.nd M X n μ).p Z v w=∃d:NdV,v= .pointer (some ⟨d.p,0,none⟩)∧d.x.er=μ∧NdM M n d∧NdD (X++Z) w d:=rfl
def SZ.oc (M:Nat→ExV→List MeV) (X:List Nat) (n:Nat) (μ:ExV):SZ:=⟨fun Z v w=>∃(B:Nat) (d:NdV),v= .slice (some ⟨B,0,none⟩) 1 1∧w.heap[B]? =some (.cells #[.pointer (some ⟨d.p,0,none⟩)] 105 (0,0))∧d.x.er=μ∧NdM M n d∧NdD (X++Z) w d,fun _ _ _ _ _ ⟨B,x,h1,h0,h2,h3,h4⟩ hk _ hz=>⟨B,x,h1,hk.obj h0 (by simp),h2,h3,h4.z hk hz⟩⟩
theorem SZ.oc_p (M:Nat→ExV→List MeV) (X:List Nat) (n:Nat) (μ:ExV) (Z:List Nat) (v:Value) (w:World):(SZ.oc M X n μ).p Z v w=∃(B:Nat) (d:NdV),v= .slice (some ⟨B,0,none⟩) 1 1∧w.heap[B]? =some (.cells #[.pointer (some ⟨d.p,0,none⟩)] 105 (0,0))∧d.x.er=μ∧NdM M n d∧NdD (X++Z) w d:=rfl
theorem Zng:(prog.info? 105).map (fun i=>(i.zero,i.size,i.bytes))=some (some (.pointer none),1,8):=by kernel_rfl
theorem Zol:(prog.info? 147).map (fun i=>(i.zero,i.size,i.bytes))=some (some (.slice none 0 0),1,24):=by kernel_rfl
end
end Go.Proofs.YtfaecpkocgcofaaGreatDoor
