/- Lemmas for ResolveSettles, printed small: L8 L11 L12. -/
import Derived.Test.YtfaecpkocgcofaaGreatDoorZ46
import Derived.Test.YtfaecpkocgcofaaGreatDoorZ42
set_option linter.all false
set_option maxRecDepth 100000
set_option maxHeartbeats 8000000
open Go.Proofs.Tryz
namespace Go.Proofs.YtfaecpkocgcofaaGreatDoor
section
open Go.RowKit
def Zh0:ByteArray:=⟨#[82,101,100]⟩
def ZD:ByteArray:=⟨#[71,114,101,101,110]⟩
def QM:ByteArray:=⟨#[65,109,98,101,114]⟩
def Zfx:ByteArray:=⟨#[67,111,108,111,114]⟩
def Zpd:ByteArray:=⟨#[76,105,103,104,116]⟩
def Zn7 (kl la lb:Nat):List TyV:=J5 kl++ [ZkD (QO kl) Zfx (some ⟨la,0,none⟩) 2 [Zh0,ZD] 5,ZkD (QO kl) Zpd (some ⟨lb,0,none⟩) 2 [ZD,QM] 6]
def Zlz:List ZL:=Yh++ [⟨4,0,1⟩,⟨5,0,1⟩]
def exL (q:Nat→Option Addr×Nat):List Zx:=[Q3 (J1 2 ⟨#[80]⟩ 0 (-1) (-1) 0) (q 0).1 (q 0).2 [],Q3 (J1 10 Zh0 15 4 (-1) 0) (q 1).1 (q 1).2 [],Q3 (J1 10 ZD 15 4 (-1) 1) (q 2).1 (q 2).2 [],Q3 (J1 10 ZD 15 5 (-1) 0) (q 3).1 (q 3).2 [],Q3 (J1 10 QM 15 5 (-1) 1) (q 4).1 (q 4).2 [],
 Q3 (J1 7 ⟨#[99]⟩ 15 4 5 0) (q 5).1 (q 5).2 [],Q3 (J1 7 ⟨#[108]⟩ 15 5 6 0) (q 6).1 (q 6).2 [],Q3 (J1 7 ⟨#[110]⟩ 15 1 0 0) (q 7).1 (q 7).2 [],Q3 (J1 4 ⟨#[70]⟩ 15 1 0 0) (q 8).1 (q 8).2 [Yc 5],Q3 (J1 4 ⟨#[70]⟩ 15 2 1 0) (q 9).1 (q 9).2 [Yc 6],Q3 (J1 5 Zfx 15 4 5 0) (q 10).1 (q 10).2 []]
def exT (kl k1 k2 la lb:Nat) (q:Nat→Option Addr×Nat):Tab:=⟨Zn7 kl la lb,Zlz,Qy k1 k2++exL q⟩
def exW:WhV:=⟨15,26,none,0,[],none,0,[]⟩
def ZuF (w:World) (l:List Zx):Prop:=∀x,x∈l→Ziv w x.pa x.pc x.params
def Zdx (w5:World) (n B:Nat) (kl k1 k2 la lb:Nat) (l:List Zx) (w:World):Prop:=∃v,ZbF w n B v ⟨Zn7 kl la lb,Zlz,Qy k1 k2++l⟩∧ZuF w l∧KpT n w5 w
theorem Qz {w5 a:World} {n B kl k1 k2 la lb:Nat} {l:List Zx} (h:Zdx w5 n B kl k1 k2 la lb l a) (hl:l.length≤100) (k:Int) (name:ByteArray) (ty sub val:Int) (A:Option Addr) (c:Nat) (xs:List Int) (hxs:ZM a A xs) (hxl:xs.length≤100) (o:Int) (ho:(if(Qy k1 k2++l).length=15 then(0:Int)else 15)=o):
 Calls prog 27 #[.int .u8 k,.string name,.int .i64 ty,.int .i64 sub,.int .i64 val,.slice A xs.length c,.pointer (some ⟨B,0,none⟩)] a (fun e w'=>e= .returned (.tuple #[])∧∃pa pc,Zdx w5 n B kl k1 k2 la lb (l++ [Q3 (J1 k name o ty sub val) pa pc (xs.map Yc)]) w'):=by
 obtain⟨v,h1,h2,h3⟩:=h
 refine(Zkf a n B v _ h1 (by show(Qy k1 k2++l).length≤5000;rw[List.length_append];show 15+l.length≤5000;omega) k name ty sub val A c xs hxs hxl).mono ?_
 rintro e w' ⟨rfl,v',pa,pc,g1,g2,g3⟩
 refine⟨rfl,pa,pc,v',?_,?_,h3.trans g3⟩
 ·have e1:(if(⟨Zn7 kl la lb,Zlz,Qy k1 k2++l⟩:Tab).ents.length=15 then(0:Int)else 15)=o:=ho
  rw[e1]at g1
  rw[←List.append_assoc]
  exact g1
 ·intro x hx
  rcases List.mem_append.1 hx with hx | hx
  ·exact(h2 x hx).kpt g3
  ·obtain rfl:=List.mem_singleton.1 hx
   exact g2
theorem Tryz.entersSome1:∀args w,(callFunc 26 args).run prog w= .ok (.enter 26 args) w:=Go.Proofs.enters_of func26 (by kernel_rfl) rfl
theorem Tryz.entersSome2:∀args w,(callFunc 27 args).run prog w= .ok (.enter 27 args) w:=Go.Proofs.enters_of func27 (by kernel_rfl) rfl
def Zq2 (v0 v1:Value):Sem Next:=do return .value (←Instr.buildSlice 81 2 #[(0,v0),(1,v1)])
@[go_sem ↓] theorem Zpn (ρ:Operand→Value) (dst:Option Tmp) (x0 x1:Operand) (ty:TypeId) (pos:String) (after:Array Edge) (guard:Option (Nat×Bool)):
 execOp ρ {dst,op:= .buildSlice 81 2 #[(0,x0),(1,x1)],type:=ty,pos,after,guard}=Zq2 (ρ x0) (ρ x1):=by simp[execOp,Zq2]
@[go_sem] theorem ZrX (w:World) (a b:ByteArray):Sem.run prog (Zq2 (.string a) (.string b)) w= .ok (.value (.slice (some ⟨w.heap.size,0,none⟩) 2 2)) (w.alloc (.cells #[.string a,.string b] 9)):=by kernel_rfl
def Zq4 (v0:Value):Sem Next:=do return .value (←Instr.buildSlice 31 1 #[(0,v0)])
@[go_sem ↓] theorem Zpp (ρ:Operand→Value) (dst:Option Tmp) (x0:Operand) (ty:TypeId) (pos:String) (after:Array Edge) (guard:Option (Nat×Bool)):
 execOp ρ {dst,op:= .buildSlice 31 1 #[(0,x0)],type:=ty,pos,after,guard}=Zq4 (ρ x0):=by simp[execOp,Zq4]
@[go_sem] theorem ZrZ (w:World) (a:Int):Sem.run prog (Zq4 (.int .i64 a)) w= .ok (.value (.slice (some ⟨w.heap.size,0,none⟩) 1 1)) (w.alloc (.cells #[.int .i64 a] 3)):=by kernel_rfl
def bWh (v0 v1:Value):Sem Next:=do return .value (←Instr.build 33 #[(0,v0),(1,v1)])
@[go_sem ↓] theorem Zrx (ρ:Operand→Value) (dst:Option Tmp) (x0 x1:Operand) (ty:TypeId) (pos:String) (after:Array Edge) (guard:Option (Nat×Bool)):
 execOp ρ {dst,op:= .build 33 #[(0,x0),(1,x1)],type:=ty,pos,after,guard}=bWh (ρ x0) (ρ x1):=by simp[execOp,bWh]
@[go_sem] theorem ZtG (w:World):Sem.run prog (bWh (.int .i64 15) (.int .i64 26)) w= .ok (.value (.agg exW.cells.toArray)) w:=by kernel_rfl
theorem Zfp {α:Type} {cells:α→List Value} {m:Nat} (hm:∀x,(cells x).length=m) {w:World} {n k:Nat} {e:TypeId} {l:List α} (h:w.heap[k]? =some (.cells (l.map cells).flatten.toArray e (0,0))) (hn:n≤k) (hl:l.length≤1000):w.ownsRow n e m (.slice (some ⟨k,0,none⟩) l.length l.length) l.length (l.map cells).flatten:=by
 have hlen:(l.map cells).flatten.length=l.length*m:=by
  clear h hl
  induction l with
  | nil=>simp
  | cons a l ih=>rw[List.map_cons,List.flatten_cons,List.length_append,ih,hm,List.length_cons,Nat.add_mul];omega
 refine⟨hlen,.inr ⟨k,l.length,_,rfl,hn,h,Nat.le_refl _,by unfold maxLen;omega,by rw[List.size_toArray,hlen],?_⟩⟩
 rw[←hlen]
 exact List.take_length
theorem Zdx.kept {w5 a b:World} {n B kl k1 k2 la lb:Nat} {l:List Zx} (h:Zdx w5 n B kl k1 k2 la lb l a) (hk:Kept [] a b):Zdx w5 n B kl k1 k2 la lb l b:=by
 obtain⟨v,h1,h2,h3⟩:=h
 exact⟨v,h1.kept hk,fun x hx=>(h2 x hx).kpt (KpT.of_kept (n:=n) hk),h3.trans (KpT.of_kept hk)⟩
theorem Ziv.facts {w:World} {pa:Option Addr} {pc:Nat} {ps:List Zd} (h:Ziv w pa pc ps):Zo Zd 13 Zd.cells w pa ps∧ps.length≤pc∧pc≤9223372036854775807∧(pa=none→pc=0):=by
 obtain⟨A,c,e,h1,h2,h3,h4⟩:=YF h Zd.len rfl
 injection e with e1 e2 e3
 subst e1 e3
 exact⟨h4,h1,h2,h3⟩
theorem ZbF.far {w w':World} {n B:Nat} {v:Zp} {t:Tab} {X:List Nat} (h:ZbF w n B v t) (hk:Kept X w w') (hX:∀q,q∈X→q < n):ZbF w' n B v t:=
 ⟨hk.obj h.box (fun hm=>by have:=hX _ hm;have:=h.hn;omega),Zk h.ot hk (fun g hg hm=>by have:=hX _ hm;have:=(h.ot.lt g hg).1;omega),Zk h.os hk (fun g hg hm=>by have:=hX _ hm;have:=(h.os.lt g hg).1;omega),Zk h.oe hk (fun g hg hm=>by have:=hX _ hm;have:=(h.oe.lt g hg).1;omega),h.hn⟩
theorem Zlf {w w':World} {X:List Nat} {k:Nat} {c:Array Value} (hk:Kept X w w') (hX:∀q,q∈X→∃c ty,w.heap[q]? =some (.cells c ty (0,0))∧ty≠98) (h:w.heap[k]? =some (.cells c 98 (0,0))):w'.heap[k]? =some (.cells c 98 (0,0)):=hk.obj h (fun hm=>by
 obtain⟨c',ty,h1,h2⟩:=hX _ hm
 rw[h]at h1
 simp only[Option.some.injEq,Obj.cells.injEq]at h1
 exact h2 h1.2.1.symm)
theorem Ziv.far {w w':World} {X:List Nat} {pa:Option Addr} {pc:Nat} {ps:List Zd} (h:Ziv w pa pc ps) (hk:Kept X w w') (hX:∀q,q∈X→∃c ty,w.heap[q]? =some (.cells c ty (0,0))∧ty≠98):Ziv w' pa pc ps:=Zk h hk (fun g hg hm=>by
 obtain⟨c,hc⟩:=Qj h hg
 obtain⟨c',ty,h1,h2⟩:=hX _ hm
 rw[hc]at h1
 simp only[Option.some.injEq,Obj.cells.injEq]at h1
 exact h2 h1.2.1.symm)
theorem Tryz.sizeWh:(prog.info? 33).map (·.size)=some 4:=by kernel_rfl
theorem ZkR {w:World} {B:Nat} {cs:Array Value} (h:w.heap[B]? =some (.cells cs 30 (0,0))) (hc:cs.size=5):Ya w 30 ⟨B,0,none⟩ (.agg cs):=⟨by
 have:=run_loadVar_mid (P:=prog) w B 0 30 cs.toList _ (ZR (by simpa using h)) underlying30 rfl (by rw[Tryz.sizeTab];simp[hc])
 simpa using this⟩
theorem ZnE {w:World} {B:Nat} {cs:Array Value} (h:w.heap[B]? =some (.cells cs 33 (0,0))) (hc:cs.size=4):Ya w 33 ⟨B,0,none⟩ (.agg cs):=⟨by
 have:=run_loadVar_mid (P:=prog) w B 0 33 cs.toList _ (ZR (by simpa using h)) underlying33 rfl (by rw[Tryz.sizeWh];simp[hc])
 simpa using this⟩
theorem ZeC {α:Type} {l:List α} {p:α→Bool} (h:l.all p=true):∀x,x∈l→p x=true:=List.all_eq_true.1 h
theorem ZmP {w:World} {n B kl k1 k2 la lb:Nat} {q:Nat→Option Addr×Nat} {v:Zp} (h:ZbF w n B v (exT kl k1 k2 la lb q)) (hp:ZuF w (exL q)) (p1:w.heap[k1]? =some (.cells ([ZcW 1].map Zd.cells).flatten.toArray 98 (0,0))) (p2:w.heap[k2]? =some (.cells ([ZcW 2].map Zd.cells).flatten.toArray 98 (0,0))):Zw w v (exT kl k1 k2 la lb q):=by
 obtain⟨A,c,e,h1,h2,h3,h4⟩:=YF h.oe Zx.len rfl
 injection e with e1 _ e3
 subst e1 e3
 obtain⟨A',c',e',g1,g2,g3,g4⟩:=YF h.os ZL.len rfl
 injection e' with e1 _ e3
 subst e1 e3
 obtain⟨A'',c'',e'',f1,f2,f3,f4⟩:=YF h.ot TyV.len rfl
 injection e'' with e1 _ e3
 subst e1 e3
 have hstd:∀x,x∈Qy k1 k2→(Zo Zd 13 Zd.cells w x.pa x.params∧x.params.length≤x.pc∧x.pc≤9223372036854775807∧(x.pa=none→x.pc=0))∧∀p,p∈x.params→p.d=Zg:=by
  intro x hx
  rcases List.mem_append.1 hx with hx | hx
  ·simp only[ZrN,List.mem_cons,List.not_mem_nil,or_false]at hx
   rcases hx with rfl | rfl | rfl | rfl | rfl | rfl | rfl | rfl | rfl | rfl | rfl | rfl <;> exact⟨⟨.inl rfl,Nat.le_refl _,Nat.zero_le _,fun _=>rfl⟩,fun p hp=>absurd (show p∈([]:List Zd)from hp) (by simp)⟩
  ·simp only[List.mem_cons,List.not_mem_nil,or_false]at hx
   rcases hx with rfl | rfl | rfl
   ·exact⟨⟨YJ p1 Zd.len,Nat.le_refl _,by show 1≤9223372036854775807;decide,fun h=>by cases h⟩,fun p hp=>by rw[List.mem_singleton.1 (show p∈ [ZcW 1]from hp)];rfl⟩
   ·exact⟨⟨YJ p2 Zd.len,Nat.le_refl _,by show 1≤9223372036854775807;decide,fun h=>by cases h⟩,fun p hp=>by rw[List.mem_singleton.1 (show p∈ [ZcW 2]from hp)];rfl⟩
   ·exact⟨⟨.inl rfl,Nat.le_refl _,Nat.zero_le _,fun _=>rfl⟩,fun p hp=>absurd (show p∈([]:List Zd)from hp) (by simp)⟩
 have hex:∀x,x∈exL q→∀p,p∈x.params→p.d=Zg:=by
  intro x hx
  simp only[exL,List.mem_cons,List.not_mem_nil,or_false]at hx
  rcases hx with rfl | rfl | rfl | rfl | rfl | rfl | rfl | rfl | rfl | rfl | rfl
  all_goals first
   | exact fun p hp=>absurd (show p∈([]:List Zd)from hp) (by simp)
   | exact fun p hp=>by rw[List.mem_singleton.1 (show p∈ [Yc 5]from hp)];rfl
   | exact fun p hp=>by rw[List.mem_singleton.1 (show p∈ [Yc 6]from hp)];rfl
 have hpar:∀x,x∈(exT kl k1 k2 la lb q).ents→(Zo Zd 13 Zd.cells w x.pa x.params∧x.params.length≤x.pc∧x.pc≤9223372036854775807∧(x.pa=none→x.pc=0))∧∀p,p∈x.params→p.d=Zg:=fun x hx=>by
  rcases List.mem_append.1 hx with hx | hx
  ·exact hstd x hx
  ·exact⟨(hp x hx).facts,hex x hx⟩
 have hb1:(exT kl k1 k2 la lb q).ents.all (fun x=>decide (x.params.length≤5000) && (decide (x.name.size≤1000) && ((Lit.int .i64 x.owner).wf && (decide (-9223372036854775808≤x.value) && decide (x.value≤9223372036854775807)))))=true:=by kernel_rfl
 have hb:∀x,x∈(exT kl k1 k2 la lb q).ents→x.params.length≤5000∧x.name.size≤1000∧(Lit.int .i64 x.owner).wf=true∧ -9223372036854775808≤x.value∧x.value≤9223372036854775807:=fun x hx=>by
  have:=ZeC hb1 x hx
  simpa using this
 have ht1:(exT kl k1 k2 la lb q).types.all (fun x=>decide (x.lits.length≤1000))=true:=by kernel_rfl
 have ht:∀x,x∈(exT kl k1 k2 la lb q).types→x.lits.length≤1000:=fun x hx=>by
  have:=ZeC ht1 x hx
  simpa using this
 have hs1:(exT kl k1 k2 la lb q).subs.all (fun x=>(decide (-9223372036854775808≤x.lo) && decide (x.lo≤9223372036854775807)) && (decide (-9223372036854775808≤x.hi) && decide (x.hi≤9223372036854775807)))=true:=by kernel_rfl
 have hs:∀x,x∈(exT kl k1 k2 la lb q).subs→(-9223372036854775808≤x.lo∧x.lo≤9223372036854775807)∧(-9223372036854775808≤x.hi∧x.hi≤9223372036854775807):=fun x hx=>by
  have:=ZeC hs1 x hx
  simpa using this
 have l1:(exT kl k1 k2 la lb q).ents.length=26:=rfl
 have l2:(exT kl k1 k2 la lb q).types.length=6:=rfl
 have l3:(exT kl k1 k2 la lb q).subs.length=7:=rfl
 have hcs:∀y,y∈(exT kl k1 k2 la lb q).types→y.comps= []:=by
  intro y hy
  simp only[exT,Zn7,J5,List.cons_append,List.nil_append,List.mem_cons,List.not_mem_nil,or_false]at hy
  rcases hy with rfl | rfl | rfl | rfl | rfl | rfl <;> rfl
 exact Zw.mk h4 g4 f4 (by omega) (by omega) (by omega) (fun y hy=>Nat.le_trans (ht y hy) (by decide)) hs (fun x hx=>(hb x hx).2.2.2) (fun x hx=>(hpar x hx).1.1)
  (fun x hx=>⟨(hpar x hx).1.2.1,(hpar x hx).1.2.2.1,(hpar x hx).1.2.2.2,Nat.le_trans (hb x hx).1 (by decide),Nat.le_trans (hb x hx).2.1 (by decide)⟩) h1 h2 h3 g1 g2 f1 f2 (by omega) (fun x hx=>(hb x hx).1) (fun x hx=>(hb x hx).2.2.1) (fun x hx p hq=>⟨1,by rw[(hpar x hx).2 p hq];exact ZhC w⟩)
  (fun y hy=>⟨.inl (hcs y hy),by rw[hcs y hy];exact Nat.zero_le _⟩) (fun y hy c hc=>by rw[hcs y hy]at hc;simp at hc)
def Zrd (w:World) (e:Ending) (w':World):Prop:=∃v kl k1 k2 la lb q,e= .returned (.tuple #[.agg (v.cells (exT kl k1 k2 la lb q)),.agg exW.cells.toArray])∧Zw w' v (exT kl k1 k2 la lb q)∧Kept [] w w'
theorem ZmW (w:World):Calls prog 8 #[] w (Zrd w):=by
 go_enter func8,ntmps8
 go_upto_region 1 with(fail)
 refine Zm ?_
 intro w0 hw0
 have HK0:Hid (Kept [] w w0):=by rw[Hid,hw0];exact(Kept.alloc _ _ _).trans (Kept.alloc _ _ _)
 have HB0:Hid (w0.heap[w.heap.size]? =some (.cells Zqm 30 (0,0))):=by rw[Hid,hw0];exact Zr (Zf rfl) (by simp)
 have HB1:Hid (w0.heap[w.heap.size+1]? =some (.cells #[.int .i64 0,.int .i64 0,.slice none 0 0,.slice none 0 0] 33 (0,0))):=by rw[Hid,hw0];exact Zf (by simp)
 have HSZ0:Hid (w0.heap.size=w.heap.size+2):=by rw[Hid,hw0];simp
 clear hw0
 go_upto_region 2 with(first
  | (
   go_at_call 25
   refine(ZiB w0).mono ?_
   rintro e w1 ⟨v0,kl,k1,k2,rfl,ho1,hm1,hk1,_,_,ht1,ht2⟩
   have HO1:=hh ho1
   have HM1:=hh hm1
   have HK1:=hh hk1
   have HT1:=hh ht1
   have HS1:=hh ht2
   clear ho1 hm1 hk1 ht1 ht2)
  | (
   guard_hyp HK1
   refine ZY rfl 30 (.tmp 2) (.tmp 5) rfl _ (v0.cells (ZrM kl k1 k2)) w1.heap.size rfl rfl rfl Tryz.sizeTab rfl (by simp[Zp.cells,Value.oneCell']) ?_))
 refine Zm ?_
 intro w5 hw5
 have hk5:Kept [] w1 w5:=by rw[hw5];exact Kept.alloc _ _ _
 have hB5:w5.heap[w1.heap.size]? =some (.cells (v0.cells (ZrM kl k1 k2)) 30 (0,0)):=by rw[hw5];exact heap_alloc_new _ _
 obtain⟨⟨kt,a1,a2,a3⟩,⟨ks,b1,b2,b3⟩,_,p1,p2⟩:=HM1.out
 have HT5:Hid (ZbF w5 w0.heap.size w1.heap.size v0 (ZrM kl k1 k2)):=by
  refine⟨hB5,?_,?_,Zk HO1.out hk5 (by simp),HK1.out.size⟩
  ·rw[a1,a2]
   exact Zfp (l:=J5 kl) TyV.len (hk5.obj a3 (by simp)) (HT1.out _ a1) (by show 4≤1000;decide)
  ·rw[b1,b2]
   exact Zfp (l:=Yh) ZL.len (hk5.obj b3 (by simp)) (HS1.out _ b1) (by show 5≤1000;decide)
 have HP1:=hh (hk5.obj p1 (by simp))
 have HP2:=hh (hk5.obj p2 (by simp))
 have HK5:Hid (Kept [] w0 w5):=HK1.out.trans hk5
 have hn:w0.heap.size=w.heap.size+2:=HSZ0.out
 have HN:=hh hn
 clear hw5 hk5 hB5 a1 a2 a3 b1 b2 b3 p1 p2 HO1 HM1 HK1 HT1 HS1 HSZ0 hn
 generalize w1.heap.size=B at*
 have eg1:=Tryz.entersSome1
 have eg2:=Tryz.entersSome2
 go_wp2_with fail
 refine(Ze7 _ w0.heap.size B v0 (ZrM kl k1 k2) (QO kl) (HT5.out.kept kp) ⟨by show 4≤5000;decide,by show 5≤5000;decide⟩ rfl Zfx (some ⟨w5.heap.size,0,none⟩) 2 [Zh0,ZD]).mono ?_
 rintro e a1 ⟨rfl,v1,hT,hk⟩
 have HTa:Hid (ZbF a1 w0.heap.size B v1 ⟨J5 kl++ [ZkD (QO kl) Zfx (some ⟨w5.heap.size,0,none⟩) 2 [Zh0,ZD] 5],Yh++ [⟨4,0,1⟩],Qy k1 k2⟩):=hT
 have HKa:Hid (KpT w0.heap.size w5 a1):=(KpT.of_kept (Kept.alloc _ _ _)).trans hk
 clear hT hk HT5
 generalize w5.heap.size=la at*
 go_wp2_with fail
 refine(Ze7 _ w0.heap.size B v1 _ (QO kl) (HTa.out.kept kp) ⟨by show 5≤5000;decide,by show 6≤5000;decide⟩ rfl Zpd (some ⟨a1.heap.size,0,none⟩) 2 [ZD,QM]).mono ?_
 rintro e a2 ⟨rfl,v2,hT,hk⟩
 generalize a1.heap.size=lb at*
 have HS0:Hid (Zdx w5 w0.heap.size B kl k1 k2 la lb [] a2):=⟨v2,hT,fun x hx=>by simp at hx,(HKa.out.trans (KpT.of_kept (Kept.alloc _ _ _))).trans hk⟩
 clear hT hk HTa HKa
 go_wp2_with fail
 refine(Qz (HS0.out.kept kp) (by simp) 2 ⟨#[80]⟩ (-1) (-1) 0 none 0 [] (.inl rfl) (by simp) 0 (by kernel_rfl)).mono ?_
 rintro e a3 ⟨rfl,pa0,pc0,hs⟩
 have HS1:=hh hs
 clear hs HS0
 go_wp2_with fail
 refine(Qz (HS1.out.kept kp) (by simp) 10 Zh0 4 (-1) 0 none 0 [] (.inl rfl) (by simp) 15 (by kernel_rfl)).mono ?_
 rintro e a4 ⟨rfl,pa1,pc1,hs⟩
 have HS2:=hh hs
 clear hs HS1
 go_wp2_with fail
 refine(Qz (HS2.out.kept kp) (by simp) 10 ZD 4 (-1) 1 none 0 [] (.inl rfl) (by simp) 15 (by kernel_rfl)).mono ?_
 rintro e a5 ⟨rfl,pa2,pc2,hs⟩
 have HS3:=hh hs
 clear hs HS2
 go_wp2_with fail
 refine(Qz (HS3.out.kept kp) (by simp) 10 ZD 5 (-1) 0 none 0 [] (.inl rfl) (by simp) 15 (by kernel_rfl)).mono ?_
 rintro e a6 ⟨rfl,pa3,pc3,hs⟩
 have HS4:=hh hs
 clear hs HS3
 go_wp2_with fail
 refine(Qz (HS4.out.kept kp) (by simp) 10 QM 5 (-1) 1 none 0 [] (.inl rfl) (by simp) 15 (by kernel_rfl)).mono ?_
 rintro e a7 ⟨rfl,pa4,pc4,hs⟩
 have HS5:=hh hs
 clear hs HS4
 go_wp2_with fail
 refine(Qz (HS5.out.kept kp) (by simp) 7 ⟨#[99]⟩ 4 5 0 none 0 [] (.inl rfl) (by simp) 15 (by kernel_rfl)).mono ?_
 rintro e a8 ⟨rfl,pa5,pc5,hs⟩
 have HS6:=hh hs
 clear hs HS5
 go_wp2_with fail
 refine(Qz (HS6.out.kept kp) (by simp) 7 ⟨#[108]⟩ 5 6 0 none 0 [] (.inl rfl) (by simp) 15 (by kernel_rfl)).mono ?_
 rintro e a9 ⟨rfl,pa6,pc6,hs⟩
 have HS7:=hh hs
 clear hs HS6
 go_wp2_with fail
 refine(Qz (HS7.out.kept kp) (by simp) 7 ⟨#[110]⟩ 1 0 0 none 0 [] (.inl rfl) (by simp) 15 (by kernel_rfl)).mono ?_
 rintro e a10 ⟨rfl,pa7,pc7,hs⟩
 have HS8:=hh hs
 clear hs HS7
 go_wp2_with fail
 refine(Qz (HS8.out.kept kp) (by simp) 4 ⟨#[70]⟩ 1 0 0 (some ⟨a10.heap.size,0,none⟩) 1 [5] (.inr ⟨_,0,rfl,fun j x hx=>by match j,hx with | 0,hx=>(injection hx with hx;subst hx;exact(cell_of_row _ _ _ _ _ _ (Zf rfl)).trans rfl)⟩) (by simp) 15 (by kernel_rfl)).mono ?_
 rintro e a11 ⟨rfl,pa8,pc8,hs⟩
 have HS9:=hh hs
 clear hs HS8
 go_wp2_with fail
 refine(Qz (HS9.out.kept kp) (by simp) 4 ⟨#[70]⟩ 2 1 0 (some ⟨a11.heap.size,0,none⟩) 1 [6] (.inr ⟨_,0,rfl,fun j x hx=>by match j,hx with | 0,hx=>(injection hx with hx;subst hx;exact(cell_of_row _ _ _ _ _ _ (Zf rfl)).trans rfl)⟩) (by simp) 15 (by kernel_rfl)).mono ?_
 rintro e a12 ⟨rfl,pa9,pc9,hs⟩
 have HS10:=hh hs
 clear hs HS9
 go_wp2_with fail
 refine(Qz (HS10.out.kept kp) (by simp) 5 Zfx 4 5 0 none 0 [] (.inl rfl) (by simp) 15 (by kernel_rfl)).mono ?_
 rintro e a13 ⟨rfl,pa10,pc10,hs⟩
 have HS11:=hh hs
 clear hs HS10
 obtain⟨v,hT,hP,hK⟩:=HS11.out
 obtain⟨q,hq⟩:∃q:Nat→Option Addr×Nat,q=fun i=>[(pa0,pc0),(pa1,pc1),(pa2,pc2),(pa3,pc3),(pa4,pc4),(pa5,pc5),(pa6,pc6),(pa7,pc7),(pa8,pc8),(pa9,pc9),(pa10,pc10)].getD i (none,0):=⟨_,rfl⟩
 have hT2:ZbF a13 w0.heap.size B v (exT kl k1 k2 la lb q):=by rw[hq];exact hT
 have hP2:ZuF a13 (exL q):=by rw[hq];exact hP
 have HT2:=hh hT2
 have HPL:=hh hP2
 have HKK:=hh hK
 have HQ1:=hh (hK.block _ _ HP1.out (.inr ⟨_,_,_,rfl,by decide⟩))
 have HQ2:=hh (hK.block _ _ HP2.out (.inr ⟨_,_,_,rfl,by decide⟩))
 have hn:=HN.out
 have h0:=hK.block _ _ (HK5.out.obj HB0.out (by simp)) (.inl (by omega))
 have h1:=hK.block _ _ (HK5.out.obj HB1.out (by simp)) (.inl (by omega))
 have HKF:Hid (Kept [] w a13):=KpT.kept (HK0.out.trans HK5.out) hK (by omega)
 have hnB:=hT2.hn
 haveI ap1:Qf w.heap.size B:=⟨by omega⟩
 haveI ap2:Qf (w.heap.size+1) B:=⟨by omega⟩
 haveI bB:Zc a13 B 30 #[.slice v.ta 6 v.tc,.slice v.sa 7 v.sc,.slice v.ea 26 v.ec,.slice v.ga v.gn v.gc,.slice v.ia v.im v.ic]:=⟨hT2.box⟩
 have HH0:=hh h0
 have HH1:=hh h1
 clear hT hP hK hT2 hP2 h0 h1 hq hn HS11 HB0 HB1 HK0 HK5 HP1 HP2 eg1 eg2
 go_wp2_with (first
  | (
   fail_if_success guard_hyp HWA
   refine QQ rfl 30 (.tmp 0) (.tmp 38) rfl w.heap.size Zqm #[.slice v.ta 6 v.tc,.slice v.sa 7 v.sc,.slice v.ea 26 v.ec,.slice v.ga v.gn v.gc,.slice v.ia v.im v.ic] rfl HH0.out rfl Tryz.sizeTab rfl (by simp[Value.oneCell']) ?_
   intro wa hwa hka
   have HWA:=hh hwa
   have HKA:=hh hka
   clear hwa hka)
  | (
   guard_hyp HWA
   fail_if_success guard_hyp HWB
   refine QQ rfl 33 (.tmp 1) (.tmp 39) rfl (w.heap.size+1) #[.int .i64 0,.int .i64 0,.slice none 0 0,.slice none 0 0] exW.cells.toArray rfl (HKA.out.obj HH1.out (by simp)) rfl Tryz.sizeWh rfl (by simp[exW,WhV.cells,Value.oneCell']) ?_
   intro wb hwb hkb
   have HWB:=hh hwb
   have HKB:=hh hkb
   clear hwb hkb))
 have hkab:Kept [w.heap.size,w.heap.size+1] a13 wb:=(HKA.out.mono (by simp)).trans (HKB.out.mono (by simp))
 have hfar:∀q,q∈ [w.heap.size,w.heap.size+1]→∃c ty,a13.heap[q]? =some (.cells c ty (0,0))∧ty≠98:=fun q hq=>by
  simp only[List.mem_cons,List.not_mem_nil,or_false]at hq
  rcases hq with rfl | rfl
  ·exact⟨_,_,HH0.out,by decide⟩
  ·exact⟨_,_,HH1.out,by decide⟩
 have hN:=HN.out
 refine bodyPost_ret (v:= .tuple #[.agg #[.slice v.ta 6 v.tc,.slice v.sa 7 v.sc,.slice v.ea 26 v.ec,.slice v.ga v.gn v.gc,.slice v.ia v.im v.ic],.agg exW.cells.toArray]) (Qm results8 (Z0 rfl (ZkR (HKB.out.obj HWA.out (by simp)) rfl)) (Z0 rfl (ZnE HWB.out rfl))) rfl ⟨v,kl,k1,k2,la,lb,q,rfl,?_,HKF.out.above hkab (by simp)⟩
 exact ZmP (HT2.out.far hkab (fun q hq=>by simp at hq;omega)) (fun x hx=>(HPL.out x hx).far hkab hfar) (Zlf hkab hfar HQ1.out) (Zlf hkab hfar HQ2.out)
def ZlM (t:Tab) (h:WhV) (e:ExV):List Int:=Lib.compact (ZdK ((if e.kind=3 then ZdK (Zi6 t h e.s)else []).map (Yt t)))
theorem Zho (t:Tab) (h:WhV) (e:ExV):Q7 t h e=ZlM t h e:=by
 unfold Q7 ZlM Zam Yk
 rw[Za3,Za3]
def ZjX (mss:List (List MeV)):List Int:=Lib.compact (ZdK (Za1 mss))
theorem ZmM (mss:List (List MeV)):QL mss=ZjX mss:=by
 unfold QL ZjX
 rw[Za3]
def Zvv (t:Tab) (h:WhV) (x:ExV) (mss:List (List MeV)):List MeV:=
 Ju (Zjd (ZdZ t h x.oper) x.oper x (fun ty=>(Zn9 (fun ms=>QR t h ms ty false) mss,mss.map (fun ms=>(QR t h ms ty false).2)))) (ZjX mss)
def ZcY (t:Tab) (h:WhV):Nat→ExV→List MeV
 | 0,_=>[]
 | n+1,x=>
  if x.kind=1 then [⟨0,1,false,ZfB x 0 []⟩]
  else if x.kind=3 then Ju (fun i=>Zci (t.ents.getD i.toNat default) x i) (ZlM t h x)
  else if x.kind=7 then(ZlM t h (x.ls.getD 0 Zg)).foldl (Jg t x (x.ls.getD 0 Zg) x.al (x.al.map fun a ty obj=>QR t h (ZcY t h n a.2.2.2) ty obj)) []
  else if x.kind=12 then Zvv t h x (x.ls.map (ZcY t h n))
  else []
theorem ZfC (t:Tab) (h:WhV):∀(n:Nat) (x:ExV),Qu t h n x=ZcY t h n x
 | 0,_=>rfl
 | n+1,x=>by
  have e:Qu t h n=ZcY t h n:=funext (ZfC t h n)
  rw[Qu,ZcY,Zdh,Zc0,Zjc,Zho,Zho,ZmM,e]
  rfl
def Zum (y:Zx):Bool:=y.kind == 4 && !y.generic
def ZkQ (t:Tab) (h:WhV):Nat→ExV→Bool
 | 0,_=>false
 | n+1,x=>(x.kind == 1 || (x.kind == 3 || (x.kind == 7 || x.kind == 12))) && ((decide (x.ls.length≤61) && decide (x.al.length≤61)) && (x.ls.all (ZkQ t h n) && (x.al.all (fun a=>decide (a.2.1.length=0) && ZkQ t h n a.2.2.2) && (decide ((ZcY t h (n+1) x).length≤1000000) &&
  (x.kind != 7 || match x.ls with | []=>false | l0::_=>l0.kind != 4 && (!ZbX l0 && (ZlM t h l0).all fun i=>Zum (t.ents.getD i.toNat default)))))))
theorem Zd0 {t:Tab} {h:WhV}:∀{n:Nat} {x:ExV},ZkQ t h n x=true→YW t h n x
 | 0,_,hx=>by cases hx
 | n+1,x,hx=>by
  rw[ZkQ]at hx
  simp only[Bool.and_eq_true]at hx
  obtain⟨b1,⟨b2,b3⟩,b4,b5,b6,b7⟩:=hx
  refine⟨by simpa using b1,⟨of_decide_eq_true b2,of_decide_eq_true b3⟩,fun y hy=>Zd0 (List.all_eq_true.1 b4 y hy),fun a ha=>?_,by rw[ZfC];exact of_decide_eq_true b6,fun h7=>?_⟩
  ·have:=List.all_eq_true.1 b5 a ha
   simp only[Bool.and_eq_true]at this
   exact⟨List.eq_nil_of_length_eq_zero (of_decide_eq_true this.1),Zd0 this.2⟩
  ·rw[h7]at b7
   simp only[bne_self_eq_false,Bool.false_or]at b7
   cases hl:x.ls with
   | nil=>rw[hl]at b7;cases b7
   | cons l0 lr=>
    rw[hl]at b7
    simp only[Bool.and_eq_true,bne_iff_ne,ne_eq,Bool.not_eq_true']at b7
    refine⟨l0,lr,rfl,b7.1,b7.2.1,fun i y hi hy=>?_⟩
    rw[Zho]at hi
    have:=List.all_eq_true.1 b7.2.2 _ hi
    have e:t.ents.getD ((i:Int)).toNat default=y:=by rw[Int.toNat_natCast,List.getD_eq_getElem?_getD,hy,Option.getD_some]
    rw[e]at this
    exact .inl this
def stB (t:Tab):Nat→ExV→Bool
 | 0,_=>false
 | m+1,x=>(decide (x.ls.length < 100) && decide (x.al.length≤5000)) && ((x.kind != 8 && (x.kind != 9 && (x.kind != 10 && (x.kind != 13 && x.kind != 14)))) && (x.ls.all (stB t m) && (x.al.all (fun a=>decide (a.2.1.length=0) && stB t m a.2.2.2) &&
  (decide (x.al.length=0) || (decide (0≤x.ent) && match t.ents[x.ent.toNat]? with | none=>false | some y=>y.kind == 4 && decide (x.al.length≤y.params.length))))))
theorem Zkd {t:Tab}:∀{m:Nat} {x:ExV},stB t m x=true→ZbI t m x
 | 0,_,hx=>by cases hx
 | m+1,x,hx=>by
  rw[stB]at hx
  simp only[Bool.and_eq_true]at hx
  obtain⟨⟨b1,b2⟩,b3,b4,b5,b6⟩:=hx
  refine⟨⟨of_decide_eq_true b1,of_decide_eq_true b2⟩,by simpa using b3,fun y hy=>Zkd (List.all_eq_true.1 b4 y hy),fun a ha=>?_,?_⟩
  ·have:=List.all_eq_true.1 b5 a ha
   simp only[Bool.and_eq_true]at this
   exact⟨List.eq_nil_of_length_eq_zero (of_decide_eq_true this.1),Zkd this.2⟩
  ·simp only[Bool.or_eq_true,Bool.and_eq_true]at b6
   rcases b6 with b6 | ⟨b6,b7⟩
   ·exact .inl (List.eq_nil_of_length_eq_zero (of_decide_eq_true b6))
   ·have h0:=of_decide_eq_true b6
    cases hy:t.ents[x.ent.toNat]? with
    | none=>rw[hy]at b7;cases b7
    | some y=>
     rw[hy]at b7
     simp only[Bool.and_eq_true,beq_iff_eq]at b7
     exact .inr ⟨x.ent.toNat,y,by omega,hy,b7.1,of_decide_eq_true b7.2⟩
def Zft:Nat→ExV→Bool
 | 0,_=>false
 | n+1,x=>x.kind != 4 && (x.ls.all (Zft n) && x.al.all fun a=>Zft n a.2.2.2)
theorem Zch:∀{n:Nat} {x:ExV},Zft n x=true→Zby n x
 | 0,_,hx=>by cases hx
 | n+1,x,hx=>by
  rw[Zft]at hx
  simp only[Bool.and_eq_true,bne_iff_ne,ne_eq]at hx
  exact⟨hx.1,fun y hy=>Zch (List.all_eq_true.1 hx.2.1 y hy),fun a ha=>Zch (List.all_eq_true.1 hx.2.2 a ha)⟩
section
variable (kl k1 k2 la lb:Nat) (q:Nat→Option Addr×Nat)
theorem ZbP:(ZU (exT kl k1 k2 la lb q) 0).isSome=true:=by kernel_rfl
theorem Zeb:ZU (exT kl k1 k2 la lb q) 1=some (-2147483648,2147483647):=by kernel_rfl
theorem ZfO:Z9 (exT kl k1 k2 la lb q) exW 1=true:=by kernel_rfl
theorem Zlx:Q6 (exT kl k1 k2 la lb q) exW 1=true:=by kernel_rfl
theorem Zly:QG (exT kl k1 k2 la lb q) exW 2=true:=by kernel_rfl
def nN:ByteArray:=⟨#[110]⟩
def nF:ByteArray:=⟨#[70]⟩
theorem Zcx:ZbJ nN=true∧ZbJ nF=true∧ZbJ Zh0=true∧ZbJ ZD=true∧ZbJ QM=true:=by
 refine⟨?_,?_,?_,?_,?_⟩ <;> kernel_rfl
theorem Zcy (s:ByteArray):Yk (exT kl k1 k2 la lb q) exW s=ZdK (Zi6 (exT kl k1 k2 la lb q) exW s):=by rw[Yk,Za3]
theorem Zed:Yk (exT kl k1 k2 la lb q) exW nN= [22]:=by rw[Zcy];kernel_rfl
theorem Zn5:Yk (exT kl k1 k2 la lb q) exW nF= [23,24]:=by rw[Zcy];kernel_rfl
theorem Zn3:Yk (exT kl k1 k2 la lb q) exW Zh0= [16]:=by rw[Zcy];kernel_rfl
theorem Zn4:Yk (exT kl k1 k2 la lb q) exW ZD= [17,18]:=by rw[Zcy];kernel_rfl
theorem Zn6:Yk (exT kl k1 k2 la lb q) exW QM= [19]:=by rw[Zcy];kernel_rfl
theorem Zec (k:Nat):Qu (exT kl k1 k2 la lb q) exW (k+1) (ZQ nN)= [⟨1,1,true,YA nN 22 1⟩]:=by rw[ZfC];kernel_rfl
theorem Zso:∀y,y∈(exT kl k1 k2 la lb q).ents→∀p,p∈y.params→p.d.kind=0:=fun y hy p hp=>by
 have h1:(exT kl k1 k2 la lb q).ents.all (fun y=>y.params.all fun p=>p.d.kind == 0)=true:=by kernel_rfl
 have h2:=List.all_eq_true.1 (List.all_eq_true.1 h1 y hy) p hp
 simpa using h2
end
inductive Gd (t:Tab) (h:WhV):Nat→ExV→Prop
 | num (n:Int):0≤n→n≤2147483647→Gd t h 1 (Yg n)
 | nam (s:ByteArray):ZbJ s=true→(Yk t h s).length≠0→Gd t h 1 (ZQ s)
 | two (o:Int) (a b:ExV) (s r:Nat):1≤o→o≤17→Gd t h s a→Gd t h r b→Gd t h (s+r+1) (QD o a b)
 | call (f a:ExV) (s r:Nat):YZ f=true→Gd t h s f→Gd t h r a→Gd t h (s+r+1) (ZcZ f a)
theorem Gd.may {t:Tab} {h:WhV} {assoc:List AsV→Bool} {s:Nat} {x:ExV} (hU:Gd t h s x):∀(n:Nat) (d l:Int),s≤n→d+s≤33→(s:Int)≤l→Jo assoc n d l x=(true,l - s):=by
 induction hU with
 | num v h0 h1=>
  intro n d l hn hd hl
  obtain⟨k,rfl⟩:∃k,n=k+1:=⟨n - 1,by omega⟩
  have hf:ZZ assoc (Yg v)=true:=by
   rw[ZZ,QZ _ rfl rfl rfl rfl]
   show((true && (decide (0≤v) && decide (v≤2147483647))) && true)=true
   rw[decide_eq_true h0,decide_eq_true h1]
   rfl
  rw[Jo,if_neg (by omega),if_neg (by omega),if_pos hf]
  rfl
 | nam v h0 _=>
  intro n d l hn hd hl
  obtain⟨k,rfl⟩:∃k,n=k+1:=⟨n - 1,by omega⟩
  have hf:ZZ assoc (ZQ v)=true:=by
   rw[ZZ,QZ _ rfl rfl rfl rfl]
   show((true && ZbJ v) && true)=true
   rw[h0]
   rfl
  rw[Jo,if_neg (by omega),if_neg (by omega),if_pos hf]
  rfl
 | two o a b s r h1 h2 _ _ iha ihb=>
  intro n d l hn hd hl
  obtain⟨k,rfl⟩:∃k,n=k+1:=⟨n - 1,by omega⟩
  have hf:ZZ assoc (QD o a b)=true:=by
   rw[ZZ,QZ _ rfl rfl rfl rfl]
   show((true && (decide (1≤o) && decide (o≤17))) && true)=true
   rw[decide_eq_true h1,decide_eq_true h2]
   rfl
  have e1:=iha k (d+1) (l - 1) (by omega) (by omega) (by omega)
  have e2:=ihb k (d+1) (l - 1 - s) (by omega) (by omega) (by omega)
  rw[Jo,if_neg (by omega),if_neg (by omega),if_pos hf]
  show Z1 (fun l y=>Jo assoc k (d+1) l y) [a,b] (l - 1)=_
  simp only[Z1,e1,e2,if_true]
  congr 1
  omega
 | call f a s r h1 _ _ iha ihb=>
  intro n d l hn hd hl
  obtain⟨k,rfl⟩:∃k,n=k+1:=⟨n - 1,by omega⟩
  have hf:ZZ assoc (ZcZ f a)=true:=by
   rw[ZZ,QZ _ rfl rfl rfl rfl]
   show(((true && YZ f) && ZbE [(none,[],0,a)]) && true)=true
   rw[h1]
   rfl
  have e1:=iha k (d+1) (l - 1) (by omega) (by omega) (by omega)
  have e2:=ihb k (d+1) (l - 1 - s) (by omega) (by omega) (by omega)
  rw[Jo,if_neg (by omega),if_neg (by omega),if_pos hf]
  show Z1 (fun l y=>Jo assoc k (d+1) l y) [f,a] (l - 1)=_
  simp only[Z1,e1,e2,if_true]
  congr 1
  omega
theorem Gd.unk {t:Tab} {h:WhV} {s:Nat} {x:ExV} (hU:Gd t h s x):∀n,YQ t h n x=false:=by
 induction hU with
 | num v h0 h1=>intro n;cases n <;> rfl
 | nam v _ h0=>
  intro n
  cases n with
  | zero=>rfl
  | succ n=>
   show decide ((Yk t h v).length=0)=false
   exact decide_eq_false h0
 | two o a b s r h1 h2 _ _ iha ihb=>
  intro n
  cases n with
  | zero=>rfl
  | succ n=>
   show((YQ t h n a || (YQ t h n b || false)) || false)=false
   rw[iha,ihb]
   rfl
 | call f a s r h1 _ _ iha ihb=>
  intro n
  cases n with
  | zero=>rfl
  | succ n=>
   show((YQ t h n f || false) || (YQ t h n a || false))=false
   rw[iha,ihb]
   rfl
theorem Gd.check {t:Tab} {h:WhV} {s:Nat} {x:ExV} (hU:Gd t h s x) (hs:s≤32) (n:Nat):QT t h n [x]=0:=by
 have h1:QK ZV x=true:=by
  rw[QK,hU.may 33 1 256 (by omega) (by omega) (by omega)]
 simp[QT,h1,hU.unk]
def ZuO (t:Tab) (h:WhV) (x:ExV) (want:Int):ExV×Int:=Qq t 20 20 (Zcs t h (ZcY t h 20 x) want).1 (Zcs t h (ZcY t h 20 x) want).2 (if 0≤want then want else -1)
theorem Gd.run {t:Tab} {h:WhV} {s:Nat} {x:ExV} (hU:Gd t h s x) (hs:s≤32) (want:Int):Yd t h 20 x want=ZuO t h x want:=by
 rw[Yd,hU.check hs,if_neg (by decide),ZfC]
 rfl
section
variable (kl k1 k2 la lb:Nat) (q:Nat→Option Addr×Nat)
theorem Zsm:Gd (exT kl k1 k2 la lb q) exW 1 (ZQ nN):= .nam _ Zcx.1 (by rw[Zed];simp)
theorem Zsn:Gd (exT kl k1 k2 la lb q) exW 1 (ZQ nF):= .nam _ Zcx.2.1 (by rw[Zn5];simp)
theorem Zt6:Gd (exT kl k1 k2 la lb q) exW 1 (ZQ Zh0):= .nam _ Zcx.2.2.1 (by rw[Zn3];simp)
theorem Zi8:Gd (exT kl k1 k2 la lb q) exW 1 (ZQ ZD):= .nam _ Zcx.2.2.2.1 (by rw[Zn4];simp)
theorem Zt7:Gd (exT kl k1 k2 la lb q) exW 1 (ZQ QM):= .nam _ Zcx.2.2.2.2 (by rw[Zn6];simp)
structure YC (t:Tab) (x:ExV) (want:Int) (r:ExV×Int):Prop where
 ok:YW t exW 20 x
 sel:Zby 20 x
 st:JF (Zcs t exW (Qu t exW 20 x) want).1=0→ZbI t 20 (Zcs t exW (Qu t exW 20 x) want).2
 run:Yd t exW 20 x want=r
theorem YC.of {t:Tab} {x:ExV} {want:Int} {r:ExV×Int} {s:Nat} (hg:Gd t exW s x) (hs:s≤32) (h1:ZkQ t exW 20 x=true) (h2:Zft 20 x=true) (h3:(JF (Zcs t exW (ZcY t exW 20 x) want).1 != 0 || stB t 20 (Zcs t exW (ZcY t exW 20 x) want).2)=true) (h4:ZuO t exW x want=r):YC t x want r:=
 ⟨Zd0 h1,Zch h2,fun h=>by
  rw[ZfC]at h⊢
  rw[h]at h3
  exact Zkd (by simpa using h3),by rw[hg.run hs,h4]⟩
def Ys (e t:Int):ExV:=YA ZD e t
theorem Zvu:YC (exT kl k1 k2 la lb q) (ZQ ZD) 5 (Ys 18 5,0):= .of (Zi8 _ _ _ _ _ _) (by decide) (by kernel_rfl) (by kernel_rfl) (by kernel_rfl) (by kernel_rfl)
theorem Zvt:YC (exT kl k1 k2 la lb q) (QD 7 (ZQ ZD) (ZQ ZD)) (-4) (Zg,91):= .of (.two 7 _ _ 1 1 (by decide) (by decide) (Zi8 _ _ _ _ _ _) (Zi8 _ _ _ _ _ _)) (by decide) (by kernel_rfl) (by kernel_rfl) (by kernel_rfl) (by kernel_rfl)
theorem Zvs:YC (exT kl k1 k2 la lb q) (QD 7 (ZQ ZD) (ZQ QM)) (-4) (YI 7 2 (Ys 18 5) (YA QM 19 5),0):= .of (.two 7 _ _ 1 1 (by decide) (by decide) (Zi8 _ _ _ _ _ _) (Zt7 _ _ _ _ _ _)) (by decide) (by kernel_rfl) (by kernel_rfl) (by kernel_rfl) (by kernel_rfl)
def Zbq:ExV:= .mk 7 0 0 ⟨#[]⟩ none 0 [YA nF 23 1] none 0 [(none,[],0,Ys 17 4)] 0 23 1
theorem Zvr:YC (exT kl k1 k2 la lb q) (ZcZ (ZQ nF) (ZQ ZD)) 1 (Zbq,0):= .of (.call _ _ 1 1 rfl (Zsn _ _ _ _ _ _) (Zi8 _ _ _ _ _ _)) (by decide) (by kernel_rfl) (by kernel_rfl) (by kernel_rfl) (by kernel_rfl)
theorem Zvq:YC (exT kl k1 k2 la lb q) (ZcZ (ZQ nF) (ZQ ZD)) (-5) (Zg,91):= .of (.call _ _ 1 1 rfl (Zsn _ _ _ _ _ _) (Zi8 _ _ _ _ _ _)) (by decide) (by kernel_rfl) (by kernel_rfl) (by kernel_rfl) (by kernel_rfl)
theorem Zvp:YC (exT kl k1 k2 la lb q) (QD 1 (QD 3 (Yg 2) (Yg 3)) (ZQ nN)) 1 (YI 1 1 (Jd 6 0 1) (YA nN 22 1),0):= .of (.two 1 _ _ 3 1 (by decide) (by decide) (.two 3 _ _ 1 1 (by decide) (by decide) (.num 2 (by decide) (by decide)) (.num 3 (by decide) (by decide))) (Zsm _ _ _ _ _ _)) (by decide) (by kernel_rfl) (by kernel_rfl) (by kernel_rfl) (by kernel_rfl)
theorem Zvo:YC (exT kl k1 k2 la lb q) (QD 2 (QD 1 (Yg 2147483647) (Yg 1)) (ZQ nN)) 1 (Zg,71):= .of (.two 2 _ _ 3 1 (by decide) (by decide) (.two 1 _ _ 1 1 (by decide) (by decide) (.num 2147483647 (by decide) (by decide)) (.num 1 (by decide) (by decide))) (Zsm _ _ _ _ _ _)) (by decide) (by kernel_rfl) (by kernel_rfl) (by kernel_rfl) (by kernel_rfl)
theorem Zvn:YC (exT kl k1 k2 la lb q) (QD 1 (ZQ Zh0) (Yg 1)) (-5) (Zg,90):= .of (.two 1 _ _ 1 1 (by decide) (by decide) (Zt6 _ _ _ _ _ _) (.num 1 (by decide) (by decide))) (by decide) (by kernel_rfl) (by kernel_rfl) (by kernel_rfl) (by kernel_rfl)
end
end
end Go.Proofs.YtfaecpkocgcofaaGreatDoor
