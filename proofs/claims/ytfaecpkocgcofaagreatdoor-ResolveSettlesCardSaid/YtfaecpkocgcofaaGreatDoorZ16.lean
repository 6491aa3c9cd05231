/- Lemmas for ResolveSettles, printed small: X9 X10. -/
import Derived.Test.YtfaecpkocgcofaaGreatDoorZ15
set_option linter.all false
set_option maxRecDepth 100000
set_option maxHeartbeats 8000000
open Go.Proofs.Tryz
namespace Go.Proofs.YtfaecpkocgcofaaGreatDoor
section
open Go.RowKit
theorem ZqG (l:List MeV) (i:Nat) (m:MeV) (hi:i < l.length):flM (l.set i m)=(flM l).take (i*12)++m.cells++(flM l).drop (i*12+12):=by
 have e:l.set i m=l.take i++m::l.drop (i+1):=by rw[List.set_eq_take_append_cons_drop,if_pos hi]
 rw[e,Zd9,show flM (m::l.drop (i+1))=m.cells++flM (l.drop (i+1)) by simp[flM],←ZbL,←Zd8,List.append_assoc,show(i+1)*12=i*12+12 by omega]
theorem Zbw {ops:Array Oper} {rest:List Oper} {op:Oper} {a:Act} {w:World} {Q:Exit→Act→World→Prop} (hgd:op.guard=none) (x y:Operand) (ho:op.op= .store 114 x y)
 (base:Nat) (v:Value) (l:List MeV) (hO:Zbf w base v l) (i:Nat) (hi:i < l.length) (g:Nat) (hv:v.ownBlock=some g) (m:MeV) (hx:a.eval x= .pointer (some ⟨g,i*12,none⟩)) (hy:a.eval y= .agg m.cells.toArray)
 (h:∀w',Zbf w' base v (l.set i m)→w.grownBy w' (some g)→wpList prog ops Q rest (a.put op.dst undef) w'):wpList prog ops Q (op::rest) a w:=by
 refine wpList_plain hgd fun K hK=>?_
 rcases hO.2 with⟨rfl,hn⟩ | ⟨g',cap,cur,rfl,hbg,hg,hnc,hcm,hcs,htk⟩
 ·cases hv
 obtain rfl:g'=g:=by simpa [Value.ownBlock]using hv
 have hfit:i*12+m.cells.length≤cur.size:=by rw[MeV.len,hcs];omega
 have hst:=run_storeCells_at prog g' (i*12) 114 m.cells 0 cur w hg (by simpa using hfit) (Yq m)
 simp only[Nat.add_zero]at hst
 have hrun:(storeVar 114 ⟨g',i*12,none⟩ (.agg m.cells.toArray)).run prog w= .ok () (w.setRow g' (cur.toList.take (i*12)++m.cells++cur.toList.drop (i*12+m.cells.length)).toArray):=by
  cases hq:prog.info? 114 with
  | none=>have h1:=Tryz.infoMe m;rw[hq]at h1;cases h1
  | some i0=>
   have hsz:m.cells.toArray.size=i0.size:=by have:=Tryz.infoMe m;simp[hq]at this;simp;omega
   simpa [storeVar,sizeOf,typeInfo,hq,Value.cells,hsz]using hst
 unfold Oper.wp execOp
 simp only[ho,hx,hy,Instr.storeAt,Instr.sureAddr,Sem.run_bind,Sem.run_pure,Result.andThen_ok,hrun]
 refine hK _ _ (h _ ⟨by rw[Qk],.inr ⟨g',cap,_,by rw[List.length_set],hbg,setRow_heap w g' cur _ _ _ hg,by rw[List.length_set];exact hnc,hcm,?_,?_⟩⟩ ⟨rfl,rfl,rfl,by simp[World.setRow],fun q hq hne=>setRow_other w g' q _ (fun e=>hne (by rw[e]))⟩)
 ·have:=congrArg List.length htk
  rw[List.length_take,Qk,Array.length_toList]at this
  rw[List.size_toArray,List.length_append,List.length_append,List.length_take,List.length_drop,Array.length_toList,MeV.len]
  omega
 ·have hcl:cur.toList.length=cap*12:=by rw[Array.length_toList,hcs]
  have hsplit:=ZqG l i m hi
  have e1:(flM l).take (i*12)=cur.toList.take (i*12):=by rw[←htk,List.take_take,Nat.min_eq_left (by omega)]
  have e2:(flM l).drop (i*12+12)=(cur.toList.drop (i*12+12)).take (l.length*12 - (i*12+12)):=by rw[←htk,List.drop_take]
  rw[hsplit,e1,e2,List.length_set,MeV.len,List.take_append,List.length_append,List.length_take,MeV.len,Nat.min_eq_left (by omega)]
  rw[List.take_of_length_le (by rw[List.length_append,List.length_take,MeV.len];omega)]
theorem Kept.grownBy' {a b c:World} {row:Option Nat} (h:Kept [] a b) (k:b.grownBy c row):a.grownBy c row:=
 ⟨k.os.trans h.os,k.tape.trans h.tape,k.output.trans h.output,Nat.le_trans h.size k.size,fun q hq hne=>(k.block q (Nat.lt_of_lt_of_le hq h.size) hne).trans (h.block q hq (by simp))⟩
theorem JR.from {base:Nat} {v:Value} {l:List MeV} {w w0:World} (hk:Kept [] w0 w):∀e w',JR base v l w e w'→JR base v l w0 e w':=by
 rintro e w' ⟨v',rfl,ho,hg,ha⟩
 exact⟨v',rfl,ho,hk.grownBy' hg,ha.imp (fun h=>h) (fun⟨b,h1,h2⟩=>⟨b,h1,Nat.le_trans hk.size h2⟩)⟩
def Zac (l:List MeV) (m:MeV):List MeV:=if m.n≤0 then l else if bsF l m then l.set (bsI l m) ⟨m.t,2,m.obj,Zg⟩else Zdn l (bsI l m) ⟨m.t,min m.n 2,m.obj,m.e⟩
theorem Zit (l:List MeV) (m:MeV):(Zac l m).length≤l.length+1:=by
 unfold Zac
 split
 ·omega
 split
 ·rw[List.length_set];omega
 ·rw[Jt _ (Zpy l m)];omega
def Zew (v0 v1 v2:Value):Sem Next:=do return .value (←Instr.build 114 #[(0,v0),(1,v1),(2,v2)])
@[go_sem ↓] theorem Zls (ρ:Operand→Value) (dst:Option Tmp) (x0 x1 x2:Operand) (ty:TypeId) (pos:String) (after:Array Edge) (guard:Option (Nat×Bool)):
 execOp ρ {dst,op:= .build 114 #[(0,x0),(1,x1),(2,x2)],type:=ty,pos,after,guard}=Zew (ρ x0) (ρ x1) (ρ x2):=by simp[execOp,Zew]
@[go_sem] theorem Zo4 (w:World) (a b:Int) (c:Bool):Sem.run prog (Zew (.int .i64 a) (.int .i64 b) (.bool c)) w= .ok (.value (.agg (MeV.mk a b c Zg:MeV).cells.toArray)) w:=by kernel_rfl
def Zev (v0 v1 v2:Value):Sem Next:=do return .value (←Instr.build 114 #[(0,v0),(1,v1),(3,v2)])
@[go_sem ↓] theorem Zlr (ρ:Operand→Value) (dst:Option Tmp) (x0 x1 x2:Operand) (ty:TypeId) (pos:String) (after:Array Edge) (guard:Option (Nat×Bool)):
 execOp ρ {dst,op:= .build 114 #[(0,x0),(1,x1),(3,x2)],type:=ty,pos,after,guard}=Zev (ρ x0) (ρ x1) (ρ x2):=by simp[execOp,Zev]
@[go_sem] theorem Zo3 (w:World) (a b:Int) (x:ExV):Sem.run prog (Zev (.int .i64 a) (.int .i64 b) (.agg x.cells.toArray)) w= .ok (.value (.agg (MeV.mk a b false x:MeV).cells.toArray)) w:=by kernel_rfl
def Zeu (v0 v1 v2 v3:Value):Sem Next:=do return .value (←Instr.build 114 #[(0,v0),(1,v1),(2,v2),(3,v3)])
@[go_sem ↓] theorem Zlq (ρ:Operand→Value) (dst:Option Tmp) (x0 x1 x2 x3:Operand) (ty:TypeId) (pos:String) (after:Array Edge) (guard:Option (Nat×Bool)):
 execOp ρ {dst,op:= .build 114 #[(0,x0),(1,x1),(2,x2),(3,x3)],type:=ty,pos,after,guard}=Zeu (ρ x0) (ρ x1) (ρ x2) (ρ x3):=by simp[execOp,Zeu]
@[go_sem] theorem Zo2 (w:World) (a b:Int) (c:Bool) (x:ExV):Sem.run prog (Zeu (.int .i64 a) (.int .i64 b) (.bool c) (.agg x.cells.toArray)) w= .ok (.value (.agg (MeV.mk a b c x:MeV).cells.toArray)) w:=by kernel_rfl
def Zex (v0 v1:Value):Sem Next:=do return .value (←Instr.build 114 #[(1,v0),(3,v1)])
@[go_sem ↓] theorem Zlt (ρ:Operand→Value) (dst:Option Tmp) (x0 x1:Operand) (ty:TypeId) (pos:String) (after:Array Edge) (guard:Option (Nat×Bool)):
 execOp ρ {dst,op:= .build 114 #[(1,x0),(3,x1)],type:=ty,pos,after,guard}=Zex (ρ x0) (ρ x1):=by simp[execOp,Zex]
@[go_sem] theorem Zo5 (w:World) (b:Int) (x:ExV):Sem.run prog (Zex (.int .i64 b) (.agg x.cells.toArray)) w= .ok (.value (.agg (MeV.mk 0 b false x:MeV).cells.toArray)) w:=by kernel_rfl
def Zey:Sem Next:=do return .value (←Instr.build 114 #[])
@[go_sem ↓] theorem Zlu (ρ:Operand→Value) (dst:Option Tmp) (ty:TypeId) (pos:String) (after:Array Edge) (guard:Option (Nat×Bool)):
 execOp ρ {dst,op:= .build 114 #[],type:=ty,pos,after,guard}=Zey:=by simp[execOp,Zey]
@[go_sem] theorem Zo6 (w:World):Sem.run prog Zey w= .ok (.value (.agg zeroMe.cells.toArray)) w:=by kernel_rfl
def Zeq (v:Value):Sem Next:=do return .value (←Instr.buildSlice 140 1 #[(0,v)])
@[go_sem ↓] theorem Zlm (ρ:Operand→Value) (dst:Option Tmp) (x:Operand) (ty:TypeId) (pos:String) (after:Array Edge) (guard:Option (Nat×Bool)):
 execOp ρ {dst,op:= .buildSlice 140 1 #[(0,x)],type:=ty,pos,after,guard}=Zeq (ρ x):=by simp[execOp,Zeq]
@[go_sem] theorem ZoY (w:World) (m:MeV):Sem.run prog (Zeq (.agg m.cells.toArray)) w= .ok (.value (.slice (some ⟨w.heap.size,0,none⟩) 1 1)) (w.alloc (.cells m.cells.toArray 114)):=by kernel_rfl
def ExV.setT (x:ExV) (k:Int):ExV:= .mk x.kind x.oper x.n x.s x.la x.lc x.ls x.aa x.ac x.al x.line x.ent k
def ExV.setEnt (x:ExV) (k:Int):ExV:= .mk x.kind x.oper x.n x.s x.la x.lc x.ls x.aa x.ac x.al x.line k x.t
instance (priority:=high) (w:World) (B:Nat) (m:MeV) (k:Int) [h:Zc w B 114 m.cells.toArray]:Zc (w.setCell ⟨B,0,none⟩ (.int .i64 k)) B 114 (MeV.mk k m.n m.obj m.e).cells.toArray:=⟨heap_setCell_same _ _ _ _ _ _ h.has⟩
instance (priority:=high) (w:World) (B:Nat) (m:MeV) (k:Int) [h:Zc w B 114 m.cells.toArray]:Zc (w.setCell ⟨B,1,none⟩ (.int .i64 k)) B 114 (MeV.mk m.t k m.obj m.e).cells.toArray:=⟨heap_setCell_same _ _ _ _ _ _ h.has⟩
instance (priority:=high) (w:World) (B:Nat) (m:MeV) (k:Bool) [h:Zc w B 114 m.cells.toArray]:Zc (w.setCell ⟨B,2,none⟩ (.bool k)) B 114 (MeV.mk m.t m.n k m.e).cells.toArray:=⟨heap_setCell_same _ _ _ _ _ _ h.has⟩
instance (priority:=high) (w:World) (B:Nat) (m:MeV) (k:Int) [h:Zc w B 114 m.cells.toArray]:Zc (w.setCell ⟨B,11,none⟩ (.int .i64 k)) B 114 (MeV.mk m.t m.n m.obj (m.e.setT k)).cells.toArray:=⟨heap_setCell_same _ _ _ _ _ _ h.has⟩
theorem Zma (w:World) (base:Nat) (v:Value) (l:List MeV) (m:MeV) (hO:Zbf w base v l) (hl:l.length≤1000000000) (hbase:base≤w.heap.size):
 Calls prog 115 #[v,.agg m.cells.toArray] w (JR base v (Zac l m) w):=by
 have HV:Hid (Zac l m=if m.n≤0 then l else if bsF l m then l.set (bsI l m) ⟨m.t,2,m.obj,Zg⟩else Zdn l (bsI l m) ⟨m.t,min m.n 2,m.obj,m.e⟩):=rfl
 have HO:=hh hO
 obtain⟨A,c,rfl,hc1,hc2,hc3,_⟩:=hO.rows
 have HR:=hh (fun w' (hk:Kept [] w w')=>ZiI w' A c l m hl (by
  obtain⟨A',c',e,_,_,_,hr⟩:=(Zbf.keep HO.out hk (fun _ _=>by simp)).rows
  cases e
  exact hr))
 have hlt:∀k,(Value.slice A l.length c).ownBlock=some k→k < w.heap.size:=fun k hk=>(hO.lt k hk).2
 have HLT:=hh hlt
 clear hO hlt
 by_cases h0:m.n≤0
 ·have HW:Hid (Zac l m=l):=by rw[Hid,HV.out,if_pos h0]
  clear HV HR
  go_enter func115,ntmps115
  go_wp2_with fail
  refine bodyPost_ret (v:= .slice A l.length c) (by simp[results,results115,go_sem]) rfl ?_
  rw[HW.out]
  exact⟨_,rfl,HO.out.keep kp (fun _ _=>by simp),World.grownBy_alloc _ _ _,.inl rfl⟩
 have h1:decide (m.n≤0)=false:=decide_eq_false h0
 cases hf:bsF l m
 ·have HW:Hid (Zac l m=Zdn l (bsI l m) ⟨m.t,min m.n 2,m.obj,m.e⟩):=by rw[Hid,HV.out,if_neg h0,hf];rfl
  have HI:=hh (Zpy l m)
  rw[hf]at HR
  clear HV h0
  generalize bsI l m=i at*
  go_enter func115,ntmps115
  go_wp2_with fail
  refine nxt (HR.out _ kp) fun w2 p_w2=>?_;have hz_w2:=szk w w2
  clear HR
  by_cases h2:m.n≤2
  ·have HM:Hid (min m.n 2=m.n):=by rw[Hid];omega
   go_wp2_with fail
   refine(Zdm _ base _ l i ⟨m.t,m.n,m.obj,m.e⟩ w2.heap.size (HO.out.keep (X:=[]) kp (fun _ _=>by simp)) HI.out hl Zc.has (fun k hk=>by have:=HLT.out k hk;omega) (Nat.le_trans hbase (Kept.size (X:=[]) (w:=w) kp))).mono ?_
   rintro e w6 ⟨v',rfl,ho6,hg6,ha6⟩
   have HO6:=hh ho6
   have HG6:=hh (Kept.grownBy' (a:=w) kp hg6)
   have HA6:=hh ha6
   have HZ6:Hid (w.heap.size≤(World.heap ((w2.setCell ⟨w.heap.size,1,none⟩ (.int .i64 m.n)).alloc (.cells (MeV.mk m.t m.n m.obj m.e).cells.toArray 114))).size):=Kept.size (X:=[]) (w:=w) kp
   clear ho6 hg6 ha6
   go_wp2_with fail
   refine bodyPost_ret (v:=v') (by simp[results,results115,go_sem]) rfl ?_
   rw[HW.out,HM.out]
   exact⟨_,rfl,HO6.out,HG6.out,HA6.out.imp (fun h=>h) (fun⟨b,h1,h2⟩=>⟨b,h1,Nat.le_trans HZ6.out h2⟩)⟩
  ·have HM:Hid (min m.n 2=2):=by rw[Hid];omega
   have h3:2 < m.n:=by omega
   go_wp2_with fail
   refine(Zdm _ base _ l i ⟨m.t,2,m.obj,m.e⟩ w2.heap.size (HO.out.keep (X:=[]) kp (fun _ _=>by simp)) HI.out hl Zc.has (fun k hk=>by have:=HLT.out k hk;omega) (Nat.le_trans hbase (Kept.size (X:=[]) (w:=w) kp))).mono ?_
   rintro e w6 ⟨v',rfl,ho6,hg6,ha6⟩
   have HO6:=hh ho6
   have HG6:=hh (Kept.grownBy' (a:=w) kp hg6)
   have HA6:=hh ha6
   have HZ6:Hid (w.heap.size≤(World.heap ((w2.setCell ⟨w.heap.size,1,none⟩ (.int .i64 2)).alloc (.cells (MeV.mk m.t 2 m.obj m.e).cells.toArray 114))).size):=Kept.size (X:=[]) (w:=w) kp
   clear ho6 hg6 ha6
   go_wp2_with fail
   refine bodyPost_ret (v:=v') (by simp[results,results115,go_sem]) rfl ?_
   rw[HW.out,HM.out]
   exact⟨_,rfl,HO6.out,HG6.out,HA6.out.imp (fun h=>h) (fun⟨b,h1,h2⟩=>⟨b,h1,Nat.le_trans HZ6.out h2⟩)⟩
 ·have HW:Hid (Zac l m=l.set (bsI l m) ⟨m.t,2,m.obj,Zg⟩):=by rw[Hid,HV.out,if_neg h0,hf];rfl
  have HI:Hid (bsI l m < l.length):=by
   unfold bsF at hf
   rw[Bool.and_eq_true,decide_eq_true_eq]at hf
   exact hf.1
  rw[hf]at HR
  clear HV h0
  generalize bsI l m=i at*
  go_enter func115,ntmps115
  go_wp2_with fail
  refine nxt (HR.out _ kp) fun w2 p_w2=>?_;have hz_w2:=szk w w2
  clear HR
  have hi2:=HI.out
  cases A with
  | none=>
   have:=hc3 rfl
   omega
  | some ad=>
  obtain⟨g,hg⟩:∃g,ad=⟨g,0,none⟩:=by
   rcases HO.out.2 with⟨e,hn⟩ | ⟨g,cap,cur,e,_⟩
   ·cases e
   ·cases e
    exact⟨g,rfl⟩
  subst hg
  have HO2:=hh (HO.out.keep (w':=w2) (X:=[]) kp (fun _ _=>by simp))
  go_wp2_with (refine Zbw rfl (.tmp 25) (.tmp 24) rfl base _ l HO2.out i hi2 g rfl ⟨m.t,2,m.obj,Zg⟩ rfl rfl ?_;intro w6 ho6 hg6;have HO6:=hh ho6;have HG6:=hh hg6;clear ho6 hg6)
  refine bodyPost_ret (v:= .slice (some ⟨g,0,none⟩) l.length c) (by simp[results,results115,go_sem]) rfl ?_
  rw[HW.out]
  exact⟨_,rfl,HO6.out,Kept.grownBy' kp HG6.out,.inl rfl⟩
theorem Zfr (l:List MeV) (i:Nat) (m:MeV):Yf ((l.map MeV.er).getD i default) m.er=Yf (l.getD i default) m:=by
 by_cases h:i < l.length
 ·have e1:(l.map MeV.er).getD i default=(l.getD i default).er:=by simp[List.getD_eq_getElem?_getD,h]
  rw[e1];rfl
 ·have e1:(l.map MeV.er).getD i default=default:=by simp[List.getD_eq_getElem?_getD,h]
  have e2:l.getD i default=default:=by simp[List.getD_eq_getElem?_getD,h]
  rw[e1,e2];rfl
theorem ZlW (l:List MeV) (m:MeV):∀k i j,bsN (l.map MeV.er) m.er k i j=bsN l m k i j
 | 0,_,_=>rfl
 | k+1,i,j=>by
  rw[bsN,bsN,Zfr,ZlW l m k,ZlW l m k]
theorem Zpz (l:List MeV) (m:MeV):bsI (l.map MeV.er) m.er=bsI l m:=by
 unfold bsI
 rw[ZlW,List.length_map]
theorem ZsH (l:List MeV) (m:MeV):bsF (l.map MeV.er) m.er=bsF l m:=by
 unfold bsF
 rw[Zpz,List.length_map,Zfr]
theorem Zmb (l:List MeV) (m:MeV):(Zac l m).map MeV.er=Zac (l.map MeV.er) m.er:=by
 unfold Zac
 rw[ZsH,Zpz]
 show List.map MeV.er (if m.n≤0 then l else _)=if m.n≤0 then _ else _
 split
 ·rfl
 split
 ·rw[List.map_set]
  show(l.map MeV.er).set _ (MeV.er ⟨m.t,2,m.obj,Zg⟩)=_
  unfold MeV.er
  rw[YD]
 ·unfold Zdn
  rw[List.map_append,List.map_cons,List.map_take,List.map_drop]
  rfl
theorem Zis {l:List MeV} {m m':MeV} (h:m'∈Zac l m):m'∈l∨m'.e=Zg∨m'.e=m.e:=by
 unfold Zac at h
 split at h
 ·exact .inl h
 split at h
 ·rcases List.mem_or_eq_of_mem_set h with h | rfl
  ·exact .inl h
  ·exact .inr (.inl rfl)
 ·unfold Zdn at h
  rcases List.mem_append.1 h with h | h
  ·exact .inl (List.mem_of_mem_take h)
  ·rcases List.mem_cons.1 h with rfl | h
   ·exact .inr (.inr rfl)
   ·exact .inl (List.mem_of_mem_drop h)
def Ju {α:Type} (F:α→MeV) (xs:List α):List MeV:=xs.foldl (fun acc x=>Zac acc (F x)) []
theorem Zja {α:Type} (F:α→MeV) (xs:List α) (x:α):Ju F (xs++ [x])=Zac (Ju F xs) (F x):=by simp[Ju]
theorem Zi9 {α:Type} {F:α→MeV} {xs:List α} {k:Nat} {x:α} (hx:xs[k]? =some x):Ju F (xs.take (k+1))=Zac (Ju F (xs.take k)) (F x):=by
 obtain⟨h,rfl⟩:=List.getElem?_eq_some_iff.1 hx
 rw[List.take_succ_eq_append_getElem h,Zja]
theorem ZfK {α:Type} (F:α→MeV):∀(xs:List α) (acc:List MeV),(xs.foldl (fun acc x=>Zac acc (F x)) acc).length≤acc.length+xs.length
 | [],acc=>by simp
 | x::xs,acc=>by
  have h1:=ZfK F xs (Zac acc (F x))
  have h2:=Zit acc (F x)
  simp only[List.foldl_cons,List.length_cons]
  omega
theorem ZlG {α:Type} (F:α→MeV) (xs:List α):(Ju F xs).length≤xs.length:=by
 have:=ZfK F xs []
 simpa [Ju]using this
def Qd (v:Value) (X:List Nat):List Nat:=match v.ownBlock with | some g=>g::X | none=>X
theorem Zl {v:Value} {X:List Nat} {q:Nat}:q∈Qd v X↔v.ownBlock=some q∨q∈X:=by
 unfold Qd
 cases v.ownBlock with
 | none=>simp
 | some g=>simp[eq_comm]
def MsD (X:List Nat) (w:World) (ms:List MeV):Prop:=∀m,m∈ms→ExD X w m.e
theorem MsD.kept {X:List Nat} {w w':World} {ms:List MeV} (h:MsD X w ms) (hk:Kept [] w w'):MsD X w' ms:=fun m hm=>(h m hm).kept hk
theorem ExD.grow {X:List Nat} {w w':World} {v v':Value} {x:ExV} (h:ExD (Qd v X) w x) (hg:w.grownBy w' v.ownBlock) (ha:v'.ownBlock=v.ownBlock∨∃b,v'.ownBlock=some b∧w.heap.size≤b):ExD (Qd v' X) w' x:=by
 obtain⟨n,h⟩:=h
 refine⟨n,fun w'' hk=>h w'' ⟨hk.os.trans hg.os,hk.tape.trans hg.tape,hk.output.trans hg.output,Nat.le_trans hg.size hk.size,fun i hi hx=>?_⟩⟩
 rw[Zl]at hx
 rw[hk.block i (Nat.lt_of_lt_of_le hi hg.size) (by
  rw[Zl]
  rintro(h1 | h1)
  ·rcases ha with h2 | ⟨b,h2,h3⟩
   ·exact hx (.inl (h2▸h1))
   ·rw[h2]at h1
    cases h1
    omega
  ·exact hx (.inr h1))]
 exact hg.block i hi (fun e=>hx (.inl e.symm))
def ZoL (X:List Nat) (μ:MeV) (w:World) (e:Ending) (w':World):Prop:=∃m:MeV,e= .returned (.agg m.cells.toArray)∧m.er=μ∧ExD X w' m.e∧Kept [] w w'
def Zc1 (X:List Nat) (μs:List MeV) (w:World) (e:Ending) (w':World):Prop:=∃v ms,e= .returned v∧Zbf w' w.heap.size v ms∧ms.map MeV.er=μs∧MsD (Qd v X) w' ms∧Kept [] w w'
theorem ZfS (X:List Nat) (w:World) (A:Option Addr) (c:Nat) (xs:List Int) (hI:ZM w A xs) (hl:xs.length≤1000000000) (hX:∀q,q∈X→q < w.heap.size) (K:Nat) (caps:Array Value) (F:Int→MeV) (eg:∀args w,(callFunc K args).run prog w= .ok (.enter K args) w)
 (hp:∀W Y x,Kept [] w W→(∀q,q∈Y→q∈X∨w.heap.size≤q)→(∀q,q∈Y→q < W.heap.size)→x∈xs→Calls prog K (#[.int .i64 x]++caps) W (ZoL Y (F x) W)):
 Calls prog 106 #[.slice A xs.length c,.func (.func K) #[] caps] w (Zc1 X (Ju F xs) w):=by
 have HI:=hh hI
 have HP:=hh hp
 have HX:=hh hX
 clear hI hp hX
 go_enter func106,ntmps106
 go_wp2_with fail
 go_loopw [4,9] (fun s4 s9 wr=>∃(k:Nat) (v:Value) (ms:List MeV),s9= .int .i64 k∧s4=v∧k≤xs.length∧Zbf wr w.heap.size v ms∧ms.map MeV.er=Ju F (xs.take k)∧MsD (Qd v X) wr ms∧Kept [] w wr) (fun _ s9 _=>xs.length - (intOf s9).toNat)
 case atStart=>exact⟨0,_,[],rfl,rfl,Nat.zero_le _,Zbf.nil _ _,rfl,fun m hm=>by simp at hm,Kept.refl _ _⟩
 case round=>
  obtain⟨k,s4,ms,rfl,hv,hk,ho,he,hd,hkr⟩:=hrel
  replace hv:=hv.symm
  subst hv
  have HO:=hh ho
  have HE:=hh he
  have HD:=hh hd
  have HKR:=hh hkr
  have hml:ms.length≤1000000000:=by
   have h1:=congrArg List.length he
   have h2:=ZlG F (xs.take k)
   rw[List.length_map]at h1
   rw[List.length_take]at h2
   omega
  obtain⟨wo,rfl⟩:∃wo:World,wo=wr:=⟨_,rfl⟩
  clear ho he hd
  by_cases hlt:k < xs.length
  ·obtain⟨x,hx⟩:∃x,xs[k]? =some x:=⟨_,List.getElem?_eq_getElem hlt⟩
   have HS:Hid (Ju F (xs.take (k+1))=Zac (Ju F (xs.take k)) (F x)):=Zi9 hx
   have HM:Hid (x∈xs):=List.mem_of_getElem? hx
   rcases HI.out with h0 | ⟨b,o,rfl,hcx⟩
   ·rw[h0]at hlt;simp at hlt
   ·have qx:=hkr.cell (hcx k x hx) (by simp)
    clear hcx hx hkr
    have HC:=hh (HP.out wo (Qd s4 X) x HKR.out (fun q hq=>(Zl.1 hq).elim (fun h=> .inr (HO.out.lt q h).1) .inl) (fun q hq=>(Zl.1 hq).elim (fun h=>(HO.out.lt q h).2) (fun h=>Nat.lt_of_lt_of_le (HX.out q h) HKR.out.size)) HM.out)
    go_wp2_with fail
    refine HC.out.mono ?_
    rintro e w2 ⟨m,rfl,hme,hmd,hk2⟩
    have HMD:=hh hmd
    have HK2:=hh hk2
    have HME:=hh hme
    clear hme hmd hk2 HC
    have HAD:=hh (Zma w2 w.heap.size s4 ms m (HO.out.keep HK2.out (fun _ _=>by simp)) hml (HKR.out.trans HK2.out).size)
    go_wp2_with fail
    refine HAD.out.mono ?_
    rintro e w3 ⟨v',rfl,ho3,hg3,ha3⟩
    have HO3:=hh ho3
    have HK3:Hid (Kept [] w w3):=(HKR.out.trans HK2.out).grown hg3 (fun q hq=>(HO.out.lt q hq).1)
    have HD3:Hid (MsD (Qd v' X) w3 (Zac ms m)):=by
     intro m' hm'
     rcases Zis hm' with h1 | h1 | h1
     ·exact((HD.out m' h1).kept HK2.out).grow hg3 ha3
     ·rw[h1];exact ZaX _ _
     ·rw[h1];exact HMD.out.grow hg3 ha3
    have HE3:Hid ((Zac ms m).map MeV.er=Ju F (xs.take (k+1))):=by rw[Hid,HS.out,Zmb,HE.out,HME.out]
    clear ho3 hg3 ha3 HAD
    go_wp2_with fail
    go_roundw
    case rel=>exact⟨k+1,v',Zac ms m,by go_num,rfl,by omega,HO3.out,HE3.out,HD3.out,HK3.out⟩
    case measure=>simp[intOf];omega
  ·obtain rfl:k=xs.length:=by omega
   have HE2:=hh (by have:=HE.out;rw[List.take_length]at this;exact this)
   clear HE
   go_wp2_with fail
   go_ret
   exact⟨_,ms,rfl,HO.out,HE2.out,HD.out,HKR.out⟩
end
end Go.Proofs.YtfaecpkocgcofaaGreatDoor
