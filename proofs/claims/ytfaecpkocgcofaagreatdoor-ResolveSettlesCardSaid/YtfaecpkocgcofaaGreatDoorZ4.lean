/- Lemmas for ResolveSettles, printed small: K10 K13 K14. -/
import Derived.Test.YtfaecpkocgcofaaGreatDoorZ3
set_option linter.all false
set_option maxRecDepth 100000
set_option maxHeartbeats 8000000
open Go.Proofs.Tryz
namespace Go.Proofs.YtfaecpkocgcofaaGreatDoor
section
open Go.RowKit
section
variable {w:World} {U:World→Prop}
theorem Zs.prop (z:Zs w U):Kept [] w z.1:=z.2.1
instance (b o:Nat) (x:Zx) (z:Zs w U) [h:YO w b o x]:YO z.1 b o x:=h.kept z.2.1
instance (b o:Nat) (x:TyV) (z:Zs w U) [h:Zar w b o x]:Zar z.1 b o x:=h.kept z.2.1
instance (b o:Nat) (x:ZL) (z:Zs w U) [h:Y5 w b o x]:Y5 z.1 b o x:=h.kept z.2.1
instance (b o:Nat) (x:ExV) (z:Zs w U) [h:Q1 w b o x]:Q1 z.1 b o x:=h.kept z.2.1
instance (B:Nat) (ty:TypeId) (cs:Array Value) (z:Zs w U) [h:Zc w B ty cs]:Zc z.1 B ty cs:=h.kept z.2.1
theorem Zs.cell {p:Addr} {v:Value} (h:w.cell? p=some v):∀z:Zs w U,z.1.cell? p=some v:=fun z=>z.2.1.cell h (by simp)
theorem Zs.mk {w':World} (hU:UpC U) (z:Zs w U) (h:Kept [] z.1 w'):∃z':Zs w U,w'=z'.1:=⟨⟨w',z.2.1.trans h,hU _ _ z.2.2 h⟩,rfl⟩
theorem Calls.headV {P:Program} {f:FuncId} {args:Array Value} {v:Value} (hU:UpC U) {z:Zs w U} (h:Calls P f args z.1 (ZE v z.1)):Calls P f args z.1 fun e w''=>e= .returned v∧∃z':Zs w U,w''=z'.1:=
 h.mono fun _ _ ⟨he,hk⟩=>⟨he,Zs.mk hU z hk⟩
theorem Calls.headB {P:Program} {f:FuncId} {args:Array Value} {b:Bool} (hU:UpC U) {z:Zs w U} (h:Calls P f args z.1 (J0 b z.1)):Calls P f args z.1 fun e w''=>e= .returned (.bool b)∧∃z':Zs w U,w''=z'.1:=
 h.mono fun _ _ ⟨he,hk⟩=>⟨he,Zs.mk hU z hk⟩
end
class Zb (w':World) (w:outParam World):Prop where
 kept:Kept [] w w'
instance (w' w:World) (b o:Nat) (x:Zx) [p:Zb w' w] [h:YO w b o x]:YO w' b o x:=h.kept p.kept
instance (w' w:World) (b o:Nat) (x:TyV) [p:Zb w' w] [h:Zar w b o x]:Zar w' b o x:=h.kept p.kept
instance (w' w:World) (b o:Nat) (x:ZL) [p:Zb w' w] [h:Y5 w b o x]:Y5 w' b o x:=h.kept p.kept
instance (w' w:World) (b o:Nat) (x:ExV) [p:Zb w' w] [h:Q1 w b o x]:Q1 w' b o x:=h.kept p.kept
instance (w' w:World) (B:Nat) (ty:TypeId) (cs:Array Value) [p:Zb w' w] [h:Zc w B ty cs]:Zc w' B ty cs:=h.kept p.kept
class Z2 (B:Nat) (W:outParam World):Prop where
 le:W.heap.size≤B
instance (B B':Nat) (W:World) (ty:TypeId) (cs:Array Value) [h:Z2 B W] [b:Zc W B' ty cs]:LtB B' B:=⟨Nat.lt_of_lt_of_le b.lt h.le⟩
theorem Kept.prev {w w0 w1:World} [p:Zb w1 w0] (h:Kept [] w w0):Kept [] w w1:=h.trans p.kept
@[go_sem] theorem ZuM (w:World) (b o:Nat) (x:ZL) [h:Y5 w b o x]:w.cell? ⟨b,o,none⟩=some (.int .i64 x.t):=by simpa using h.range 0 _ rfl
@[go_sem] theorem ZuL (w:World) (b o:Nat) (x:ZL) [h:Y5 w b o x]:w.cell? ⟨b,o+1,none⟩=some (.int .i64 x.lo):=h.range 1 _ rfl
@[go_sem] theorem ZuK (w:World) (b o:Nat) (x:ZL) [h:Y5 w b o x]:w.cell? ⟨b,o+2,none⟩=some (.int .i64 x.hi):=h.range 2 _ rfl
@[go_sem] theorem Zu7 (w:World) (b o:Nat) (x:TyV) [h:Zar w b o x]:w.cell? ⟨b,o,none⟩=some (.int .u8 x.kind):=by simpa using h.range 0 _ rfl
@[go_sem] theorem Zu5 (w:World) (b o:Nat) (x:TyV) [h:Zar w b o x]:w.cell? ⟨b,o+5,none⟩=some (.int .i64 x.index):=h.range 5 _ rfl
theorem Zab {P:Program} {o:Oper} {ty:TypeId} {z:Value} (ho:o.op= .alloc ty) (hg:o.guard=none) (hz:∀w,(zeroValue ty).run P w= .ok z w):Alc P o (.cells z.cells ty):=by
 refine⟨hg,fun a w=>?_⟩
 simp[execOp,ho,Instr.alloc,hz,newVar,newRow,newObj,Sem.run_bind]
 rfl
theorem Tryz.zeroBd (w:World):(zeroValue 150).run prog w= .ok (.agg #[.int .i64 0,.int .i64 0]) w:=by kernel_rfl
theorem ZdW {B1 B2:Nat} {ob:Obj} {L:ZaV} (h:∀x,x∈(B1,ob)::L→x.1≠B2):B1≠B2:=h (B1,ob) (by simp)
theorem Q8 {w:World} {B:Nat} {ty:TypeId} {cs:Array Value} {L:ZaV} (h:ZmE L w) (hm:(B,Obj.cells cs ty)∈L):Zc w B ty cs:=⟨h _ hm⟩
theorem nxt{P:Program}{f:FuncId}{a:Array Value}{w:World}{e0:Ending}{Q:Ending→World→Prop}(h:Calls P f a w fun e w'=>e=e0∧Kept [] w w')(k:∀w1,Zb w1 w→Q e0 w1):Calls P f a w Q:=h.mono fun e w1 h=>by obtain⟨rfl,h2⟩:=h;exact k w1 ⟨h2⟩
theorem szk(a b:World)(h:Kept [] a b:=by exact kp):a.heap.size≤b.heap.size:=Kept.size h
section
variable {P:Program} {md:Region.Mode} {ops:Array Oper} {Q:Exit→Act→World→Prop} {w0:World} {hd:List Nat}
abbrev CT (w0:World):World→Prop:=CU w0 (fun _=>True)
def Zgb (P:Program) (md:Region.Mode) (ops:Array Oper) (Q:Exit→Act→World→Prop) (w0:World) (hd:List Nat):Nat→Array Bool→Act→Prop
 | 0,done,a=>Region.ready md ops done= []∧∀w,CT w0 w→Q .normal a w
 | k+1,done,a=>(Region.ready md ops done= []→∀w,CT w0 w→Q .normal a w)∧
  ∀i,i∈Region.ready md ops done→∀o,ops[i]? =some o→
   (i∈hd→∃v,ZbG P ops w0 o v a∧Zgb P md ops Q w0 hd k (done.setIfInBounds i true) (a.put o.dst v))∧
   (i∉hd→∀w,CT w0 w→wpOp P ops Q i (wpAny P md ops Q k (done.setIfInBounds i true)) a w)
theorem Zgb.any:∀(k:Nat) (done:Array Bool) (a:Act) (w:World),CT w0 w→Zgb P md ops Q w0 hd k done a→wpAny P md ops Q k done a w
 | 0,_,_,w,hw,h=>⟨h.1,h.2 w hw⟩
 | k+1,done,a,w,hw,h=>⟨fun h0=>h.1 h0 w hw,fun i hi=>by
  obtain⟨_,o,ho,_⟩:=mem_ready.1 hi
  obtain⟨h1,h3⟩:=h.2 i hi o ho
  by_cases c1:i∈hd
  ·obtain⟨v,hy,hk⟩:=h1 c1
   have hq:qOp P ops (CT w0) i (fun a'=>Zgb P md ops Q w0 hd k (done.setIfInBounds i true) a') a:=(hy _ (fun _ _ _ _=>trivial) ⟨w,hw⟩).qOp ho hk
   exact wpOp_of_qOp hw (fun a' w' hw' hk'=>Zgb.any k _ a' w' hw' hk') hq
  ·exact h3 c1 w hw⟩
def ZpF (md:Region.Mode) (ops:Array Oper):Nat→Nat→Nat→Bool
 | 0,t,i=>Region.waitsFor md ops t i
 | f+1,t,i=>Region.waitsFor md ops t i || (List.range ops.size).any fun k=>Region.waitsFor md ops t k && ZpF md ops f k i
theorem Zgn {i:Nat} {done:Array Bool} (hc:Qa md ops done) (hun:done.getD i true=false):∀(f t:Nat),ZpF md ops f t i=true→done.getD t false=false:=by
 have direct:∀t,Region.waitsFor md ops t i=true→done.getD t false=false:=fun t h=>by
  obtain⟨o,ho,e,he,hb,hon⟩:=Region.waitsFor_spec h
  cases hl:done.getD t false with
  | false=>rfl
  | true=>
   have h2:=hc.shut t o ho hl e he hb
   rw[hon,getD_both hun]at h2
   cases h2
 intro f
 induction f with
 | zero=>exact direct
 | succ f ih=>
  intro t h
  simp only[ZpF,Bool.or_eq_true]at h
  rcases h with h | h
  ·exact direct t h
  ·obtain⟨k,_,hk⟩:=List.any_eq_true.1 h
   simp only[Bool.and_eq_true]at hk
   have h1:=ih k hk.2
   obtain⟨o,ho,e,he,hb,hon⟩:=Region.waitsFor_spec hk.1
   cases hl:done.getD t false with
   | false=>rfl
   | true=>
    have h2:=hc.shut t o ho hl e he hb
    rw[hon,h1]at h2
    cases h2
theorem Zc5 {i:Nat} {done:Array Bool} (hc:Qa md ops done) (hun:done.getD i true=false) {f t:Nat} (h:ZpF md ops f t i=true):t∉Region.ready md ops done:=fun hr=>by
 obtain⟨_,ot,hot,hall⟩:=mem_ready.1 hr
 have direct:∀k,Region.waitsFor md ops t k=true→done.getD k false=false→False:=fun k h h1=>by
  obtain⟨o,ho,e,he,hb,hon⟩:=Region.waitsFor_spec h
  have:o=ot:=Option.some.inj (ho.symm.trans hot)
  subst this
  have h2:=hall e he hb
  rw[hon,h1]at h2
  cases h2
 cases f with
 | zero=>exact direct i h (getD_both hun)
 | succ f=>
  simp only[ZpF,Bool.or_eq_true]at h
  rcases h with h | h
  ·exact direct i h (getD_both hun)
  ·obtain⟨k,_,hk⟩:=List.any_eq_true.1 h
   simp only[Bool.and_eq_true]at hk
   exact direct k hk.1 (Zgn hc hun f k hk.2)
def Zk6 (md:Region.Mode) (ops:Array Oper) (hd:List Nat) (i:Nat):Bool:=(List.range ops.size).all fun t=>hd.contains t || ZpF md ops 4 t i
theorem Zcq {i:Nat} {done:Array Bool} (h:Zk6 md ops hd i=true) (hc:Qa md ops done) (hun:done.getD i true=false):∀t,t∉hd→t∉Region.ready md ops done:=fun t ht hr=>by
 obtain⟨_,ot,hot,_⟩:=mem_ready.1 hr
 have:=List.all_eq_true.1 h t (List.mem_range.2 (Array.getElem?_eq_some_iff.1 hot).1)
 simp only[Bool.or_eq_true]at this
 rcases this with h1 | h1
 ·exact ht (by simpa using h1)
 ·exact Zc5 hc hun h1 hr
theorem Zgb.first {i:Nat} {oi:Oper} {v:Value} (hi:ops[i]? =some oi) (hin:i∈hd) (hsel:∀(j:Nat) (o:Oper) cs b,ops[j]? =some o→o.op≠ .select cs b)
 (hQ:∀c a w,Q (.panic c) (a.put oi.dst v) w→Q (.panic c) a w)
 (hfl:Zbu oi=true∨∀done,Qa md ops done→done.getD i true=false→∀t,t∉hd→t∉Region.ready md ops done):
 ∀(k:Nat) (done:Array Bool) (a:Act),Qa md ops done→
  (∀j oj,ops[j]? =some oj→j≠i→done.getD j true=false→(∀e∈oj.after,Region.binds md e=true→e.on≠i)→oi.apart ops oj=true)→
  i∈Region.ready md ops done→ZbG P ops w0 oi v a→
  Zgb P md ops Q w0 hd k (done.setIfInBounds i true) (a.put oi.dst v)→Zgb P md ops Q w0 hd (k+1) done a:=by
 intro k
 induction k with
 | zero=>
  intro done a _ _ hr hy H
  refine⟨fun h=>by simp[h]at hr,fun j hj oj hoj=>?_⟩
  by_cases e:j=i
  ·subst e
   rw[hi]at hoj
   cases hoj
   exact⟨fun _=>⟨v,hy,H⟩,fun c=>absurd hin c⟩
  ·have:=ready_mono hj e
   simp[H.1]at this
 | succ k ih=>
  intro done a hcl hfree hr hy H
  refine⟨fun h=>by simp[h]at hr,fun j hj oj hoj=>?_⟩
  by_cases e:j=i
  ·subst e
   rw[hi]at hoj
   cases hoj
   exact⟨fun _=>⟨v,hy,H⟩,fun c=>absurd hin c⟩
  have hun:=(mem_ready.1 hj).1
  have hap:=hfree j oj hoj e hun (Qp hr hj hoj)
  obtain⟨p1,p2,p3⟩:=Oper.apart_spec hap
  have hsi:=fun cs b=>hsel i oi cs b hi
  have hsj:=fun cs b=>hsel j oj cs b hoj
  have keep:∀u,ZbG P ops w0 oi v (a.put oj.dst u):=fun u=>hy.of_same (execOp_put oi hsi a oj.dst u p3) (wanted_put oi a oj.dst u p3)
  have hfree':∀q oq,ops[q]? =some oq→q≠i→(done.setIfInBounds j true).getD q true=false→(∀e∈oq.after,Region.binds md e=true→e.on≠i)→oi.apart ops oq=true:=fun q oq hq hqi hqu hno=>by
   refine hfree q oq hq hqi ?_ hno
   by_cases hjq:j=q
   ·subst hjq;exact hun
   ·rwa [getD_set_ne true hjq]at hqu
  have hr':=ready_mono hr (fun x=>e x.symm)
  obtain⟨h1,h3⟩:=H.2 j (ready_mono hj e) oj hoj
  refine⟨fun c=>?_,fun c w hw=>?_⟩
  ·obtain⟨u,hu,hk⟩:=h1 c
   refine⟨u,hu.of_same (execOp_put oj hsj a oi.dst v p1).symm (wanted_put oj a oi.dst v p1).symm,ih _ _ (hcl.set hj) hfree' hr' (keep u) ?_⟩
   rw[Array.setIfInBounds_comm _ _ e,←Act.put_comm a v u p2]
   exact hk
  ·rcases hfl with hfl | hfl
   ·have hyy:=hy.yields hfl
    have h4:=wpOp_put hoj hap hsi hsj hQ hyy (h3 c w hw)
    refine wpOp_mono (fun a' w' h5=>?_) h4
    refine wpAny_first hi hsel hQ k _ a' w' hfree' hr' h5.1 ?_
    rw[Array.setIfInBounds_comm _ _ e]
    exact h5.2
   ·exact(hfl done hcl (mem_ready.1 hr).1 j c hj).elim
def ZW (l:List Oper) (is:List Nat):List Oper:=is.flatMap fun i=>(l[i]?).toList
def ZhJ (md:Region.Mode) (ops:Array Oper):List Nat→Array Bool→Bool
 | [],done=>(Region.ready md ops done).isEmpty
 | i::r,done=>decide (Region.ready md ops done= [i]) && ZhJ md ops r (done.setIfInBounds i true)
theorem Qi {l:List Oper} (hl:ops=l.toArray):∀(ts:List Nat) (done:Array Bool) (a:Act) (w:World),(∀i∈ts,i < l.length)→
 ZhJ md ops ts done=true→wpList P ops Q (ZW l ts) a w→wpAny P md ops Q ts.length done a w
 | [],_,_,_,_,hB,h=>⟨by simpa [ZhJ]using hB,h⟩
 | i::ts,done,a,w,hi,hB,h=>by
  have hlt:=hi i (by simp)
  have h0:ops[i]? =some l[i]:=by subst hl;simp[hlt]
  have hp:ZW l (i::ts)=l[i]::ZW l ts:=by simp[ZW,hlt]
  rw[hp]at h
  simp only[ZhJ,Bool.and_eq_true,decide_eq_true_eq]at hB
  refine⟨fun h1=>(by rw[hB.1]at h1;cases h1),fun j hj=>?_⟩
  rw[hB.1]at hj
  have hik:j=i:=by simpa using hj
  subst hik
  have hw:wpOp P ops Q j (wpList P ops Q (ZW l ts)) a w:=by unfold wpOp;simp only[h0];exact h
  exact wpOp_mono (fun a' w' h'=>Qi hl ts _ a' w' (fun i h=>hi i (List.mem_cons_of_mem _ h)) hB.2 h') hw
def Zsa (md:Region.Mode) (ops:Array Oper) (hd ts:List Nat):List Nat→Array Bool→Bool
 | [],done=>ZhJ md ops ts done
 | k::r,done=>(Region.ready md ops done).contains k && Region.free md ops done k && (((ops[k]?).map Zbu).getD false || Zk6 md ops hd k) && Zsa md ops hd ts r (done.setIfInBounds k true)
theorem Zgb.heads {l:List Oper} (hl:ops=l.toArray) (hsel:Region.noSelect ops=true) (hQ:∀(d:Tmp) v c a w,Q (.panic c) (a.put (some d) v) w→Q (.panic c) a w) (ts:List Nat) (hts:∀i∈ts,i < l.length) (hdt:∀i∈ts,i∉hd) (A:Act) (hA:∀w',Kept [] w0 w'→wpList P ops Q (ZW l ts) A w'):
 ∀(hs:List Nat) (done:Array Bool) (a:Act),(∀i∈hs,i < l.length)→(∀i∈hs,i∈hd)→
  Zsa md ops hd ts hs done=true→ZbA a.tmps.size (ZW l hs)=true→Qa md ops done→
  (∀U,UpC U→Nonempty (Zs w0 U)→wpQuiet P ops (CU w0 U) (fun a'=>a'=A) (ZW l hs) a)→Zgb P md ops Q w0 hd (hs.length+ts.length) done a
 | [],done,a,_,_,hB,_,_,h=>by
  obtain rfl:a=A:=h (fun _=>True) (fun _ _ _ _=>trivial) ⟨⟨w0,Kept.refl _ _,trivial⟩⟩
  rw[List.length_nil,Nat.zero_add]
  simp only[Zsa]at hB
  have h1:∀w',CT w0 w'→wpAny P md ops Q ts.length done a w':=fun w' hw=>Qi hl ts done a w' hts hB (hA w' hw.kept)
  cases ts with
  | nil=>exact⟨by simpa [ZhJ]using hB,fun w hw=>(h1 w hw).2⟩
  | cons i ts=>
   simp only[List.length_cons]at h1⊢
   simp only[ZhJ,Bool.and_eq_true,decide_eq_true_eq]at hB
   refine⟨fun h0 w hw=>(h1 w hw).1 h0,fun j hj o ho=>⟨fun c=>?_,fun _ w hw=>(h1 w hw).2 j hj⟩⟩
   rw[hB.1]at hj
   obtain rfl:j=i:=by simpa using hj
   exact absurd c (hdt j (by simp))
 | k::hs,done,a,hi,hin,hB,hdst,hds,h=>by
  have hlt:=hi k (by simp)
  have h0:ops[k]? =some l[k]:=by subst hl;simp[hlt]
  have hp:ZW l (k::hs)=l[k]::ZW l hs:=by simp[ZW,hlt]
  rw[hp]at hdst h
  generalize l[k]=o at*
  simp only[Zsa,Bool.and_eq_true,Bool.or_eq_true]at hB
  obtain⟨⟨⟨hr,hf⟩,hw⟩,hB'⟩:=hB
  simp only[ZbA,Bool.and_eq_true]at hdst
  obtain⟨hd1,hd2⟩:=hdst
  obtain⟨d,hod,hds1,hds2⟩:∃d,o.dst=some d∧d < a.tmps.size∧∀o',o'∈ZW l hs→o'.dst≠some d:=by
   split at hd1
   ·rename_i d hod
    simp only[Bool.and_eq_true,decide_eq_true_eq,List.all_eq_true,bne_iff_ne]at hd1
    exact⟨d,hod,hd1.1,hd1.2⟩
   ·cases hd1
  have hone:∀U,UpC U→Nonempty (Zs w0 U)→∃v,YieldsIn P ops (CU w0 U) o v a∧wpQuiet P ops (CU w0 U) (fun a'=>a'=A) (ZW l hs) (a.put o.dst v)∧some v=A.tmps[d]? :=fun U hU hn=>by
   have hq:qOp P ops (CU w0 U) k (wpQuiet P ops (CU w0 U) (fun a'=>a'=A) (ZW l hs)) a:=by
    unfold qOp
    simp only[h0]
    exact h U hU hn
   obtain⟨v,hy,hK⟩:=yieldsIn_of_qOp h0 hq
   refine⟨v,hy,hK,?_⟩
   rw[Yj _ _ hK d hds2,hod]
   simp[Act.put,hds1]
  obtain⟨v,_,_,hv⟩:=hone (fun _=>True) (fun _ _ _ _=>trivial) ⟨⟨w0,Kept.refl _ _,trivial⟩⟩
  have hall:∀U,UpC U→Nonempty (Zs w0 U)→YieldsIn P ops (CU w0 U) o v a∧wpQuiet P ops (CU w0 U) (fun a'=>a'=A) (ZW l hs) (a.put o.dst v):=fun U hU hn=>by
   obtain⟨u,h1,h2,h3⟩:=hone U hU hn
   have:u=v:=by
    rw[←hv]at h3
    exact Option.some.inj h3
   subst this
   exact⟨h1,h2⟩
  rw[show(k::hs).length+ts.length=(hs.length+ts.length)+1 by simp;omega]
  refine Zgb.first h0 (hin k (by simp)) (Region.noSelect_spec hsel) (fun c a w=>by rw[hod];exact hQ d v c a w) ?_ _ done a hds (Region.free_spec h0 hf) (by simpa using hr) (fun U hU ⟨w,hw⟩=>(hall U hU (by obtain⟨z,_⟩:=hw;exact⟨z⟩)).1) ?_
  ·rcases hw with hw | hw
   ·left
    rw[h0]at hw
    simpa using hw
   ·exact .inr fun d hd hu=>Zcq hw hd hu
  ·refine Zgb.heads hl hsel hQ ts hts hdt A hA hs _ _ (fun i h=>hi i (List.mem_cons_of_mem _ h)) (fun i h=>hin i (List.mem_cons_of_mem _ h)) hB' ?_ (hds.set (by simpa using hr)) (fun U hU hn=>(hall U hU hn).2)
   rw[hod]
   simpa [Act.put]using hd2
def Zsj (l:List Oper) (hs ts:List Nat) (size:Nat):Bool:=Region.noSelect l.toArray && decide (hs.length+ts.length=l.length) && hs.all (fun i=>decide (i < l.length)) && ts.all (fun i=>decide (i < l.length)) && ts.all (fun i=>!hs.contains i) &&
 Zsa .any l.toArray hs ts hs (Array.replicate l.length false) && ZbA size (ZW l hs)
theorem Zy {id:Nat} {a:Act} {w:World} {l:List Oper} (hs ts:List Nat) (hm:P.follows .mixedOrders=true) (hB:Zsj l hs ts a.tmps.size=true)
 (hQ:∀(d:Tmp) v c a w,Q (.panic c) (a.put (some d) v) w→Q (.panic c) a w)
 (h:∃A,(∀U,UpC U→Nonempty (Zs w U)→wpQuiet P l.toArray (fun w'=>∃z:Zs w U,w'=z.1) (fun a'=>a'=A) (ZW l hs) a)∧∀w',Kept [] w w'→wpList P l.toArray Q (ZW l ts) A w'):
 (Code.region id l.toArray true).wp P Q a w:=by
 obtain⟨A,h1,h2⟩:=h
 simp only[Zsj,Bool.and_eq_true,decide_eq_true_eq,List.all_eq_true]at hB
 obtain⟨⟨⟨⟨⟨⟨hs1,hlen⟩,hh⟩,ht⟩,hdt⟩,hx⟩,hd⟩:=hB
 have hsz:l.toArray.size=l.length:=by simp
 refine wp_region_any hm ?_
 have key:=Zgb.heads (P:=P) (md:= .any) (ops:=l.toArray) (Q:=Q) (w0:=w) (hd:=hs) rfl hs1 hQ ts ht (fun i hi=>by simpa using hdt i hi) A h2 hs (Array.replicate l.length false) a hh (fun _ h=>h) hx hd (by simpa using Qa.none (md:= .any) (ops:=l.toArray)) h1
 have:=Zgb.any (P:=P) (md:= .any) (ops:=l.toArray) (Q:=Q) (w0:=w) (hd:=hs) _ _ a {w with drawn:=w.drawn+1} (CU.mk ⟨rfl,rfl,rfl,Nat.le_refl _,fun _ _ _=>rfl⟩ trivial) key
 rw[hlen]at this
 rw[hsz]
 exact this
end
section
variable {P:Program} {md:Region.Mode} {ops:Array Oper} {Q:Exit→Act→World→Prop} {w0:World} {hd:List Nat}
theorem ZjC {j:Nat} {oi oj:Oper} {v:Value} (hj:ops[j]? =some oj) (hap:oi.apart ops oj=true)
 (hsj:∀cs b,oj.op≠ .select cs b) (hQ:∀c a w,Q (.panic c) (a.put oi.dst v) w→Q (.panic c) a w) {a:Act} {w:World}
 (h:wpOp P ops Q j (fun _ _=>False) (a.put oi.dst v) w):wpOp P ops Q j (fun _ _=>False) a w:=by
 obtain⟨h1,h2,h3⟩:=Oper.apart_spec hap
 unfold wpOp at*
 simp only[hj]at*
 rw[wanted_put oj a oi.dst v h1]at h
 split
 ·rename_i hw
  simp only[hw,if_true]at h
  rcases h with h | ⟨hasks,hlets⟩
  case inr=>exact .inr ⟨by unfold Oper.asks at*;rw[execOp_put oj hsj a oi.dst v h1]at hasks;exact hasks,hlets⟩
  refine .inl ?_
  unfold Oper.wp at*
  rw[execOp_put oj hsj a oi.dst v h1]at h
  generalize (execOp a.eval oj).run P w=r at*
  cases r with
  | ok n w'=>
   cases n <;> simp only[Oper.upon]at h⊢
   case enter f args=>
    refine Calls.mono h fun e w'' he=>?_
    cases e with
    | returned u=>exact he
    | panicked c=>exact hQ _ _ _ he
    | outgrown=>exact he
   case row row args=>exact Rows.mono h fun u w'' he=>he
  | halt x w'=>
   cases x <;> simp only[Oper.upon]at h⊢
   case panic u=>exact hQ _ _ _ h
 ·rename_i hw
  simp[hw]at h
def Ziw (P:Program) (md:Region.Mode) (ops:Array Oper) (Q:Exit→Act→World→Prop) (w0:World) (hd:List Nat):Nat→Array Bool→Act→Prop
 | 0,_,_=>False
 | k+1,done,a=>Region.ready md ops done≠ []∧
  ∀i,i∈Region.ready md ops done→∀o,ops[i]? =some o→
   (i∈hd→∃v,ZbG P ops w0 o v a∧Ziw P md ops Q w0 hd k (done.setIfInBounds i true) (a.put o.dst v))∧
   (i∉hd→∀w,CT w0 w→wpOp P ops Q i (fun _ _=>False) a w)
theorem Ziw.any:∀(k:Nat) (done:Array Bool) (a:Act) (w:World),CT w0 w→Ziw P md ops Q w0 hd k done a→wpAny P md ops Q k done a w
 | 0,_,_,_,_,h=>h.elim
 | k+1,done,a,w,hw,h=>⟨fun h0=>absurd h0 h.1,fun i hi=>by
  obtain⟨_,o,ho,_⟩:=mem_ready.1 hi
  obtain⟨h1,h3⟩:=h.2 i hi o ho
  by_cases c1:i∈hd
  ·obtain⟨v,hy,hk⟩:=h1 c1
   have hq:qOp P ops (CT w0) i (fun a'=>Ziw P md ops Q w0 hd k (done.setIfInBounds i true) a') a:=(hy _ (fun _ _ _ _=>trivial) ⟨w,hw⟩).qOp ho hk
   exact wpOp_of_qOp hw (fun a' w' hw' hk'=>Ziw.any k _ a' w' hw' hk') hq
  ·exact wpOp_mono (fun _ _ h=>h.elim) (h3 c1 w hw)⟩
theorem Ziw.first {i:Nat} {oi:Oper} {v:Value} (hi:ops[i]? =some oi) (hin:i∈hd) (hsel:∀(j:Nat) (o:Oper) cs b,ops[j]? =some o→o.op≠ .select cs b)
 (hQ:∀c a w,Q (.panic c) (a.put oi.dst v) w→Q (.panic c) a w):
 ∀(k:Nat) (done:Array Bool) (a:Act),
  (∀j oj,ops[j]? =some oj→j≠i→done.getD j true=false→(∀e∈oj.after,Region.binds md e=true→e.on≠i)→oi.apart ops oj=true)→
  i∈Region.ready md ops done→ZbG P ops w0 oi v a→
  Ziw P md ops Q w0 hd k (done.setIfInBounds i true) (a.put oi.dst v)→Ziw P md ops Q w0 hd (k+1) done a:=by
 intro k
 induction k with
 | zero=>intro done a _ hr hy H;exact H.elim
 | succ k ih=>
  intro done a hfree hr hy H
  refine⟨fun h=>by simp[h]at hr,fun j hj oj hoj=>?_⟩
  by_cases e:j=i
  ·subst e
   rw[hi]at hoj
   cases hoj
   exact⟨fun _=>⟨v,hy,H⟩,fun c=>absurd hin c⟩
  have hun:=(mem_ready.1 hj).1
  have hap:=hfree j oj hoj e hun (Qp hr hj hoj)
  obtain⟨p1,p2,p3⟩:=Oper.apart_spec hap
  have hsi:=fun cs b=>hsel i oi cs b hi
  have hsj:=fun cs b=>hsel j oj cs b hoj
  have keep:∀u,ZbG P ops w0 oi v (a.put oj.dst u):=fun u=>hy.of_same (execOp_put oi hsi a oj.dst u p3) (wanted_put oi a oj.dst u p3)
  have hfree':∀q oq,ops[q]? =some oq→q≠i→(done.setIfInBounds j true).getD q true=false→(∀e∈oq.after,Region.binds md e=true→e.on≠i)→oi.apart ops oq=true:=fun q oq hq hqi hqu hno=>by
   refine hfree q oq hq hqi ?_ hno
   by_cases hjq:j=q
   ·subst hjq;exact hun
   ·rwa [getD_set_ne true hjq]at hqu
  have hr':=ready_mono hr (fun x=>e x.symm)
  obtain⟨h1,h3⟩:=H.2 j (ready_mono hj e) oj hoj
  refine⟨fun c=>?_,fun c w hw=>ZjC hoj hap hsj hQ (h3 c w hw)⟩
  obtain⟨u,hu,hk⟩:=h1 c
  refine⟨u,hu.of_same (execOp_put oj hsj a oi.dst v p1).symm (wanted_put oj a oi.dst v p1).symm,ih _ _ hfree' hr' (keep u) ?_⟩
  rw[Array.setIfInBounds_comm _ _ e,←Act.put_comm a v u p2]
  exact hk
def Zr9 (md:Region.Mode) (ops:Array Oper) (s:Nat):List Nat→Array Bool→Bool
 | [],done=>decide (Region.ready md ops done= [s])
 | k::r,done=>(Region.ready md ops done).contains k && Region.free md ops done k && Zr9 md ops s r (done.setIfInBounds k true)
theorem Ziw.heads {l:List Oper} (hl:ops=l.toArray) (hsel:Region.noSelect ops=true) (hQ:∀(d:Tmp) v c a w,Q (.panic c) (a.put (some d) v) w→Q (.panic c) a w) (s m:Nat) (hsd:s∉hd) (A:Act) (hA:∀w',Kept [] w0 w'→wpOp P ops Q s (fun _ _=>False) A w'):
 ∀(hs:List Nat) (done:Array Bool) (a:Act),(∀i∈hs,i < l.length)→(∀i∈hs,i∈hd)→
  Zr9 md ops s hs done=true→ZbA a.tmps.size (ZW l hs)=true→
  (∀U,UpC U→Nonempty (Zs w0 U)→wpQuiet P ops (CU w0 U) (fun a'=>a'=A) (ZW l hs) a)→Ziw P md ops Q w0 hd (hs.length+(m+1)) done a
 | [],done,a,_,_,hB,_,h=>by
  obtain rfl:a=A:=h (fun _=>True) (fun _ _ _ _=>trivial) ⟨⟨w0,Kept.refl _ _,trivial⟩⟩
  rw[List.length_nil,Nat.zero_add]
  have hB:Region.ready md ops done= [s]:=by simpa [Zr9]using hB
  refine⟨fun h=>(by rw[hB]at h;cases h),fun i hi o ho=>?_⟩
  rw[hB]at hi
  obtain rfl:i=s:=by simpa using hi
  exact⟨fun c=>absurd c hsd,fun _ w hw=>hA w hw.kept⟩
 | k::hs,done,a,hi,hin,hB,hdst,h=>by
  have hlt:=hi k (by simp)
  have h0:ops[k]? =some l[k]:=by subst hl;simp[hlt]
  have hp:ZW l (k::hs)=l[k]::ZW l hs:=by simp[ZW,hlt]
  rw[hp]at hdst h
  generalize l[k]=o at*
  simp only[Zr9,Bool.and_eq_true]at hB
  obtain⟨⟨hr,hf⟩,hB'⟩:=hB
  simp only[ZbA,Bool.and_eq_true]at hdst
  obtain⟨hd1,hd2⟩:=hdst
  obtain⟨d,hod,hds1,hds2⟩:∃d,o.dst=some d∧d < a.tmps.size∧∀o',o'∈ZW l hs→o'.dst≠some d:=by
   split at hd1
   ·rename_i d hod
    simp only[Bool.and_eq_true,decide_eq_true_eq,List.all_eq_true,bne_iff_ne]at hd1
    exact⟨d,hod,hd1.1,hd1.2⟩
   ·cases hd1
  have hone:∀U,UpC U→Nonempty (Zs w0 U)→∃v,YieldsIn P ops (CU w0 U) o v a∧wpQuiet P ops (CU w0 U) (fun a'=>a'=A) (ZW l hs) (a.put o.dst v)∧some v=A.tmps[d]? :=fun U hU hn=>by
   have hq:qOp P ops (CU w0 U) k (wpQuiet P ops (CU w0 U) (fun a'=>a'=A) (ZW l hs)) a:=by
    unfold qOp
    simp only[h0]
    exact h U hU hn
   obtain⟨v,hy,hK⟩:=yieldsIn_of_qOp h0 hq
   refine⟨v,hy,hK,?_⟩
   rw[Yj _ _ hK d hds2,hod]
   simp[Act.put,hds1]
  obtain⟨v,_,_,hv⟩:=hone (fun _=>True) (fun _ _ _ _=>trivial) ⟨⟨w0,Kept.refl _ _,trivial⟩⟩
  have hall:∀U,UpC U→Nonempty (Zs w0 U)→YieldsIn P ops (CU w0 U) o v a∧wpQuiet P ops (CU w0 U) (fun a'=>a'=A) (ZW l hs) (a.put o.dst v):=fun U hU hn=>by
   obtain⟨u,h1,h2,h3⟩:=hone U hU hn
   have:u=v:=by
    rw[←hv]at h3
    exact Option.some.inj h3
   subst this
   exact⟨h1,h2⟩
  rw[show(k::hs).length+(m+1)=(hs.length+(m+1))+1 by simp;omega]
  refine Ziw.first h0 (hin k (by simp)) (Region.noSelect_spec hsel) (fun c a w=>by rw[hod];exact hQ d v c a w) _ done a (Region.free_spec h0 hf) (by simpa using hr) (fun U hU ⟨w,hw⟩=>(hall U hU (by obtain⟨z,_⟩:=hw;exact⟨z⟩)).1) ?_
  refine Ziw.heads hl hsel hQ s m hsd A hA hs _ _ (fun i h=>hi i (List.mem_cons_of_mem _ h)) (fun i h=>hin i (List.mem_cons_of_mem _ h)) hB' ?_ (fun U hU hn=>(hall U hU hn).2)
  rw[hod]
  simpa [Act.put]using hd2
def Zrg (Q:Exit→Act→World→Prop):Exit→Act→World→Prop
 | .normal=>fun _ _=>False
 | e=>Q e
def Zsi (l:List Oper) (hs:List Nat) (s size:Nat):Bool:=Region.noSelect l.toArray && decide (hs.length < l.length) && decide (s < l.length) && hs.all (fun i=>decide (i < l.length)) && !hs.contains s &&
 Zr9 .any l.toArray s hs (Array.replicate l.length false) && ZbA size (ZW l hs)
theorem J4 {id:Nat} {a:Act} {w:World} {l:List Oper} (hs:List Nat) (s:Nat) (hm:P.follows .mixedOrders=true) (hB:Zsi l hs s a.tmps.size=true)
 (hQ:∀(d:Tmp) v c a w,Q (.panic c) (a.put (some d) v) w→Q (.panic c) a w)
 (h:∃A,(∀U,UpC U→Nonempty (Zs w U)→wpQuiet P l.toArray (fun w'=>∃z:Zs w U,w'=z.1) (fun a'=>a'=A) (ZW l hs) a)∧∀w',Kept [] w w'→wpList P l.toArray (Zrg Q) (ZW l [s]) A w'):
 (Code.region id l.toArray true).wp P Q a w:=by
 obtain⟨A,h1,h2⟩:=h
 simp only[Zsi,Bool.and_eq_true,decide_eq_true_eq,List.all_eq_true]at hB
 obtain⟨⟨⟨⟨⟨⟨hs1,hlen⟩,hsl⟩,hh⟩,hdt⟩,hx⟩,hd⟩:=hB
 have hsz:l.toArray.size=l.length:=by simp
 refine wp_region_any hm ?_
 have h3:∀w',Kept [] w w'→wpOp P l.toArray Q s (fun _ _=>False) A w':=fun w' hk=>by
  have h4:=h2 w' hk
  have hp:ZW l [s]= [l[s]]:=by simp[ZW,hsl]
  rw[hp]at h4
  unfold wpOp
  have h0:l.toArray[s]? =some l[s]:=by simp[hsl]
  simp only[h0]
  simp only[wpList]at h4
  split
  ·rename_i hw
   rw[if_pos hw]at h4
   rcases h4 with h4 | ⟨h4,h5⟩
   ·left
    unfold Oper.wp at*
    generalize (execOp A.eval l[s]).run P w'=r at*
    cases r with
    | ok n w'=>
     cases n <;> simp only[Oper.upon]at h4⊢
     case value u=>exact h4
     case skip=>exact h4
     case defer d=>exact h4
     case enter f args=>
      refine Calls.mono h4 fun e w'' he=>?_
      cases e with
      | returned u=>exact he
      | panicked c=>exact he
      | outgrown=>exact he
     case row row args=>exact Rows.mono h4 fun u w'' he=>he
    | halt x w'=>
     cases x <;> simp only[Oper.upon]at h4⊢
     case panic u=>exact h4
   ·exact .inr ⟨h4,h5⟩
  ·rename_i hw
   rw[if_neg hw]at h4
   exact h4
 have key:=Ziw.heads (P:=P) (md:= .any) (ops:=l.toArray) (Q:=Q) (w0:=w) (hd:=hs) rfl hs1 hQ s (l.length - hs.length - 1) (by simpa using hdt) A h3 hs (Array.replicate l.length false) a hh (fun _ h=>h) hx hd h1
 have:=Ziw.any (P:=P) (md:= .any) (ops:=l.toArray) (Q:=Q) (w0:=w) (hd:=hs) _ _ a {w with drawn:=w.drawn+1} (CU.mk ⟨rfl,rfl,rfl,Nat.le_refl _,fun _ _ _=>rfl⟩ trivial) key
 rw[show hs.length+(l.length - hs.length - 1+1)=l.length by omega]at this
 rw[hsz]
 exact this
end
end
end Go.Proofs.YtfaecpkocgcofaaGreatDoor
