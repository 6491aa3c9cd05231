/- Lemmas for ResolveSettles, printed small: K9. -/
import Derived.Test.YtfaecpkocgcofaaGreatDoorZ2
import Derived.StillTail
set_option linter.all false
set_option maxRecDepth 100000
set_option maxHeartbeats 8000000
open Go.Proofs.Tryz
namespace Go.Proofs.YtfaecpkocgcofaaGreatDoor
section
open Go.RowKit
def UpC (U:World→Prop):Prop:=∀a b,U a→Kept [] a b→U b
def Zs (w:World) (U:World→Prop):Type:={W:World // Kept [] w W∧U W}
def CU (w:World) (U:World→Prop) (w':World):Prop:=∃z:Zs w U,w'=z.1
theorem CU.mk {w w':World} {U:World→Prop} (h:Kept [] w w') (hu:U w'):CU w U w':=⟨⟨w',h,hu⟩,rfl⟩
theorem CU.kept {w w':World} {U:World→Prop} (h:CU w U w'):Kept [] w w':=by obtain⟨z,rfl⟩:=h;exact z.2.1
theorem CU.here {w w':World} {U:World→Prop} (h:CU w U w'):U w':=by obtain⟨z,rfl⟩:=h;exact z.2.2
abbrev ZaV:=List (Nat×Obj)
def ZmE (L:ZaV) (w:World):Prop:=∀x,x∈L→w.heap[x.1]? =some x.2
theorem Zsk (L:ZaV):UpC (ZmE L):=fun _ _ h k x hx=>k.obj (h x hx) (by simp)
section
variable {P:Program} {md:Region.Mode} {ops:Array Oper} {Q:Exit→Act→World→Prop} {w0:World} {n m:Nat}
def ZbG (P:Program) (ops:Array Oper) (w0:World) (o:Oper) (v:Value) (a:Act):Prop:=∀U,UpC U→(∃w,CU w0 U w)→YieldsIn P ops (CU w0 U) o v a
def Alc (P:Program) (o:Oper) (ob:Obj):Prop:=o.guard=none∧∀(a:Act) (w:World),(execOp a.eval o).run P w= .ok (.value (.pointer (some ⟨w.heap.size,0,none⟩))) (w.alloc ob)
def Zbu (o:Oper):Bool:=match o.op with | .move _=>true | .extract _ _=>true | _=>false
theorem ZbG.yields {o:Oper} {v:Value} {a:Act} (h:ZbG P ops w0 o v a) (hf:Zbu o=true):Yields P ops o v a:=by
 rcases h (fun _=>True) (fun _ _ _ _=>trivial) ⟨w0,CU.mk (Kept.refl _ _) trivial⟩with⟨hw,hv⟩ | h'
 ·refine .inl ⟨hw,fun w=>?_⟩
  have h1:=hv w0 (CU.mk (Kept.refl _ _) trivial)
  unfold Oper.quietAt at h1
  unfold Zbu at hf
  split at hf
  ·rename_i x hx
   simp only[execOp,hx,Sem.run_pure,Oper.quietUpon]at h1
   simp only[execOp,hx,Sem.run_pure]
   rw[h1.2]
  ·rename_i x j hx
   have e:execOp a.eval o=(do return .value (←Instr.extract (a.eval x) j)):=by unfold execOp;rw[hx]
   rw[e]at h1⊢
   simp only[Sem.run_bind]at h1⊢
   unfold Instr.extract at*
   cases hx2:a.eval x <;> simp only[hx2]at h1⊢
   case tuple vs=>
    cases hq:vs[j]? with
    | none=>simp[hq,stuck,Oper.quietUpon]at h1
    | some u=>
     simp[hq,Oper.quietUpon]at h1⊢
     exact h1
   all_goals simp[stuck,Oper.quietUpon]at h1
  ·cases hf
 ·exact .inr h'
def J3 (P:Program) (md:Region.Mode) (ops:Array Oper) (Q:Exit→Act→World→Prop) (w0:World) (n m:Nat) (al:Nat→Obj):Nat→Array Bool→Act→ZaV→Prop
 | 0,done,a,L=>Region.ready md ops done= []∧∀w,CU w0 (ZmE L) w→Q .normal a w
 | k+1,done,a,L=>(Region.ready md ops done= []→∀w,CU w0 (ZmE L) w→Q .normal a w)∧
  ∀i,i∈Region.ready md ops done→∀o,ops[i]? =some o→
   (i < n→∃v,ZbG P ops w0 o v a∧J3 P md ops Q w0 n m al k (done.setIfInBounds i true) (a.put o.dst v) L)∧
   (n≤i→i < n+m→∀B,w0.heap.size≤B→(∀x,x∈L→x.1≠B)→J3 P md ops Q w0 n m al k (done.setIfInBounds i true) (a.put o.dst (.pointer (some ⟨B,0,none⟩))) ((B,al i)::L))∧
   (n+m≤i→∀w,CU w0 (ZmE L) w→wpOp P ops Q i (wpAny P md ops Q k (done.setIfInBounds i true)) a w)
variable {al:Nat→Obj}
theorem J3.any (hal:∀i o,n≤i→i < n+m→ops[i]? =some o→Alc P o (al i)):∀(k:Nat) (done:Array Bool) (a:Act) (L:ZaV) (w:World),CU w0 (ZmE L) w→J3 P md ops Q w0 n m al k done a L→wpAny P md ops Q k done a w
 | 0,_,_,_,w,hw,h=>⟨h.1,h.2 w hw⟩
 | k+1,done,a,L,w,hw,h=>⟨fun h0=>h.1 h0 w hw,fun i hi=>by
  obtain⟨_,o,ho,_⟩:=mem_ready.1 hi
  obtain⟨h1,h2,h3⟩:=h.2 i hi o ho
  by_cases c1:i < n
  ·obtain⟨v,hy,hk⟩:=h1 c1
   have hq:qOp P ops (CU w0 (ZmE L)) i (fun a'=>J3 P md ops Q w0 n m al k (done.setIfInBounds i true) a' L) a:=(hy _ (Zsk L) ⟨w,hw⟩).qOp ho hk
   exact wpOp_of_qOp hw (fun a' w' hw' hk'=>J3.any hal k _ a' L w' hw' hk') hq
  by_cases c2:i < n+m
  ·obtain⟨hg,hr⟩:=hal i o (by omega) c2 ho
   have hk:=h2 (by omega) c2 w.heap.size hw.kept.size (fun x hx e=>by
    have:=(Array.getElem?_eq_some_iff.1 (hw.here x hx)).1
    omega)
   unfold wpOp
   simp only[ho]
   have hwt:Region.wanted o (yielded ops a.tmps)=true:=by simp[Region.wanted,hg]
   rw[if_pos hwt]
   refine .inl ?_
   unfold Oper.wp
   rw[hr]
   refine J3.any hal k _ _ _ _ (CU.mk (hw.kept.alloc' _) ?_) hk
   intro x hx
   rcases List.mem_cons.1 hx with rfl | hx
   ·exact Zf rfl
   ·exact Zr (hw.here x hx) (Array.getElem?_eq_some_iff.1 (hw.here x hx)).1
  ·exact h3 (by omega) w hw⟩
theorem J3.perm:∀(k:Nat) (done:Array Bool) (a:Act) (L L':ZaV),(∀x,x∈L↔x∈L')→J3 P md ops Q w0 n m al k done a L→J3 P md ops Q w0 n m al k done a L'
 | 0,_,_,L,L',hL,h=>⟨h.1,fun w hw=>h.2 w (CU.mk hw.kept fun x hx=>hw.here x ((hL x).1 hx))⟩
 | k+1,done,a,L,L',hL,h=>⟨fun h0 w hw=>h.1 h0 w (CU.mk hw.kept fun x hx=>hw.here x ((hL x).1 hx)),fun i hi o ho=>by
  obtain⟨h1,h2,h3⟩:=h.2 i hi o ho
  refine⟨fun c=>?_,fun c1 c2 B hB hf=>?_,fun c w hw=>h3 c w (CU.mk hw.kept fun x hx=>hw.here x ((hL x).1 hx))⟩
  ·obtain⟨v,hy,hk⟩:=h1 c
   exact⟨v,hy,J3.perm k _ _ L L' hL hk⟩
  ·refine J3.perm k _ _ ((B,al i)::L) _ (fun x=>?_) (h2 c1 c2 B hB fun x hx=>hf x ((hL x).1 hx))
   rw[List.mem_cons,List.mem_cons,hL]⟩
theorem Qp {i j:Nat} {done:Array Bool} (hi:i∈Region.ready md ops done) (hj:j∈Region.ready md ops done) {o:Oper} (ho:ops[j]? =some o):∀e∈o.after,Region.binds md e=true→e.on≠i:=by
 intro e he hb hei
 obtain⟨_,o',ho',hall⟩:=mem_ready.1 hj
 rw[ho]at ho'
 cases ho'
 have h1:=hall e he hb
 have h0:=(mem_ready.1 hi).1
 rw[hei]at h1
 rw[getD_both h0]at h1
 cases h1
theorem ZkB {i j:Nat} {done:Array Bool} (hi:i∈Region.ready md ops done) (hj:j∈Region.ready md ops done) (hw:Region.waitsFor md ops j i=true):False:=by
 obtain⟨o,ho,e,he,hb,hei⟩:=Region.waitsFor_spec hw
 exact Qp hi hj ho e he hb hei
theorem ZbG.of_same {o:Oper} {v:Value} {a a':Act} (h:ZbG P ops w0 o v a) (he:execOp a'.eval o=execOp a.eval o)
 (hw:Region.wanted o (yielded ops a'.tmps)=Region.wanted o (yielded ops a.tmps)):ZbG P ops w0 o v a':=fun U hU hn=>(h U hU hn).of_same he hw
structure Qa (md:Region.Mode) (ops:Array Oper) (done:Array Bool):Prop where
 size:done.size=ops.size
 shut:∀j oj,ops[j]? =some oj→done.getD j false=true→∀e∈oj.after,Region.binds md e=true→done.getD e.on false=true
theorem Qa.set {done:Array Bool} {i:Nat} (h:Qa md ops done) (hi:i∈Region.ready md ops done):Qa md ops (done.setIfInBounds i true):=by
 obtain⟨_,oi,hoi,hall⟩:=mem_ready.1 hi
 refine⟨by simp[h.size],fun j oj hj hl e he hb=>?_⟩
 by_cases hij:i=j
 ·subst hij
  have:oj=oi:=Option.some.inj (hj.symm.trans hoi)
  subst this
  exact getD_set_true (hall e he hb)
 ·rw[getD_set_ne false hij]at hl
  exact getD_set_true (h.shut j oj hj hl e he hb)
theorem Qa.none:Qa md ops (Array.replicate ops.size false):=⟨by simp,fun j oj _ hl=>by rw[getD_replicate_false]at hl;cases hl⟩
def Za0 (md:Region.Mode) (ops:Array Oper) (s i:Nat):Bool:=(List.range ops.size).all fun t=>decide (t < s) || Region.waitsFor md ops t i
theorem Zbh {s i:Nat} (h:Za0 md ops s i=true):∀t,s≤t→t < ops.size→Region.waitsFor md ops t i=true:=fun t h1 h2=>by
 have:=List.all_eq_true.1 h t (List.mem_range.2 h2)
 simp only[Bool.or_eq_true,decide_eq_true_eq]at this
 rcases this with h | h
 ·omega
 ·exact h
def ZmJ (md:Region.Mode) (ops:Array Oper) (s:Nat):Nat→Nat→Bool
 | 0,i=>Za0 md ops s i
 | f+1,i=>Za0 md ops s i || (List.range s).any fun k=>decide (i < k) && Region.waitsFor md ops k i && ZmJ md ops s f k
theorem Zc4 {s:Nat} {done:Array Bool} (hc:Qa md ops done):∀(f i:Nat),ZmJ md ops s f i=true→done.getD i true=false→∀t,s≤t→t∉Region.ready md ops done:=by
 have direct:∀i,Za0 md ops s i=true→done.getD i true=false→∀t,s≤t→t∉Region.ready md ops done:=fun i hw hun t ht hr=>by
  obtain⟨_,ot,hot,hall⟩:=mem_ready.1 hr
  obtain⟨o',ho',e,he,hb,hon⟩:=Region.waitsFor_spec (Zbh hw t ht (Array.getElem?_eq_some_iff.1 hot).1)
  have:o'=ot:=Option.some.inj (ho'.symm.trans hot)
  subst this
  have h2:=hall e he hb
  rw[hon,getD_both hun]at h2
  cases h2
 intro f
 induction f with
 | zero=>exact direct
 | succ f ih=>
  intro i h hun t ht
  simp only[ZmJ,Bool.or_eq_true]at h
  rcases h with h | h
  ·exact direct i h hun t ht
  ·obtain⟨k,_,hk⟩:=List.any_eq_true.1 h
   simp only[Bool.and_eq_true,decide_eq_true_eq]at hk
   obtain⟨ok,hok,e,he,hb,hon⟩:=Region.waitsFor_spec hk.1.2
   refine ih k hk.2 ?_ t ht
   have hks:k < done.size:=by rw[hc.size];exact(Array.getElem?_eq_some_iff.1 hok).1
   refine getD_in hks ?_
   cases hl:done.getD k false with
   | false=>rfl
   | true=>
    have h2:=hc.shut k ok hok hl e he hb
    rw[hon,getD_both hun]at h2
    cases h2
theorem J3.first {i:Nat} {oi:Oper} {v:Value} (hi:ops[i]? =some oi) (hin:i < n) (hsel:∀(j:Nat) (o:Oper) cs b,ops[j]? =some o→o.op≠ .select cs b)
 (hQ:∀c a w,Q (.panic c) (a.put oi.dst v) w→Q (.panic c) a w)
 (hfl:Zbu oi=true∨∀done,Qa md ops done→done.getD i true=false→∀t,n+m≤t→t∉Region.ready md ops done):
 ∀(k:Nat) (done:Array Bool) (a:Act) (L:ZaV),Qa md ops done→
  (∀j oj,ops[j]? =some oj→j≠i→done.getD j true=false→(∀e∈oj.after,Region.binds md e=true→e.on≠i)→oi.apart ops oj=true)→
  i∈Region.ready md ops done→ZbG P ops w0 oi v a→
  J3 P md ops Q w0 n m al k (done.setIfInBounds i true) (a.put oi.dst v) L→J3 P md ops Q w0 n m al (k+1) done a L:=by
 intro k
 induction k with
 | zero=>
  intro done a L _ _ hr hy H
  refine⟨fun h=>by simp[h]at hr,fun j hj oj hoj=>?_⟩
  by_cases e:j=i
  ·subst e
   rw[hi]at hoj
   cases hoj
   exact⟨fun _=>⟨v,hy,H⟩,fun c=>by omega,fun c=>by omega⟩
  ·have:=ready_mono hj e
   simp[H.1]at this
 | succ k ih=>
  intro done a L hcl hfree hr hy H
  refine⟨fun h=>by simp[h]at hr,fun j hj oj hoj=>?_⟩
  by_cases e:j=i
  ·subst e
   rw[hi]at hoj
   cases hoj
   exact⟨fun _=>⟨v,hy,H⟩,fun c=>by omega,fun c=>by omega⟩
  have hun:=(mem_ready.1 hj).1
  have hap:=hfree j oj hoj e hun (Qp hr hj hoj)
  obtain⟨p1,p2,p3⟩:=Oper.apart_spec hap
  have hsi:=fun cs b=>hsel i oi cs b hi
  have hsj:=fun cs b=>hsel j oj cs b hoj
  have keep:∀u,ZbG P ops w0 oi v (a.put oj.dst u):=fun u=>hy.of_same (execOp_put oi hsi a oj.dst u p3) (wanted_put oi a oj.dst u p3)
  have hfree':∀q oq,ops[q]? =some oq→q≠i→(done.setIfInBounds j true).getD q true=false→(∀e∈oq.after,Region.binds md e=true→e.on≠i)→oi.apart ops oq=true:=fun q oq hq hqi hqu hno=>by
   refine hfree q oq hq hqi ?_ hno
   by_cases hjq:j=q
   ·subst hjq;exact hun
   ·rwa [getD_set_ne true hjq]at hqu
  have hr':=ready_mono hr (fun x=>e x.symm)
  obtain⟨h1,h2,h3⟩:=H.2 j (ready_mono hj e) oj hoj
  refine⟨fun c=>?_,fun c1 c2 B hB hf=>?_,fun c w hw=>?_⟩
  ·obtain⟨u,hu,hk⟩:=h1 c
   refine⟨u,hu.of_same (execOp_put oj hsj a oi.dst v p1).symm (wanted_put oj a oi.dst v p1).symm,ih _ _ L (hcl.set hj) hfree' hr' (keep u) ?_⟩
   rw[Array.setIfInBounds_comm _ _ e,←Act.put_comm a v u p2]
   exact hk
  ·refine ih _ _ _ (hcl.set hj) hfree' hr' (keep _) ?_
   rw[Array.setIfInBounds_comm _ _ e,←Act.put_comm a v _ p2]
   exact h2 c1 c2 B hB hf
  ·rcases hfl with hfl | hfl
   ·have hyy:=hy.yields hfl
    have h4:=wpOp_put hoj hap hsi hsj hQ hyy (h3 c w hw)
    refine wpOp_mono (fun a' w' h5=>?_) h4
    refine wpAny_first hi hsel hQ k _ a' w' hfree' hr' h5.1 ?_
    rw[Array.setIfInBounds_comm _ _ e]
    exact h5.2
   ·exact(hfl done hcl (mem_ready.1 hr).1 j c hj).elim
theorem ZnP (w:World) (L:ZaV):∃B,w.heap.size≤B∧∀x,x∈L→x.1≠B:=by
 suffices h:∀L:ZaV,∃M,w.heap.size≤M∧∀x,x∈L→x.1 < M by
  obtain⟨M,h1,h2⟩:=h L
  exact⟨M,h1,fun x hx e=>by have:=h2 x hx;omega⟩
 intro L
 induction L with
 | nil=>exact⟨_,Nat.le_refl _,by simp⟩
 | cons y L ih=>
  obtain⟨M,h1,h2⟩:=ih
  refine⟨M+y.1+1,by omega,fun x hx=>?_⟩
  rcases List.mem_cons.1 hx with rfl | hx
  ·omega
  ·have:=h2 x hx;omega
theorem J3.alloc {i:Nat} {oi:Oper} (hi:ops[i]? =some oi) (hin:n≤i) (him:i < n+m)
 (htl:∀t,n+m≤t→t < ops.size→Region.waitsFor md ops t i=true):
 ∀(k:Nat) (done:Array Bool) (a:Act) (L:ZaV),(∀j,j < n→j < ops.size→done.getD j true=true)→
  (∀j oj,ops[j]? =some oj→j≠i→done.getD j true=false→(∀e∈oj.after,Region.binds md e=true→e.on≠i)→oi.apart ops oj=true)→
  i∈Region.ready md ops done→
  (∀B,w0.heap.size≤B→(∀x,x∈L→x.1≠B)→J3 P md ops Q w0 n m al k (done.setIfInBounds i true) (a.put oi.dst (.pointer (some ⟨B,0,none⟩))) ((B,al i)::L))→
  J3 P md ops Q w0 n m al (k+1) done a L:=by
 intro k
 induction k with
 | zero=>
  intro done a L _ _ hr H
  refine⟨fun h=>by simp[h]at hr,fun j hj oj hoj=>?_⟩
  by_cases e:j=i
  ·subst e
   rw[hi]at hoj
   cases hoj
   exact⟨fun c=>by omega,fun _ _=>H,fun c=>by omega⟩
  ·obtain⟨B,hB,hf⟩:=ZnP w0 L
   have:=ready_mono hj e
   simp[(H B hB hf).1]at this
 | succ k ih=>
  intro done a L hd hfree hr H
  refine⟨fun h=>by simp[h]at hr,fun j hj oj hoj=>?_⟩
  by_cases e:j=i
  ·subst e
   rw[hi]at hoj
   cases hoj
   exact⟨fun c=>by omega,fun _ _=>H,fun c=>by omega⟩
  have hun:=(mem_ready.1 hj).1
  have hap:=hfree j oj hoj e hun (Qp hr hj hoj)
  obtain⟨p1,p2,p3⟩:=Oper.apart_spec hap
  have hfree':∀q oq,ops[q]? =some oq→q≠i→(done.setIfInBounds j true).getD q true=false→(∀e∈oq.after,Region.binds md e=true→e.on≠i)→oi.apart ops oq=true:=fun q oq hq hqi hqu hno=>by
   refine hfree q oq hq hqi ?_ hno
   by_cases hjq:j=q
   ·subst hjq;exact hun
   ·rwa [getD_set_ne true hjq]at hqu
  have hr':=ready_mono hr (fun x=>e x.symm)
  refine⟨fun c=>?_,fun c1 c2 B' hB' hf'=>?_,fun c w hw=>(ZkB hr hj (htl j c (Array.getElem?_eq_some_iff.1 hoj).1)).elim⟩
  ·have:=hd j c (Array.getElem?_eq_some_iff.1 hoj).1
   rw[hun]at this
   cases this
  ·refine ih _ _ _ (fun q hq hqs=>?_) hfree' hr' fun B hB hf=>?_
   ·by_cases hjq:j=q
    ·omega
    ·rw[getD_set_ne true hjq];exact hd q hq hqs
   have hne:B≠B':=fun h=>hf (B',al j) (by simp) h.symm
   have h1:=H B hB (fun x hx=>hf x (List.mem_cons_of_mem _ hx))
   have h2:=(h1.2 j (ready_mono hj e) oj hoj).2.1 c1 c2 B' hB' (fun x hx=>by
    rcases List.mem_cons.1 hx with rfl | hx
    ·exact hne
    ·exact hf' x hx)
   rw[Array.setIfInBounds_comm _ _ e,←Act.put_comm a _ _ p2]
   refine J3.perm k _ _ _ _ (fun x=>?_) h2
   simp only[List.mem_cons]
   constructor
   ·rintro(h | h | h) <;> simp[h]
   ·rintro(h | h | h) <;> simp[h]
theorem Yj {C:World→Prop} {A:Act}:∀(l:List Oper) (a:Act),wpQuiet P ops C (fun a'=>a'=A) l a→∀d,(∀o,o∈l→o.dst≠some d)→A.tmps[d]? =a.tmps[d]?
 | [],a,h,d,_=>by have h:a=A:=h;rw[h]
 | o::l,a,h,d,hd=>by
  have hp:∀u,(a.put o.dst u).tmps[d]? =a.tmps[d]? :=fun u=>by
   cases ho:o.dst with
   | none=>rfl
   | some e=>
    have:e≠d:=fun x=>hd o (by simp) (by rw[ho,x])
    simp[Act.put,Array.getElem?_setIfInBounds_ne this]
  simp only[wpQuiet]at h
  split at h
  ·obtain⟨v,_,h⟩:=h
   rw[Yj l _ h d (fun o ho=>hd o (List.mem_cons_of_mem _ ho)),hp]
  ·rw[Yj l _ h d (fun o ho=>hd o (List.mem_cons_of_mem _ ho)),hp]
def ZbA (size:Nat):List Oper→Bool
 | []=>true
 | o::l=>(match o.dst with | some d=>decide (d < size) && l.all (fun o'=>o'.dst != some d) | none=>false) && ZbA size l
def Zqr (md:Region.Mode) (ops:Array Oper) (n m:Nat):Nat→Nat→Array Bool→Bool
 | 0,k,done=>Region.seqB md ops (ops.size - (n+m)) k done
 | f+1,k,done=>(Region.ready md ops done).contains k && Region.free md ops done k && (decide (k < n) && (((ops[k]?).map Zbu).getD false || ZmJ md ops (n+m) n k) || Za0 md ops (n+m) k) && Zqr md ops n m f (k+1) (done.setIfInBounds k true)
def Zix (P:Program) (ops:Array Oper) (Q:Exit→Act→World→Prop) (w0:World) (al:Nat→Obj) (tl:List Oper):List Oper→Nat→Act→ZaV→Prop
 | [],_,a,L=>∀w',Kept [] w0 w'→ZmE L w'→wpList P ops Q tl a w'
 | o::r,i,a,L=>∀B,w0.heap.size≤B→(∀x,x∈L→x.1≠B)→Zix P ops Q w0 al tl r (i+1) (a.put o.dst (.pointer (some ⟨B,0,none⟩))) ((B,al i)::L)
theorem J3.tail (tl:List Oper) (htl:∀j,tl[j]? =ops[n+m+j]?) (done:Array Bool) (a:Act) (L:ZaV) (hB:Region.seqB md ops tl.length (n+m) done=true)
 (h:∀w',Kept [] w0 w'→ZmE L w'→wpList P ops Q tl a w'):J3 P md ops Q w0 n m al tl.length done a L:=by
 have h1:∀w',CU w0 (ZmE L) w'→wpAny P md ops Q tl.length done a w':=fun w' hw=>wpAny_of_seq tl (n+m) done a w' htl hB (h w' hw.kept hw.here)
 have hge:=seqB_ready hB
 cases hk:tl.length with
 | zero=>rw[hk]at h1 hB;exact⟨by simpa [Region.seqB]using hB,fun w hw=>(h1 w hw).2⟩
 | succ k=>
  rw[hk]at h1
  refine⟨fun h0 w hw=>(h1 w hw).1 h0,fun i hi o ho=>⟨fun c=>?_,fun _ c=>?_,fun _ w hw=>(h1 w hw).2 i hi⟩⟩
  ·have:=hge i hi;omega
  ·have:=hge i hi;omega
theorem J3.allocs (tl:List Oper) (htl:∀j,tl[j]? =ops[n+m+j]?):∀(l:List Oper) (k:Nat) (done:Array Bool) (a:Act) (L:ZaV),(∀j,j < l.length→l[j]? =ops[k+j]?)→n≤k→k+l.length=n+m→tl.length=ops.size - (n+m)→
 (∀j,j < n→j < ops.size→done.getD j true=true)→
 Zqr md ops n m l.length k done=true→Zix P ops Q w0 al tl l k a L→J3 P md ops Q w0 n m al (l.length+tl.length) done a L
 | [],k,done,a,L,_,hk,hl,hsz,_,hB,h=>by
  have:k=n+m:=by simpa using hl
  subst this
  rw[List.length_nil,Nat.zero_add]
  simp only[List.length_nil,Zqr,←hsz]at hB
  exact J3.tail tl htl done a L hB h
 | o::l,k,done,a,L,hj,hk,hl,hsz,hd,hB,h=>by
  have h0:ops[k]? =some o:=by simpa using(hj 0 (by simp)).symm
  simp only[List.length_cons,Zqr,Bool.and_eq_true,Bool.or_eq_true,decide_eq_true_eq]at hB
  obtain⟨⟨⟨hr,hf⟩,hw⟩,hB'⟩:=hB
  have hw':Za0 md ops (n+m) k=true:=by
   rcases hw with h | h
   ·omega
   ·exact h
  simp only[List.length_cons]at hl
  rw[List.length_cons,show l.length+1+tl.length=(l.length+tl.length)+1 by omega]
  refine J3.alloc h0 hk (by omega) (Zbh hw') _ done a L hd (Region.free_spec h0 hf) (by simpa using hr) fun B hB hfr=>?_
  refine J3.allocs tl htl l (k+1) _ _ _ (fun j hjl=>by have:=hj (j+1) (by simpa using hjl);simpa [Nat.add_assoc,Nat.add_comm 1 j]using this) (by omega) (by omega) hsz (fun j hjn hjs=>?_) hB' (h B hB hfr)
  rw[getD_set_ne true (by omega)]
  exact hd j hjn hjs
theorem J3.heads (hsel:Region.noSelect ops=true) (hQ:∀(d:Tmp) v c a w,Q (.panic c) (a.put (some d) v) w→Q (.panic c) a w) (tl als:List Oper) (htl:∀j,tl[j]? =ops[n+m+j]?) (hals:∀j,j < als.length→als[j]? =ops[n+j]?) (hm:als.length=m) (hsz:tl.length=ops.size - (n+m)) (A:Act) (hA:Zix P ops Q w0 al tl als n A []):
 ∀(l:List Oper) (k:Nat) (done:Array Bool) (a:Act),(∀j,j < l.length→l[j]? =ops[k+j]?)→k+l.length=n→(∀j,j < k→j < ops.size→done.getD j true=true)→
  Zqr md ops n m (l.length+m) k done=true→ZbA a.tmps.size l=true→Qa md ops done→
  (∀U,UpC U→Nonempty (Zs w0 U)→wpQuiet P ops (CU w0 U) (fun a'=>a'=A) l a)→J3 P md ops Q w0 n m al (l.length+(m+tl.length)) done a []
 | [],k,done,a,_,hk,hd,hB,_,_,h=>by
  have:k=n:=by simpa using hk
  subst this
  obtain rfl:a=A:=h (fun _=>True) (fun _ _ _ _=>trivial) ⟨⟨w0,Kept.refl _ _,trivial⟩⟩
  rw[List.length_nil,Nat.zero_add,←hm]
  have e:m=als.length:=hm.symm
  subst e
  exact J3.allocs tl htl als k done a [] hals (Nat.le_refl _) rfl hsz hd (by simpa using hB) hA
 | o::l,k,done,a,hj,hk,hd,hB,hdst,hds,h=>by
  have h0:ops[k]? =some o:=by simpa using(hj 0 (by simp)).symm
  rw[show(o::l).length+m=(l.length+m)+1 by simp;omega]at hB
  simp only[Zqr,Bool.and_eq_true,Bool.or_eq_true,decide_eq_true_eq]at hB
  obtain⟨⟨⟨hr,hf⟩,hw⟩,hB'⟩:=hB
  simp only[List.length_cons]at hk
  simp only[ZbA,Bool.and_eq_true]at hdst
  obtain⟨hd1,hd2⟩:=hdst
  obtain⟨d,hod,hds1,hds2⟩:∃d,o.dst=some d∧d < a.tmps.size∧∀o',o'∈l→o'.dst≠some d:=by
   split at hd1
   ·rename_i d hod
    simp only[Bool.and_eq_true,decide_eq_true_eq,List.all_eq_true,bne_iff_ne]at hd1
    exact⟨d,hod,hd1.1,hd1.2⟩
   ·cases hd1
  have hone:∀U,UpC U→Nonempty (Zs w0 U)→∃v,YieldsIn P ops (CU w0 U) o v a∧wpQuiet P ops (CU w0 U) (fun a'=>a'=A) l (a.put o.dst v)∧some v=A.tmps[d]? :=fun U hU hn=>by
   have hq:qOp P ops (CU w0 U) k (wpQuiet P ops (CU w0 U) (fun a'=>a'=A) l) a:=by
    unfold qOp
    simp only[h0]
    exact h U hU hn
   obtain⟨v,hy,hK⟩:=yieldsIn_of_qOp h0 hq
   refine⟨v,hy,hK,?_⟩
   rw[Yj l _ hK d hds2,hod]
   simp[Act.put,hds1]
  obtain⟨v,_,_,hv⟩:=hone (fun _=>True) (fun _ _ _ _=>trivial) ⟨⟨w0,Kept.refl _ _,trivial⟩⟩
  have hall:∀U,UpC U→Nonempty (Zs w0 U)→YieldsIn P ops (CU w0 U) o v a∧wpQuiet P ops (CU w0 U) (fun a'=>a'=A) l (a.put o.dst v):=fun U hU hn=>by
   obtain⟨u,h1,h2,h3⟩:=hone U hU hn
   have:u=v:=by
    rw[←hv]at h3
    exact Option.some.inj h3
   subst this
   exact⟨h1,h2⟩
  rw[show(o::l).length+(m+tl.length)=(l.length+(m+tl.length))+1 by simp;omega]
  refine J3.first h0 (by omega) (Region.noSelect_spec hsel) (fun c a w=>by rw[hod];exact hQ d v c a w) ?_ _ done a [] hds (Region.free_spec h0 hf) (by simpa using hr) (fun U hU ⟨w,hw⟩=>(hall U hU (by obtain⟨z,_⟩:=hw;exact⟨z⟩)).1) ?_
  ·rcases hw with hw | hw
   ·rcases hw.2 with hw | hw
    ·left
     rw[h0]at hw
     simpa using hw
    ·exact .inr fun d hd hu=>Zc4 hd n k hw hu
   ·exact .inr fun d hd hu=>Zc4 (s:=n+m) hd 0 k hw hu
  ·refine J3.heads hsel hQ tl als htl hals hm hsz A hA l (k+1) _ _ (fun j hjl=>by have:=hj (j+1) (by simpa using hjl);simpa [Nat.add_assoc,Nat.add_comm 1 j]using this) (by omega) (fun j hjk hjs=>?_) hB' ?_ (hds.set (by simpa using hr)) (fun U hU hn=>(hall U hU hn).2)
   ·by_cases hjk':j=k
    ·subst hjk'
     have hlt:j < done.size:=by rw[hds.size];exact hjs
     simp[hlt]
    ·rw[getD_set_ne true (by omega)]
     exact hd j (by omega) hjs
   ·rw[hod]
    simpa [Act.put]using hd2
def headB (l:List Oper) (n m size:Nat):Bool:=Region.noSelect l.toArray && decide (n+m≤l.length) && Zqr .any l.toArray n m (n+m) 0 (Array.replicate l.length false) && ZbA size (l.take n)
theorem Ze {id:Nat} {a:Act} {w:World} {l:List Oper} (n m:Nat) (al:Nat→Obj) (hm:P.follows .mixedOrders=true) (hB:headB l n m a.tmps.size=true)
 (hal:∀i o,n≤i→i < n+m→l[i]? =some o→Alc P o (al i)) (hQ:∀(d:Tmp) v c a w,Q (.panic c) (a.put (some d) v) w→Q (.panic c) a w)
 (h:∃A,(∀U,UpC U→Nonempty (Zs w U)→wpQuiet P l.toArray (fun w'=>∃z:Zs w U,w'=z.1) (fun a'=>a'=A) (l.take n) a)∧Zix P l.toArray Q w al (l.drop (n+m)) ((l.drop n).take m) n A []):
 (Code.region id l.toArray true).wp P Q a w:=by
 obtain⟨A,h1,h2⟩:=h
 simp only[headB,Bool.and_eq_true,decide_eq_true_eq]at hB
 obtain⟨⟨⟨hs,hlen⟩,hx⟩,hd⟩:=hB
 have hsz:l.toArray.size=l.length:=by simp
 refine wp_region_any hm ?_
 have key:=J3.heads (P:=P) (md:= .any) (ops:=l.toArray) (Q:=Q) (w0:=w) (n:=n) (m:=m) (al:=al) hs hQ (l.drop (n+m)) ((l.drop n).take m) (fun j=>by simp) (fun j hj=>by
  rw[List.length_take,List.length_drop]at hj
  rw[List.getElem?_take,if_pos (by omega)]
  simp) (by simp;omega) (by simp) A h2 (l.take n) 0 (Array.replicate l.length false) a (fun j hj=>by
  rw[List.length_take]at hj
  rw[List.getElem?_take,if_pos (by omega)]
  simp) (by simp;omega) (fun j hj=>by omega) (by
  rw[List.length_take,Nat.min_eq_left (by omega)]
  exact hx) hd (by simpa using Qa.none (md:= .any) (ops:=l.toArray)) h1
 have:=J3.any (P:=P) (md:= .any) (ops:=l.toArray) (Q:=Q) (w0:=w) (n:=n) (m:=m) (al:=al) (fun i o c1 c2 ho=>hal i o c1 c2 (by simpa using ho)) _ _ a [] {w with drawn:=w.drawn+1} (CU.mk ⟨rfl,rfl,rfl,Nat.le_refl _,fun _ _ _=>rfl⟩ (fun x hx=>by simp at hx)) key
 have e:(l.take n).length+(m+(l.drop (n+m)).length)=l.toArray.size:=by simp;omega
 rw[e]at this
 rw[hsz]at this⊢
 exact this
end
end
end Go.Proofs.YtfaecpkocgcofaaGreatDoor
