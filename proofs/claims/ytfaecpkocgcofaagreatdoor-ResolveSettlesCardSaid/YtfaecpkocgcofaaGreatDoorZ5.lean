/- Lemmas for ResolveSettles, printed small: K15 K18. -/
import Derived.Test.YtfaecpkocgcofaaGreatDoorZ4
set_option linter.all false
set_option maxRecDepth 100000
set_option maxHeartbeats 8000000
open Go.Proofs.Tryz
namespace Go.Proofs.YtfaecpkocgcofaaGreatDoor
section
open Go.RowKit
section
variable {P:Program} {md:Region.Mode} {ops:Array Oper} {Q:Exit→Act→World→Prop} {w0:World} {hd:List Nat}
theorem ZbG.up {o:Oper} {v:Value} {a:Act} {w1:World} (h:ZbG P ops w0 o v a) (hk:Kept [] w0 w1):ZbG P ops w1 o v a:=fun U hU ⟨w,hw⟩=>by
 have e:CU w1 U=CU w0 (fun x=>Kept [] w1 x∧U x):=by
  funext x
  apply propext
  exact⟨fun h=>CU.mk (hk.trans h.kept) ⟨h.kept,h.here⟩,fun h=>CU.mk h.here.1 h.here.2⟩
 rw[e]
 exact h _ (fun a b hab hkab=>⟨hab.1.trans hkab,hU _ _ hab.2 hkab⟩) ⟨w,by rw[←e];exact hw⟩
theorem ZjD {j:Nat} {oi oj:Oper} {v:Value} (hj:ops[j]? =some oj) (hap:oi.apart ops oj=true)
 (hsi:∀cs b,oi.op≠ .select cs b) (hsj:∀cs b,oj.op≠ .select cs b)
 (hQ:∀c a w,Q (.panic c) (a.put oi.dst v) w→Q (.panic c) a w) {K:Act→World→Prop} {a:Act} {w:World}
 (hy:ZbG P ops w0 oi v a) (h:wpOp P ops Q j K (a.put oi.dst v) w):
 wpOp P ops Q j (fun a' w'=>ZbG P ops w0 oi v a'∧K (a'.put oi.dst v) w') a w:=by
 obtain⟨h1,h2,h3⟩:=Oper.apart_spec hap
 have keep:∀(a:Act),ZbG P ops w0 oi v a→∀u,ZbG P ops w0 oi v (a.put oj.dst u):=fun a hy u=>
  hy.of_same (execOp_put oi hsi a oj.dst u h3) (wanted_put oi a oj.dst u h3)
 have keepD:∀d,ZbG P ops w0 oi v {a with defers:=d::a.defers}:=fun d=>hy.of_same rfl rfl
 unfold wpOp at*
 simp only[hj]at*
 rw[wanted_put oj a oi.dst v h1]at h
 split
 ·rename_i hw
  simp only[hw,if_true]at h
  rcases h with h | ⟨hasks,hlets⟩
  case inr=>exact .inr ⟨by unfold Oper.asks at*;rw[execOp_put oj hsj a oi.dst v h1]at hasks;exact hasks,hlets⟩
  refine .inl ?_
  unfold Oper.wp at*
  rw[execOp_put oj hsj a oi.dst v h1]at h
  generalize (execOp a.eval oj).run P w=r at*
  cases r with
  | ok n w'=>
   cases n <;> simp only[Oper.upon]at h⊢
   case value u=>exact⟨keep a hy u,by rw[←Act.put_comm a v u h2];exact h⟩
   case skip=>exact⟨keep a hy _,by rw[←Act.put_comm a v undef h2];exact h⟩
   case defer d=>
    refine⟨keep _ (keepD d) _,?_⟩
    rw[←Act.put_comm _ v undef h2,←Act.put_defers]
    exact h
   case enter f args=>
    refine Calls.mono h fun e w'' he=>?_
    cases e with
    | returned u=>exact⟨keep a hy u,by rw[←Act.put_comm a v u h2];exact he⟩
    | panicked c=>exact hQ _ _ _ he
    | outgrown=>exact he
   case row row args=>exact Rows.mono h fun u w'' he=>⟨keep a hy u,by rw[←Act.put_comm a v u h2];exact he⟩
  | halt x w'=>
   cases x <;> simp only[Oper.upon]at h⊢
   case panic u=>exact hQ _ _ _ h
 ·rename_i hw
  simp only[hw]at h
  exact⟨keep a hy _,by rw[←Act.put_comm a v undef h2];exact h⟩
def ZjA (P:Program) (md:Region.Mode) (ops:Array Oper) (Q:Exit→Act→World→Prop) (w0:World) (hd:List Nat) (s:Nat):Nat→Array Bool→Act→Prop
 | 0,_,_=>False
 | k+1,done,a=>Region.ready md ops done≠ []∧
  ∀i,i∈Region.ready md ops done→∀o,ops[i]? =some o→
   (i∈hd→∃v,ZbG P ops w0 o v a∧ZjA P md ops Q w0 hd s k (done.setIfInBounds i true) (a.put o.dst v))∧
   (i∉hd→i=s∧∀w,CT w0 w→wpOp P ops Q i (fun a' w'=>Kept [] w0 w'∧Zgb P md ops Q w' (s::hd) k (done.setIfInBounds i true) a') a w)
theorem ZjA.any {s:Nat}:∀(k:Nat) (done:Array Bool) (a:Act) (w:World),CT w0 w→ZjA P md ops Q w0 hd s k done a→wpAny P md ops Q k done a w
 | 0,_,_,_,_,h=>h.elim
 | k+1,done,a,w,hw,h=>⟨fun h0=>absurd h0 h.1,fun i hi=>by
  obtain⟨_,o,ho,_⟩:=mem_ready.1 hi
  obtain⟨h1,h3⟩:=h.2 i hi o ho
  by_cases c1:i∈hd
  ·obtain⟨v,hy,hk⟩:=h1 c1
   have hq:qOp P ops (CT w0) i (fun a'=>ZjA P md ops Q w0 hd s k (done.setIfInBounds i true) a') a:=(hy _ (fun _ _ _ _=>trivial) ⟨w,hw⟩).qOp ho hk
   exact wpOp_of_qOp hw (fun a' w' hw' hk'=>ZjA.any k _ a' w' hw' hk') hq
  ·exact wpOp_mono (fun _ w' h=>Zgb.any k _ _ w' (CU.mk (Kept.refl _ _) trivial) h.2) ((h3 c1).2 w hw)⟩
theorem ZjA.first {s:Nat} {i:Nat} {oi:Oper} {v:Value} (hi:ops[i]? =some oi) (hin:i∈hd) (hsel:∀(j:Nat) (o:Oper) cs b,ops[j]? =some o→o.op≠ .select cs b)
 (hQ:∀c a w,Q (.panic c) (a.put oi.dst v) w→Q (.panic c) a w)
 (hfl:Zbu oi=true∨∀done,Qa md ops done→done.getD i true=false→∀t,t∉s::hd→t∉Region.ready md ops done):
 ∀(k:Nat) (done:Array Bool) (a:Act),Qa md ops done→
  (∀j oj,ops[j]? =some oj→j≠i→done.getD j true=false→(∀e∈oj.after,Region.binds md e=true→e.on≠i)→oi.apart ops oj=true)→
  i∈Region.ready md ops done→ZbG P ops w0 oi v a→
  ZjA P md ops Q w0 hd s k (done.setIfInBounds i true) (a.put oi.dst v)→ZjA P md ops Q w0 hd s (k+1) done a:=by
 intro k
 induction k with
 | zero=>intro done a _ _ hr hy H;exact H.elim
 | succ k ih=>
  intro done a hcl hfree hr hy H
  refine⟨fun h=>by simp[h]at hr,fun j hj oj hoj=>?_⟩
  by_cases e:j=i
  ·subst e
   rw[hi]at hoj
   cases hoj
   exact⟨fun _=>⟨v,hy,H⟩,fun c=>absurd hin c⟩
  have hun:=(mem_ready.1 hj).1
  have hap:=hfree j oj hoj e hun (Qp hr hj hoj)
  obtain⟨p1,p2,p3⟩:=Oper.apart_spec hap
  have hsi:=fun cs b=>hsel i oi cs b hi
  have hsj:=fun cs b=>hsel j oj cs b hoj
  have keep:∀u,ZbG P ops w0 oi v (a.put oj.dst u):=fun u=>hy.of_same (execOp_put oi hsi a oj.dst u p3) (wanted_put oi a oj.dst u p3)
  have hfree':∀q oq,ops[q]? =some oq→q≠i→(done.setIfInBounds j true).getD q true=false→(∀e∈oq.after,Region.binds md e=true→e.on≠i)→oi.apart ops oq=true:=fun q oq hq hqi hqu hno=>by
   refine hfree q oq hq hqi ?_ hno
   by_cases hjq:j=q
   ·subst hjq;exact hun
   ·rwa [getD_set_ne true hjq]at hqu
  have hr':=ready_mono hr (fun x=>e x.symm)
  obtain⟨h1,h3⟩:=H.2 j (ready_mono hj e) oj hoj
  refine⟨fun c=>?_,fun c=>⟨(h3 c).1,fun w hw=>?_⟩⟩
  ·obtain⟨u,hu,hk⟩:=h1 c
   refine⟨u,hu.of_same (execOp_put oj hsj a oi.dst v p1).symm (wanted_put oj a oi.dst v p1).symm,ih _ _ (hcl.set hj) hfree' hr' (keep u) ?_⟩
   rw[Array.setIfInBounds_comm _ _ e,←Act.put_comm a v u p2]
   exact hk
  ·have h4:=ZjD hoj hap hsi hsj hQ hy ((h3 c).2 w hw)
   refine wpOp_mono (fun a' w' h5=>⟨h5.2.1,?_⟩) h4
   refine Zgb.first hi (List.mem_cons_of_mem _ hin) hsel hQ hfl k _ a' (hcl.set hj) hfree' hr' (h5.1.up h5.2.1) ?_
   rw[Array.setIfInBounds_comm _ _ e]
   exact h5.2.2
def Zte (md:Region.Mode) (ops:Array Oper) (hd:List Nat) (s:Nat) (ts:List Nat):List Nat→Array Bool→Bool
 | [],done=>decide (Region.ready md ops done= [s]) && ZhJ md ops ts (done.setIfInBounds s true)
 | k::r,done=>(Region.ready md ops done).contains k && Region.free md ops done k && (((ops[k]?).map Zbu).getD false || Zk6 md ops (s::hd) k) && Zte md ops hd s ts r (done.setIfInBounds k true)
theorem ZjA.heads {l:List Oper} (hl:ops=l.toArray) (hsel:Region.noSelect ops=true) (hQ:∀(d:Tmp) v c a w,Q (.panic c) (a.put (some d) v) w→Q (.panic c) a w) (s:Nat) (ts:List Nat) (hts:∀i∈ts,i < l.length) (hdt:∀i∈ts,i∉s::hd) (hsd:s∉hd) (A:Act) (hA:∀w',Kept [] w0 w'→wpOp P ops Q s (fun a1 w1=>Kept [] w0 w1∧∀w2,Kept [] w1 w2→wpList P ops Q (ZW l ts) a1 w2) A w'):
 ∀(hs:List Nat) (done:Array Bool) (a:Act),(∀i∈hs,i < l.length)→(∀i∈hs,i∈hd)→
  Zte md ops hd s ts hs done=true→ZbA a.tmps.size (ZW l hs)=true→Qa md ops done→
  (∀U,UpC U→Nonempty (Zs w0 U)→wpQuiet P ops (CU w0 U) (fun a'=>a'=A) (ZW l hs) a)→ZjA P md ops Q w0 hd s (hs.length+(ts.length+1)) done a
 | [],done,a,_,_,hB,_,_,h=>by
  obtain rfl:a=A:=h (fun _=>True) (fun _ _ _ _=>trivial) ⟨⟨w0,Kept.refl _ _,trivial⟩⟩
  rw[List.length_nil,Nat.zero_add]
  simp only[Zte,Bool.and_eq_true,decide_eq_true_eq]at hB
  obtain⟨hB,hB2⟩:=hB
  refine⟨fun h=>(by rw[hB]at h;cases h),fun i hi o ho=>?_⟩
  rw[hB]at hi
  obtain rfl:i=s:=by simpa using hi
  refine⟨fun c=>absurd c hsd,fun _=>⟨rfl,fun w hw=>wpOp_mono (fun a1 w1 h1=>⟨h1.1,?_⟩) (hA w hw.kept)⟩⟩
  have h2:∀w2,CT w1 w2→wpAny P md ops Q ts.length (done.setIfInBounds i true) a1 w2:=fun w2 hw=>Qi hl ts _ a1 w2 hts hB2 (h1.2 w2 hw.kept)
  cases ts with
  | nil=>exact⟨by simpa [ZhJ]using hB2,fun w hw=>(h2 w hw).2⟩
  | cons t ts=>
   simp only[List.length_cons]at h2⊢
   simp only[ZhJ,Bool.and_eq_true,decide_eq_true_eq]at hB2
   refine⟨fun h0 w hw=>(h2 w hw).1 h0,fun j hj o ho=>⟨fun c=>?_,fun _ w hw=>(h2 w hw).2 j hj⟩⟩
   rw[hB2.1]at hj
   obtain rfl:j=t:=by simpa using hj
   exact absurd c (hdt j (by simp))
 | k::hs,done,a,hi,hin,hB,hdst,hds,h=>by
  have hlt:=hi k (by simp)
  have h0:ops[k]? =some l[k]:=by subst hl;simp[hlt]
  have hp:ZW l (k::hs)=l[k]::ZW l hs:=by simp[ZW,hlt]
  rw[hp]at hdst h
  generalize l[k]=o at*
  simp only[Zte,Bool.and_eq_true,Bool.or_eq_true]at hB
  obtain⟨⟨⟨hr,hf⟩,hw⟩,hB'⟩:=hB
  simp only[ZbA,Bool.and_eq_true]at hdst
  obtain⟨hd1,hd2⟩:=hdst
  obtain⟨d,hod,hds1,hds2⟩:∃d,o.dst=some d∧d < a.tmps.size∧∀o',o'∈ZW l hs→o'.dst≠some d:=by
   split at hd1
   ·rename_i d hod
    simp only[Bool.and_eq_true,decide_eq_true_eq,List.all_eq_true,bne_iff_ne]at hd1
    exact⟨d,hod,hd1.1,hd1.2⟩
   ·cases hd1
  have hone:∀U,UpC U→Nonempty (Zs w0 U)→∃v,YieldsIn P ops (CU w0 U) o v a∧wpQuiet P ops (CU w0 U) (fun a'=>a'=A) (ZW l hs) (a.put o.dst v)∧some v=A.tmps[d]? :=fun U hU hn=>by
   have hq:qOp P ops (CU w0 U) k (wpQuiet P ops (CU w0 U) (fun a'=>a'=A) (ZW l hs)) a:=by
    unfold qOp
    simp only[h0]
    exact h U hU hn
   obtain⟨v,hy,hK⟩:=yieldsIn_of_qOp h0 hq
   refine⟨v,hy,hK,?_⟩
   rw[Yj _ _ hK d hds2,hod]
   simp[Act.put,hds1]
  obtain⟨v,_,_,hv⟩:=hone (fun _=>True) (fun _ _ _ _=>trivial) ⟨⟨w0,Kept.refl _ _,trivial⟩⟩
  have hall:∀U,UpC U→Nonempty (Zs w0 U)→YieldsIn P ops (CU w0 U) o v a∧wpQuiet P ops (CU w0 U) (fun a'=>a'=A) (ZW l hs) (a.put o.dst v):=fun U hU hn=>by
   obtain⟨u,h1,h2,h3⟩:=hone U hU hn
   have:u=v:=by
    rw[←hv]at h3
    exact Option.some.inj h3
   subst this
   exact⟨h1,h2⟩
  rw[show(k::hs).length+(ts.length+1)=(hs.length+(ts.length+1))+1 by simp;omega]
  refine ZjA.first h0 (hin k (by simp)) (Region.noSelect_spec hsel) (fun c a w=>by rw[hod];exact hQ d v c a w) ?_ _ done a hds (Region.free_spec h0 hf) (by simpa using hr) (fun U hU ⟨w,hw⟩=>(hall U hU (by obtain⟨z,_⟩:=hw;exact⟨z⟩)).1) ?_
  ·rcases hw with hw | hw
   ·left
    rw[h0]at hw
    simpa using hw
   ·exact .inr fun d hd hu=>Zcq hw hd hu
  ·refine ZjA.heads hl hsel hQ s ts hts hdt hsd A hA hs _ _ (fun i h=>hi i (List.mem_cons_of_mem _ h)) (fun i h=>hin i (List.mem_cons_of_mem _ h)) hB' ?_ (hds.set (by simpa using hr)) (fun U hU hn=>(hall U hU hn).2)
   rw[hod]
   simpa [Act.put]using hd2
def Zmm (K:Act→World→Prop) (Q:Exit→Act→World→Prop):Exit→Act→World→Prop
 | .normal=>K
 | e=>Q e
end
structure SP where
 p:Value→World→Prop
 st:∀v w w',p v w→Kept [] w w'→p v w'
def ExK (X:List Nat) (w:World) (d:Nat) (x:ExV):Prop:=∀w',Kept X w w'→Qe w' d x
theorem ExK.kept {X:List Nat} {w w':World} {d:Nat} {x:ExV} (h:ExK X w d x) (hk:Kept [] w w'):ExK X w' d x:=fun _ h2=>h _ ((hk.mono (by simp)).trans h2)
theorem ExK.in {X:List Nat} {w:World} {d:Nat} {x:ExV} (h:ExK X w d x):Qe w d x:=h _ (Kept.refl _ _)
theorem ExK.mono {X:List Nat} {w:World} {d e:Nat} {x:ExV} (h:ExK X w d x) (hd:d≤e):ExK X w e x:=fun _ hk=>(h _ hk).mono hd
theorem ExK.nil {w:World} {d:Nat} {x:ExV} (h:Qe w d x):ExK [] w d x:=fun _ hk=>h.kept hk
def SP.ex (X:List Nat) (d:Nat) (p:ExV→Prop):SP:=⟨fun v w=>∃x:ExV,v= .agg x.cells.toArray∧p x∧ExK X w d x,fun _ _ _ ⟨x,h1,h2,h3⟩ hk=>⟨x,h1,h2,h3.kept hk⟩⟩
def SP.eq (u:Value):SP:=⟨fun v _=>v=u,fun _ _ _ h _=>h⟩
theorem SP.eq_p (u v:Value) (w:World):(SP.eq u).p v w=(v=u):=rfl
theorem SP.ex_p (X:List Nat) (d:Nat) (p:ExV→Prop) (v:Value) (w:World):(SP.ex X d p).p v w=∃x:ExV,v= .agg x.cells.toArray∧p x∧ExK X w d x:=rfl
structure PSp where
 d:Nat
 deps:List Nat
 sp:SP
def look:List PSp→Nat→Value→World→Prop
 | [],_=>fun _ _=>True
 | s::r,d=>if s.d=d then s.sp.p else look r d
def fill (D:List Nat) (vs:Nat→Value) (a:Act):Act:={a with tmps:=a.tmps.mapIdx fun s v=>if s∈D then vs s else v}
def Zjt (vs:Nat→Value) (d:Nat) (v:Value):Nat→Value:=fun s=>if s=d then v else vs s
theorem Zea {D:List Nat} {vs:Nat→Value} {a:Act} {d:Nat} {v:Value} (hd:d∈D):(fill D vs a).put (some d) v=fill D (Zjt vs d v) a:=by
 unfold fill Act.put
 simp only
 congr 1
 apply Array.ext
 ·simp
 ·intro s h1 h2
  by_cases c:d=s
  ·subst c
   simp[hd,Zjt]
  ·have c':¬s=d:=fun h=>c h.symm
   rw[Array.getElem_setIfInBounds (by simpa using h1),if_neg c]
   simp[c',Zjt]
theorem Zle (d:Nat) (D:List Nat) (vs:Nat→Value) (a:Act):fill (d::D) vs a=fill D vs (a.put (some d) (vs d)):=by
 unfold fill Act.put
 simp only
 congr 1
 apply Array.ext
 ·simp
 ·intro s h1 h2
  simp only[Array.getElem_mapIdx]
  by_cases c:d=s
  ·subst c
   simp
  ·have c':¬s=d:=fun h=>c h.symm
   rw[Array.getElem_setIfInBounds (by simpa using h1),if_neg c]
   simp[c']
theorem ZnW (vs:Nat→Value) (a:Act):fill [] vs a=a:=by
 unfold fill
 cases a
 congr 1
 apply Array.ext
 ·simp
 ·intro s h1 h2
  simp
def Jj (vs:Nat→Value):List Nat→Act→Act
 | [],a=>a
 | d::D,a=>Jj vs D (a.put (some d) (vs d))
theorem ZaN (vs:Nat→Value):∀(D:List Nat) (a:Act),fill D vs a=Jj vs D a
 | [],a=>ZnW vs a
 | d::D,a=>(Zle d D vs a).trans (ZaN vs D _)
theorem Zcw (D:List Nat) (a:Act):fill D (fun s=>a.tmps.getD s undef) a=a:=by
 unfold fill
 cases a with
 | mk tmps defers=>
  simp only
  congr 1
  apply Array.ext
  ·simp
  ·intro s h1 h2
   simp only[Array.getElem_mapIdx]
   split
   ·simp[Array.getD,h2]
   ·rfl
theorem Zcv {D:List Nat} {vs:Nat→Value} {a:Act} {d:Nat} (hd:d∈D) (hs:d < a.tmps.size):(fill D vs a).tmps.getD d undef=vs d:=by
 unfold fill
 simp[Array.getD,hs,hd]
section
variable {P:Program} {md:Region.Mode} {ops:Array Oper} {Q:Exit→Act→World→Prop} {w0:World}
theorem ZlO {α:Type} (x:α):∀l:List α,x::l≠l
 | [],h=>by cases h
 | _::l,h=>by
  injection h with h1 h2
  exact ZlO _ l h2
theorem Zae {i:Nat} {o:Oper} {a:Act} {w:World} {K:Act→World→Prop} (h0:ops[i]? =some o) (hd:∀a' w',K a' w'→a'.defers=a.defers) (h:wpList P ops (Zmm K Q) [o] a w):
 wpOp P ops Q i (fun a' w'=>K a' w'∧∃v,a'=a.put o.dst v) a w:=by
 unfold wpOp
 simp only[h0]
 simp only[wpList]at h
 split
 ·rename_i hw
  rw[if_pos hw]at h
  rcases h with h | ⟨h,h5⟩
  ·left
   unfold Oper.wp at*
   generalize (execOp a.eval o).run P w=r at*
   cases r with
   | ok n w'=>
    cases n <;> simp only[Oper.upon]at h⊢
    case value u=>exact⟨h,u,rfl⟩
    case skip=>exact⟨h,_,rfl⟩
    case defer d=>
     have h1:=hd _ _ h
     have h2:(({a with defers:=d::a.defers}:Act).put o.dst undef).defers=d::a.defers:=by cases o.dst <;> rfl
     exact absurd (h2.symm.trans h1) (ZlO _ _)
    case enter f args=>
     refine Calls.mono h fun e w'' he=>?_
     cases e with
     | returned u=>exact⟨he,u,rfl⟩
     | panicked c=>exact he
     | outgrown=>exact he
    case row row args=>exact Rows.mono h fun u w'' he=>⟨he,u,rfl⟩
   | halt x w'=>
    cases x <;> simp only[Oper.upon]at h⊢
    case panic u=>exact h
  ·exact .inr ⟨h,h5⟩
 ·rename_i hw
  rw[if_neg hw]at h
  exact⟨h,_,rfl⟩
def QC:List Nat→Bool
 | []=>true
 | d::r=>!r.contains d && QC r
def ZlH:List PSp→List Oper→Bool
 | s::ss,o::os=>decide (o.dst=some s.d) && ZlH ss os
 | [],_=>true
 | _::_,[]=>false
def ZlK (md:Region.Mode) (S:List PSp):List PSp→List Oper→Bool
 | s::ss,o::os=>(s.deps.all fun d=>o.after.toList.any fun e=>Region.binds md e && (((S[e.on]?).map (·.d)) == some d)) && ZlK md S ss os
 | [],_=>true
 | _::_,[]=>false
def ZfR (md:Region.Mode):Nat→List Oper→Bool
 | _,[]=>true
 | i,o::os=>(o.after.toList.all fun e=>!Region.binds md e || decide (e.on < i)) && ZfR md (i+1) os
def Zhr (n m:Nat):Array Bool:=((List.range m).map fun i=>decide (i < n)).toArray
theorem Zif:∀{ss:List PSp} {os:List Oper} {i:Nat} {s:PSp},ZlH ss os=true→ss[i]? =some s→∃o,os[i]? =some o∧o.dst=some s.d
 | [],_,_,_,_,h=>by simp at h
 | _::_,[],_,_,h,_=>by cases h
 | s::ss,o::os,0,_,h,h1=>by
  simp only[List.getElem?_cons_zero,Option.some.injEq]at h1
  subst h1
  simp only[ZlH,Bool.and_eq_true,decide_eq_true_eq]at h
  exact⟨o,rfl,h.1⟩
 | s::ss,o::os,i+1,_,h,h1=>by
  simp only[ZlH,Bool.and_eq_true]at h
  simpa using Zif (i:=i) h.2 (by simpa using h1)
theorem Zih {S:List PSp}:∀{ss:List PSp} {os:List Oper} {i:Nat} {s:PSp} {o:Oper},ZlK md S ss os=true→ss[i]? =some s→os[i]? =some o→
 ∀d∈s.deps,∃e∈o.after,Region.binds md e=true∧∃t,S[e.on]? =some t∧t.d=d
 | [],_,_,_,_,_,h,_=>by simp at h
 | _::_,[],_,_,_,h,_,_=>by cases h
 | s::ss,o::os,0,_,_,h,h1,h2=>by
  simp only[List.getElem?_cons_zero,Option.some.injEq]at h1 h2
  subst h1 h2
  simp only[ZlK,Bool.and_eq_true]at h
  intro d hd
  have:=List.all_eq_true.1 h.1 d hd
  obtain⟨e,he,hb⟩:=List.any_eq_true.1 this
  simp only[Bool.and_eq_true,beq_iff_eq,Option.map_eq_some_iff]at hb
  exact⟨e,by simpa using he,hb.1,hb.2⟩
 | s::ss,o::os,i+1,_,_,h,h1,h2=>by
  simp only[ZlK,Bool.and_eq_true]at h
  exact Zih h.2 (by simpa using h1) (by simpa using h2)
theorem ZfQ:∀{os:List Oper} {j i:Nat} {o:Oper},ZfR md j os=true→os[i]? =some o→∀e∈o.after,Region.binds md e=true→e.on < j+i
 | [],_,_,_,_,h=>by simp at h
 | o::os,j,0,_,h,h1=>by
  simp only[List.getElem?_cons_zero,Option.some.injEq]at h1
  subst h1
  simp only[ZfR,Bool.and_eq_true]at h
  intro e he hb
  have:=List.all_eq_true.1 h.1 e (by simpa using he)
  simpa [hb]using this
 | o::os,j,i+1,_,h,h1=>by
  simp only[ZfR,Bool.and_eq_true]at h
  intro e he hb
  have:=ZfQ h.2 (by simpa using h1) e he hb
  omega
theorem ZdU:∀{S:List PSp} {i j:Nat} {s t:PSp},QC (S.map (·.d))=true→S[i]? =some s→S[j]? =some t→s.d=t.d→i=j
 | [],_,_,_,_,_,h,_,_=>by simp at h
 | s::S,0,0,_,_,_,_,_,_=>rfl
 | s::S,0,j+1,_,t,h,h1,h2,e=>by
  simp only[List.getElem?_cons_zero,Option.some.injEq,List.getElem?_cons_succ]at h1 h2
  subst h1
  simp only[List.map_cons,QC,Bool.and_eq_true,Bool.not_eq_true']at h
  have:(S.map (·.d)).contains s.d=true:=by
   rw[e]
   simp only[List.contains_iff_mem,List.mem_map]
   exact⟨t,List.mem_of_getElem? h2,rfl⟩
  rw[h.1]at this
  cases this
 | s::S,i+1,0,t,_,h,h1,h2,e=>by
  simp only[List.getElem?_cons_zero,Option.some.injEq,List.getElem?_cons_succ]at h1 h2
  subst h2
  simp only[List.map_cons,QC,Bool.and_eq_true,Bool.not_eq_true']at h
  have:(S.map (·.d)).contains s.d=true:=by
   rw[←e]
   simp only[List.contains_iff_mem,List.mem_map]
   exact⟨t,List.mem_of_getElem? h1,rfl⟩
  rw[h.1]at this
  cases this
 | s::S,i+1,j+1,_,_,h,h1,h2,e=>by
  simp only[List.map_cons,QC,Bool.and_eq_true]at h
  have:=ZdU h.2 (by simpa using h1) (by simpa using h2) e
  omega
def Zgh (done:Array Bool):Nat→Nat
 | 0=>0
 | i+1=>Zgh done i+(if done.getD i true=true then 0 else 1)
theorem ZfX {done:Array Bool} {j:Nat}:∀{m:Nat},m≤j→Zgh (done.setIfInBounds j true) m=Zgh done m
 | 0,_=>rfl
 | m+1,h=>by
  have:(done.setIfInBounds j true).getD m true=done.getD m true:=getD_set_ne true (by omega)
  simp only[Zgh,this,ZfX (done:=done) (j:=j) (m:=m) (by omega)]
theorem Zij {done:Array Bool} {j:Nat} (hj:done.getD j true=false):∀{m:Nat},j < m→Zgh (done.setIfInBounds j true) m+1=Zgh done m
 | 0,h=>by omega
 | m+1,h=>by
  by_cases e:j=m
  ·subst e
   have hlt:j < done.size:=by
    rcases Nat.lt_or_ge j done.size with h | h
    ·exact h
    ·simp[Array.getD,Nat.not_lt.2 h]at hj
   have h1:(done.setIfInBounds j true).getD j true=true:=by simp[Array.getD,hlt]
   simp only[Zgh,h1,hj,ZfX (Nat.le_refl j)]
   simp
  ·have h1:(done.setIfInBounds j true).getD m true=done.getD m true:=getD_set_ne true e
   have h2:=Zij hj (m:=m) (by omega)
   simp only[Zgh,h1]
   omega
theorem ZcD {done:Array Bool}:∀{m:Nat},Zgh done m=0→∀i,i < m→done.getD i true=true
 | 0,_,_,h=>by omega
 | m+1,h,i,hi=>by
  simp only[Zgh]at h
  by_cases e:i=m
  ·subst e
   cases hd:done.getD i true with
   | true=>rfl
   | false=>simp[hd]at h
  ·exact ZcD (m:=m) (by omega) i (by omega)
theorem ZfW {done:Array Bool}:∀{m:Nat},Zgh done m≠0→∃i,i < m∧done.getD i true=false∧∀k,k < i→done.getD k true=true
 | 0,h=>absurd rfl h
 | m+1,h=>by
  by_cases e:Zgh done m=0
  ·refine⟨m,by omega,?_,fun k hk=>ZcD e k hk⟩
   simp only[Zgh,e]at h
   cases hd:done.getD m true with
   | false=>rfl
   | true=>simp[hd]at h
  ·obtain⟨i,h1,h2,h3⟩:=ZfW e
   exact⟨i,by omega,h2,h3⟩
theorem Zfm (l:List Oper):∀(k n:Nat),n+k=l.length→ZW l (List.range' n k)=l.drop n
 | 0,n,h=>by simp[ZW,List.drop_eq_nil_of_le (show l.length≤n by omega)]
 | k+1,n,h=>by
  have hn:n < l.length:=by omega
  have:=Zfm l k (n+1) (by omega)
  rw[List.range'_succ,List.drop_eq_getElem_cons hn,←this]
  simp[ZW,hn]
end
end
end Go.Proofs.YtfaecpkocgcofaaGreatDoor
