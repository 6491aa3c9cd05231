/- Lemmas for ResolveSettles, printed small: K24 S7 S9 S8. -/
import Derived.Test.YtfaecpkocgcofaaGreatDoorZ7
set_option linter.all false
set_option maxRecDepth 100000
set_option maxHeartbeats 8000000
open Go.Proofs.Tryz
namespace Go.Proofs.YtfaecpkocgcofaaGreatDoor
section
open Go.RowKit
section
variable {P:Program} {md:Region.Mode} {ops:Array Oper} {Q:Exit→Act→World→Prop} {w0:World}
def ZiT (P:Program) (l:List Oper) (Q:Exit→Act→World→Prop) (w0:World) (S:List PSz) (A:(Nat→Value)→Act):List (Nat×PSz)→Prop
 | []=>True
 | (i,s)::r=>(∀vs Z w',Kept [] w0 w'→zIn w0 Z w'→ZG S vs Z w' s.deps→wpList P l.toArray (Zmm (fun a w''=>Kept [] w' w''∧a.defers=(A vs).defers∧∃Z',ZcO s.al Z Z' w' w'' (a.tmps.getD s.d undef)∧s.sp.p Z' (a.tmps.getD s.d undef) w'') Q) (ZW l [i]) (A vs) w')∧ZiT P l Q w0 S A r
theorem ZdS {l:List Oper} {S:List PSz} {A:(Nat→Value)→Act}:∀{H:List (Nat×PSz)} {i:Nat} {s:PSz},ZiT P l Q w0 S A H→(i,s)∈H→
 ∀vs Z w',Kept [] w0 w'→zIn w0 Z w'→ZG S vs Z w' s.deps→wpList P l.toArray (Zmm (fun a w''=>Kept [] w' w''∧a.defers=(A vs).defers∧∃Z',ZcO s.al Z Z' w' w'' (a.tmps.getD s.d undef)∧s.sp.p Z' (a.tmps.getD s.d undef) w'') Q) (ZW l [i]) (A vs) w'
 | [],_,_,_,h=>by simp at h
 | (j,t)::r,i,s,h,hm=>by
  rcases List.mem_cons.1 hm with e | h1
  ·cases e;exact h.1
  ·exact ZdS h.2 h1
def Zc7 (done:Array Bool):List (Nat×PSz)→Nat
 | []=>0
 | (i,_)::r=>(if done.getD i true then 0 else 1)+Zc7 done r
theorem JG {done:Array Bool}:∀{H:List (Nat×PSz)},Zc7 done H=0→∀i s,(i,s)∈H→done.getD i true=true
 | [],_,_,_,h=>by simp at h
 | (j,t)::r,h,i,s,hm=>by
  unfold Zc7 at h
  rcases List.mem_cons.1 hm with e | h1
  ·injection e with e1 e2
   subst e1
   cases hd:done.getD i true with
   | true=>rfl
   | false=>rw[hd]at h;simp at h
  ·exact JG (by omega) i s h1
theorem Zb1 {done:Array Bool}:∀{H:List (Nat×PSz)},Zc7 done H≠0→∃A i s B,H=A++(i,s)::B∧done.getD i true=false∧∀j t,(j,t)∈A→done.getD j true=true
 | [],h=>absurd rfl h
 | (j,t)::r,h=>by
  cases hd:done.getD j true with
  | false=>exact⟨[],j,t,r,rfl,hd,fun _ _ h=>by simp at h⟩
  | true=>
   unfold Zc7 at h
   rw[hd]at h
   obtain⟨A,i,s,B,e,h1,h2⟩:=Zb1 (done:=done) (H:=r) (by simpa using h)
   refine⟨(j,t)::A,i,s,B,by rw[e];rfl,h1,fun j' t' hm=>?_⟩
   rcases List.mem_cons.1 hm with e | h3
   ·cases e;exact hd
   ·exact h2 _ _ h3
theorem ZeZ {done:Array Bool} {j:Nat}:∀{H:List (Nat×PSz)},(∀s,(j,s)∉H)→Zc7 (done.setIfInBounds j true) H=Zc7 done H
 | [],_=>rfl
 | (i,s)::r,h=>by
  have hne:j≠i:=fun e=>h s (by rw[e];simp)
  unfold Zc7
  rw[getD_set_ne true hne,ZeZ (H:=r) (fun s hm=>h s (by simp[hm]))]
theorem ZdE {done:Array Bool} {j:Nat} (hj:done.getD j true=false):∀{H:List (Nat×PSz)} {s:PSz},QC (H.map (·.1))=true→(j,s)∈H→Zc7 (done.setIfInBounds j true) H+1=Zc7 done H
 | [],_,_,h=>by simp at h
 | (i,t)::r,s,hn,hm=>by
  simp only[List.map_cons,QC,Bool.and_eq_true,Bool.not_eq_true']at hn
  unfold Zc7
  by_cases e:i=j
  ·subst e
   have hlt:i < done.size:=by
    rcases Nat.lt_or_ge i done.size with h | h
    ·exact h
    ·simp[Array.getD,Nat.not_lt.2 h]at hj
   rw[ZeZ (fun s hm=>by
    have:(r.map (·.1)).contains i=true:=by
     simp only[List.contains_iff_mem,List.mem_map]
     exact⟨(i,s),hm,rfl⟩
    rw[hn.1]at this
    cases this),hj]
   simp[Array.getD,hlt]
   omega
  ·rw[getD_set_ne true (fun h=>e h.symm)]
   rcases List.mem_cons.1 hm with e2 | h1
   ·cases e2;exact absurd rfl e
   ·have:=ZdE hj hn.2 h1
    omega
def Zds (md:Region.Mode) (l:List Oper) (E:List Nat):List Nat→List (Nat×PSz)→Bool
 | _,[]=>true
 | pre,(i,_)::r=>(((l[i]?).map fun o=>o.after.toList.all fun e=>!Region.binds md e || (E.contains e.on || pre.contains e.on)).getD false) && Zds md l E (pre++ [i]) r
theorem Zcz {l:List Oper} {E:List Nat}:∀{A:List (Nat×PSz)} {pre:List Nat} {i:Nat} {s:PSz} {B:List (Nat×PSz)},Zds md l E pre (A++(i,s)::B)=true→
 ∃o,l[i]? =some o∧∀e∈o.after,Region.binds md e=true→e.on∈E∨e.on∈pre∨∃t,(e.on,t)∈A
 | [],pre,i,s,B,h=>by
  simp only[List.nil_append,Zds,Bool.and_eq_true]at h
  cases ho:l[i]? with
  | none=>rw[ho]at h;simp at h
  | some o=>
   rw[ho]at h
   refine⟨o,rfl,fun e he hb=>?_⟩
   have h1:(o.after.toList.all fun e=>!Region.binds md e || (E.contains e.on || pre.contains e.on))=true:=h.1
   have:=List.all_eq_true.1 h1 e (by simpa using he)
   simp only[hb,Bool.not_true,Bool.false_or,Bool.or_eq_true,List.contains_iff_mem]at this
   exact this.imp (fun h=>h) .inl
 | (j,t)::A,pre,i,s,B,h=>by
  simp only[List.cons_append,Zds,Bool.and_eq_true]at h
  obtain⟨o,ho,h1⟩:=Zcz h.2
  refine⟨o,ho,fun e he hb=>?_⟩
  rcases h1 e he hb with h2 | h2 | ⟨u,h2⟩
  ·exact .inl h2
  ·rcases List.mem_append.1 h2 with h3 | h3
   ·exact .inr (.inl h3)
   ·exact .inr (.inr ⟨t,by simp at h3;subst h3;simp⟩)
  ·exact .inr (.inr ⟨u,by simp[h2]⟩)
def QN (hs E:List Nat) (n:Nat):Array Bool:=((List.range n).map fun i=>hs.contains i || E.contains i).toArray
def ZlI (l:List Oper):List (Nat×PSz)→Bool
 | []=>true
 | (i,s)::r=>(((l[i]?).map fun o=>decide (o.dst=some s.d)).getD false) && ZlI l r
theorem Zeg {l:List Oper}:∀{H:List (Nat×PSz)} {i:Nat} {s:PSz},ZlI l H=true→(i,s)∈H→∃o,l[i]? =some o∧o.dst=some s.d
 | [],_,_,_,h=>by simp at h
 | (j,t)::r,i,s,h,hm=>by
  simp only[ZlI,Bool.and_eq_true]at h
  rcases List.mem_cons.1 hm with e | h1
  ·injection e with e1 e2
   subst e1 e2
   cases ho:l[i]? with
   | none=>rw[ho]at h;simp at h
   | some o=>rw[ho]at h;exact⟨o,rfl,by simpa using h.1⟩
  ·exact Zeg h.2 h1
def ZlL (md:Region.Mode) (l:List Oper) (H:List (Nat×PSz)):List (Nat×PSz)→Bool
 | []=>true
 | (i,s)::r=>(((l[i]?).map fun o=>s.deps.all fun d=>o.after.toList.any fun e=>Region.binds md e && H.any fun p=>p.1 == e.on && p.2.d == d).getD false) && ZlL md l H r
theorem Zej {l:List Oper} {H:List (Nat×PSz)}:∀{G:List (Nat×PSz)} {i:Nat} {s:PSz} {o:Oper},ZlL md l H G=true→(i,s)∈G→l[i]? =some o→∀d∈s.deps,∃e∈o.after,Region.binds md e=true∧∃t,(e.on,t)∈H∧t.d=d
 | [],_,_,_,_,h,_=>by simp at h
 | (j,t)::r,i,s,o,h,hm,ho=>by
  simp only[ZlL,Bool.and_eq_true]at h
  rcases List.mem_cons.1 hm with e | h1
  ·injection e with e1 e2
   subst e1 e2
   rw[ho]at h
   intro d hd
   have h1:(s.deps.all fun d=>o.after.toList.any fun e=>Region.binds md e && H.any fun p=>p.1 == e.on && p.2.d == d)=true:=h.1
   have:=List.all_eq_true.1 h1 d hd
   obtain⟨e,he,hb⟩:=List.any_eq_true.1 this
   simp only[Bool.and_eq_true]at hb
   obtain⟨p,hp,hq⟩:=List.any_eq_true.1 hb.2
   simp only[Bool.and_eq_true,beq_iff_eq]at hq
   obtain⟨p1,p2⟩:=p
   exact⟨e,by simpa using he,hb.1,p2,by rw[←hq.1];exact hp,hq.2⟩
  ·exact Zej h.2 h1 ho
theorem Zh3 {H:List (Nat×PSz)} (h:QC ((H.map (·.2)).map (·.d))=true) {i:Nat} {s:PSz} (hm:(i,s)∈H):Z8 (H.map (·.2)) s.d=s.sp.p:=by
 induction H with
 | nil=>simp at hm
 | cons p r ih=>
  obtain⟨j,t⟩:=p
  simp only[List.map_cons,QC,Bool.and_eq_true,Bool.not_eq_true']at h
  rcases List.mem_cons.1 hm with e | h1
  ·cases e
   simp[Z8]
  ·have hne:t.d≠s.d:=fun e=>by
    have:((r.map (·.2)).map (·.d)).contains t.d=true:=by
     simp only[List.contains_iff_mem,List.mem_map]
     exact⟨s,⟨(i,s),h1,rfl⟩,e.symm⟩
    rw[h.1]at this
    cases this
   simp only[List.map_cons,Z8,if_neg hne]
   exact ih h.2 h1
theorem ZhZ {H:List (Nat×PSz)} (h:QC ((H.map (·.2)).map (·.d))=true) (h0:QC (H.map (·.1))=true) {i j:Nat} {s t:PSz} (hs:(i,s)∈H) (ht:(j,t)∈H) (e:s.d=t.d):i=j:=by
 induction H with
 | nil=>simp at hs
 | cons p r ih=>
  obtain⟨k,u⟩:=p
  simp only[List.map_cons,QC,Bool.and_eq_true,Bool.not_eq_true']at h h0
  have key:∀(x:Nat) (y:PSz),(x,y)∈r→y.d≠u.d:=fun x y hm e=>by
   have:((r.map (·.2)).map (·.d)).contains u.d=true:=by
    simp only[List.contains_iff_mem,List.mem_map]
    exact⟨y,⟨(x,y),hm,rfl⟩,e⟩
   rw[h.1]at this
   cases this
  rcases List.mem_cons.1 hs with e1 | h1 <;> rcases List.mem_cons.1 ht with e2 | h2
  ·cases e1;cases e2;rfl
  ·cases e1;exact absurd e.symm (key _ _ h2)
  ·cases e2;exact absurd e (key _ _ h1)
  ·exact ih h.2 h0.2 h1 h2
theorem ZhY {H:List (Nat×PSz)} (h0:QC (H.map (·.1))=true) {i:Nat} {s t:PSz} (hs:(i,s)∈H) (ht:(i,t)∈H):s=t:=by
 induction H with
 | nil=>simp at hs
 | cons p r ih=>
  obtain⟨k,u⟩:=p
  simp only[List.map_cons,QC,Bool.and_eq_true,Bool.not_eq_true']at h0
  have key:∀(y:PSz),(k,y)∉r:=fun y hm=>by
   have:(r.map (·.1)).contains k=true:=by
    simp only[List.contains_iff_mem,List.mem_map]
    exact⟨(k,y),hm,rfl⟩
   rw[h0.1]at this
   cases this
  rcases List.mem_cons.1 hs with e1 | h1 <;> rcases List.mem_cons.1 ht with e2 | h2
  ·cases e1;cases e2;rfl
  ·cases e1;exact absurd h2 (key _)
  ·cases e2;exact absurd h1 (key _)
  ·exact ih h0.2 h1 h2
theorem YY {vs:Nat→Value} {Z:List Nat} {w:World}:∀{H:List (Nat×PSz)},(∀i s,(i,s)∈H→s.sp.p Z (vs s.d) w)→Zi vs Z w (H.map (·.2))
 | [],_=>trivial
 | (i,s)::r,h=>⟨h i s (by simp),YY fun j t ht=>h j t (by simp[ht])⟩
def ZfY (l:List Oper) (H:List (Nat×PSz)) (E T:List Nat) (size:Nat):Bool:=
 ZlI l H && (H.all fun p=>decide (p.2.d < size) && decide (p.1 < l.length) && !E.contains p.1) && QC ((H.map (·.2)).map (·.d)) && QC (H.map (·.1)) && ZlL .any l H H &&
 ((H.map (·.1)).all fun i=>ZnM .any l.toArray (H.map (·.1)++E) i) && Zds .any l E [] H && (T.all fun i=>decide (i < l.length)) && (E.all fun i=>decide (i < l.length)) &&
 ZhJ .any l.toArray T (QN (H.map (·.1)) E l.length)
theorem Zvy {l:List Oper} {H:List (Nat×PSz)} {E T:List Nat} {a:Act} (hB:ZfY l H E T a.tmps.size=true)
 (hO:ZiT P l Q w0 (H.map (·.2)) (fun vs=>fill ((H.map (·.2)).map (·.d)) vs a) H)
 (hT:∀vs Z w',Kept [] w0 w'→zIn w0 Z w'→Zi vs Z w' (H.map (·.2))→wpList P l.toArray Q (ZW l T) (fill ((H.map (·.2)).map (·.d)) vs a) w'):
 ∀(k:Nat) (done:Array Bool) (vs:Nat→Value) (Z:List Nat) (w':World),Qa .any l.toArray done→done.size=l.length→(∀t,t∉H.map (·.1)→t < l.length→done.getD t false=E.contains t)→Kept [] w0 w'→zIn w0 Z w'→
  (∀i s,(i,s)∈H→done.getD i false=true→s.sp.p Z (vs s.d) w')→Zc7 done H=k→wpAny P .any l.toArray Q (k+T.length) done (fill ((H.map (·.2)).map (·.d)) vs a) w':=by
 simp only[ZfY,Bool.and_eq_true]at hB
 obtain⟨⟨⟨⟨⟨⟨⟨⟨⟨b1,b2⟩,b3⟩,b4⟩,b5⟩,b6⟩,b7⟩,b8⟩,b10⟩,b9⟩:=hB
 have b2':∀i s,(i,s)∈H→s.d < a.tmps.size∧i < l.length∧i∉E:=fun i s hm=>by
  have:=List.all_eq_true.1 b2 (i,s) hm
  simpa [and_assoc]using this
 intro k
 induction k with
 | zero=>
  intro done vs Z w' hc hs ht hk hz hp h0
  have hd:done=QN (H.map (·.1)) E l.length:=by
   apply Array.ext
   ·simp[QN,hs]
   ·intro i h1 h2
    have e1:done.getD i true=done[i]:=by simp[Array.getD,h1]
    have e2:done.getD i false=done[i]:=by simp[Array.getD,h1]
    by_cases c:i∈H.map (·.1)
    ·obtain⟨⟨i',s⟩,hm,rfl⟩:=List.mem_map.1 c
     rw[←e1,JG h0 i' s hm]
     have:(H.map (·.1)).contains i'=true:=by rw[List.contains_iff_mem];exact c
     simp only[QN,List.getElem_toArray,List.getElem_map,List.getElem_range,this,Bool.true_or]
    ·rw[←e2,ht i c (by omega)]
     have:(H.map (·.1)).contains i=false:=by
      cases h:(H.map (·.1)).contains i with
      | false=>rfl
      | true=>rw[List.contains_iff_mem]at h;exact absurd h c
     simp only[QN,List.getElem_toArray,List.getElem_map,List.getElem_range,this,Bool.false_or]
  have h1:=hT vs Z w' hk hz (YY fun i s hi=>hp i s hi (by
   have:=JG h0 i s hi
   have hlt:i < done.size:=by have:=(b2' i s hi).2.1;omega
   simpa [Array.getD,hlt]using this))
  subst hd
  have:=Qi (P:=P) (md:= .any) (ops:=l.toArray) (Q:=Q) (l:=l) rfl T (QN (H.map (·.1)) E l.length) _ w' (fun i hi=>by
   have:=List.all_eq_true.1 b8 i hi
   simpa using this) b9 h1
  rw[Nat.zero_add]
  exact this
 | succ k ih=>
  intro done vs Z w' hc hs ht hk hz hp h0
  obtain⟨A,m,sm,B,hAB,hm2,hm3⟩:=Zb1 (done:=done) (H:=H) (by omega)
  have hmH:(m,sm)∈H:=by rw[hAB];simp
  have hml:m < l.length:=(b2' m sm hmH).2.1
  have hmr:m∈Region.ready .any l.toArray done:=by
   obtain⟨o,ho,hed⟩:=Zcz (md:= .any) (A:=A) (by rw[←hAB];exact b7)
   refine mem_ready.2 ⟨hm2,o,by simpa using ho,fun e he hb=>?_⟩
   rcases hed e he hb with h1 | h1 | ⟨t,h1⟩
   ·have hlt:e.on < l.length:=by
     have:=List.all_eq_true.1 b10 e.on h1
     simpa using this
    by_cases c:e.on∈H.map (·.1)
    ·obtain⟨⟨i',s⟩,hm,he2⟩:=List.mem_map.1 c
     simp only at he2
     exact absurd h1 (by rw[←he2];exact(b2' i' s hm).2.2)
    ·rw[ht _ c hlt]
     rw[List.contains_iff_mem]
     exact h1
   ·simp at h1
   ·have h3:=hm3 _ _ h1
    have hlt:e.on < done.size:=by have:=(b2' e.on t (by rw[hAB];simp[h1])).2.1;omega
    simpa [Array.getD,hlt]using h3
  rw[show k+1+T.length=(k+T.length)+1 by omega]
  refine⟨fun h=>by rw[h]at hmr;simp at hmr,fun i hi=>?_⟩
  obtain⟨hun,o,ho,hall⟩:=mem_ready.1 hi
  have ho1:l[i]? =some o:=by simpa using ho
  have hil:i < l.length:=(List.getElem?_eq_some_iff.1 ho1).1
  have hin:i∈H.map (·.1):=by
   apply Classical.byContradiction
   intro hno
   by_cases hE:i∈E
   ·have h1:=ht i hno hil
    have hlt:i < done.size:=by omega
    have:done.getD i false=done.getD i true:=by simp[Array.getD,hlt]
    rw[this,hun]at h1
    have h2:E.contains i=true:=by rw[List.contains_iff_mem];exact hE
    rw[h2]at h1
    cases h1
   ·have h6:=List.all_eq_true.1 b6 m (List.mem_map.2 ⟨(m,sm),hmH,rfl⟩)
    exact absurd hi (Zbc h6 hc hm2 i (by simp only[List.mem_append,not_or];exact⟨hno,hE⟩))
  obtain⟨⟨i',s⟩,hsi,he1⟩:=List.mem_map.1 hin
  simp only at he1
  subst he1
  obtain⟨o',ho',hod⟩:=Zeg b1 hsi
  obtain rfl:o'=o:=Option.some.inj (ho'.symm.trans ho1)
  have hgv:ZG (H.map (·.2)) vs Z w' s.deps:=ZaL fun d hd=>by
   obtain⟨e,he,hb,t,ht1,ht2⟩:=Zej b5 hsi ho1 d hd
   have h1:=hp _ t ht1 (hall e he hb)
   rw[←ht2,Zh3 b3 ht1]
   exact h1
  have hone:=ZdS hO hsi vs Z w' hk hz hgv
  rw[show ZW l [i']= [o'] by simp[ZW,ho1]]at hone
  have h2:=Zae (P:=P) (ops:=l.toArray) (Q:=Q) ho (fun a' w'' h=>h.2.1) hone
  refine wpOp_mono ?_ h2
  rintro a' w'' ⟨⟨hk2,_,Z',hzn,hps⟩,v,hv⟩
  have hdm:s.d∈(H.map (·.2)).map (·.d):=List.mem_map.2 ⟨s,List.mem_map.2 ⟨(i',s),hsi,rfl⟩,rfl⟩
  have hdl:s.d < a.tmps.size:=(b2' i' s hsi).1
  rw[hod,Zea hdm]at hv
  subst hv
  rw[Zcv hdm hdl]at hps hzn
  refine ih (done.setIfInBounds i' true) (Zjt vs s.d v) Z' w'' (hc.set hi) (by simpa using hs) (fun t htn htl=>?_) (hk.trans hk2) (hzn.in hz hk.size hk2.size) (fun j t htj hdj=>?_) ?_
  ·have:=ht t htn htl
   have hne:i'≠t:=fun e=>htn (by rw[←e];exact hin)
   rw[getD_set_ne false hne]
   exact this
  ·by_cases e:j=i'
   ·subst e
    obtain rfl:=ZhY b4 hsi htj
    exact hps
   ·have hne:t.d≠s.d:=fun h=>e (ZhZ b3 b4 htj hsi h)
    have hdj2:done.getD j false=true:=by rwa [getD_set_ne false (fun h=>e h.symm)]at hdj
    have h1:=hp j t htj hdj2
    have h3:Zjt vs s.d v t.d=vs t.d:=by simp[Zjt,hne]
    rw[h3]
    exact t.sp.st _ _ _ _ _ h1 hk2 hzn.sub hzn.up
  ·have:=ZdE hun b4 hsi
   omega
def Zib (l:List Oper):List (Nat×Nat×Value)→Act→Prop
 | [],_=>True
 | (i,d,v)::r,a=>(match l[i]? with | some o=>(match o.op with | .move x=>a.eval x=v | _=>False) | none=>False)∧Zib l r (a.put (some d) v)
def Q5:List (Nat×Nat×Value)→Act→Act
 | [],a=>a
 | (_,d,v)::r,a=>Q5 r (a.put (some d) v)
def Jf:List (Nat×Nat×Value)→Array Bool→Array Bool
 | [],done=>done
 | (i,_,_)::r,done=>Jf r (done.setIfInBounds i true)
def Zf0 (l:List Oper):List (Nat×Nat)→Array Bool→Bool
 | [],_=>true
 | (i,d)::r,done=>((l[i]?.map fun o=>decide (o.dst=some d) && (o.guard.isNone && o.after.toList.isEmpty)).getD false) && (!done.getD i true && (Region.free .any l.toArray done i && Zf0 l r (done.setIfInBounds i true)))
theorem Zao:∀{E:List (Nat×Nat×Value)} {done:Array Bool},(Jf E done).size=done.size
 | [],_=>rfl
 | (i,d,v)::r,done=>by
  unfold Jf
  rw[Zao]
  simp
theorem Zaf (hQ:∀(d:Tmp) v c a w,Q (.panic c) (a.put (some d) v) w→Q (.panic c) a w) {l:List Oper} (hs:Region.noSelect l.toArray=true):∀{E:List (Nat×Nat×Value)} {done:Array Bool} {a:Act} {w:World} {k:Nat},Zf0 l (E.map fun e=>(e.1,e.2.1)) done=true→Zib l E a→Qa .any l.toArray done→
 (Qa .any l.toArray (Jf E done)→wpAny P .any l.toArray Q k (Jf E done) (Q5 E a) w)→wpAny P .any l.toArray Q (k+E.length) done a w
 | [],_,_,_,_,_,_,hc,h=>h hc
 | (i,d,v)::r,done,a,w,k,hB,he,hc,h=>by
  simp only[List.map_cons,Zf0,Bool.and_eq_true]at hB
  obtain⟨h1,h2,h3,h4⟩:=hB
  cases ho:l[i]? with
  | none=>rw[ho]at h1;simp at h1
  | some o=>
   rw[ho]at h1
   have h1':(decide (o.dst=some d) && (o.guard.isNone && o.after.toList.isEmpty))=true:=h1
   simp only[Bool.and_eq_true,decide_eq_true_eq,Option.isNone_iff_eq_none,List.isEmpty_iff]at h1'
   obtain⟨hod,hg,haf⟩:=h1'
   have he1:=he.1
   simp only[ho]at he1
   have ho2:l.toArray[i]? =some o:=by simpa using ho
   have hun:done.getD i true=false:=by simpa using h2
   have hr:i∈Region.ready .any l.toArray done:=mem_ready.2 ⟨hun,o,ho2,fun e hm _=>by
    have:e∈o.after.toList:=by simpa using hm
    rw[haf]at this
    simp at this⟩
   have hy:Yields P l.toArray o v a:=by
    split at he1
    ·rename_i x hx
     refine .inl ⟨by simp[Region.wanted,hg],fun w=>?_⟩
     have e:execOp a.eval o=pure (.value (a.eval x)):=by unfold execOp;rw[hx]
     rw[e,he1]
     rfl
    ·exact he1.elim
   have h5:=Region.free_spec ho2 h3
   have key:=Zaf hQ hs (E:=r) (done:=done.setIfInBounds i true) (a:=a.put (some d) v) (w:=w) (k:=k) h4 he.2 (hc.set hr) (fun hc2=>h hc2)
   refine wpAny_first (P:=P) (md:= .any) (ops:=l.toArray) (Q:=Q) ho2 (Region.noSelect_spec hs) (fun c a w h=>(by rw[hod]at h;exact hQ _ _ _ _ _ h)) (k+r.length) done a w (fun j oj hj hne hu hno=>h5 j oj hj hne hu hno) hr hy ?_
   rw[hod]
   exact key
theorem Yl:∀{E:List (Nat×Nat×Value)} {done:Array Bool} (t:Nat),t < done.size→(Jf E done).getD t false=(done.getD t false || (E.map (·.1)).contains t)
 | [],done,t,h=>by simp[Jf]
 | (i,d,v)::r,done,t,h=>by
  unfold Jf
  rw[Yl t (by simpa using h)]
  by_cases e:i=t
  ·subst e
   simp[Array.getD,h]
  ·rw[getD_set_ne false e]
   have:(t == i)=false:=by simpa using fun h=>e h.symm
   simp only[List.map_cons,List.contains_cons,this,Bool.false_or]
theorem Q2 {id:Nat} {a:Act} {w:World} {l:List Oper} (E:List (Nat×Nat×Value)) (H:List (Nat×PSz)) (T:List Nat) (hm:P.follows .mixedOrders=true)
 (hB:ZfY l H (E.map (·.1)) T a.tmps.size=true) (hN:T.length+(H.length+E.length)=l.length∧Region.noSelect l.toArray=true) (hE:Zf0 l (E.map fun e=>(e.1,e.2.1)) (Array.replicate l.length false)=true) (hQ:∀(d:Tmp) v c a w,Q (.panic c) (a.put (some d) v) w→Q (.panic c) a w)
 (he:Zib l E a)
 (h:∃A:(Nat→Value)→Act,(∀vs,Jj vs ((H.map (·.2)).map (·.d)) (Q5 E a)=A vs)∧ZiT P l Q w (H.map (·.2)) A H∧
  ∀vs Z w',Kept [] w w'→zIn w Z w'→Zi vs Z w' (H.map (·.2))→wpList P l.toArray Q (ZW l T) (A vs) w'):
 (Code.region id l.toArray true).wp P Q a w:=by
 obtain⟨A,hA,h1,h2⟩:=h
 have hA2:A=fun vs=>fill ((H.map (·.2)).map (·.d)) vs (Q5 E a):=by
  funext vs
  rw[ZaN]
  exact(hA vs).symm
 subst hA2
 have hsz:l.toArray.size=l.length:=by simp
 refine wp_region_any hm ?_
 rw[hsz]
 have hps:∀{E:List (Nat×Nat×Value)} {a:Act},(Q5 E a).tmps.size=a.tmps.size:=by
  intro E
  induction E with
  | nil=>intro a;rfl
  | cons x r ih=>
   intro a
   obtain⟨i,d,v⟩:=x
   unfold Q5
   rw[ih]
   simp[Act.put]
 have hds:∀{E:List (Nat×Nat×Value)} {done:Array Bool},(Jf E done).size=done.size:=fun{E done}=>Zao
 have hlen:l.length=((H.length+T.length)+E.length):=by omega
 have hnd:QC (H.map (·.1))=true:=by
  simp only[ZfY,Bool.and_eq_true]at hB
  exact hB.1.1.1.1.1.1.2
 have hHE:∀i s,(i,s)∈H→i < l.length∧i∉E.map (·.1):=fun i s hm=>by
  simp only[ZfY,Bool.and_eq_true]at hB
  have:=List.all_eq_true.1 hB.1.1.1.1.1.1.1.1.2 (i,s) hm
  simp at this
  exact⟨this.1.2,by simpa using this.2⟩
 rw[show l.length=((H.length+T.length)+E.length)from hlen]
 rw[←hlen]
 rw[show(Array.replicate l.length false)=Array.replicate l.length false from rfl]
 have key:=Zaf hQ hN.2 (E:=E) (done:=Array.replicate l.length false) (a:=a) (w:={w with drawn:=w.drawn+1}) (k:=H.length+T.length) hE he (by simpa using Qa.none (md:= .any) (ops:=l.toArray)) (fun hc=>by
  have hun:∀{G:List (Nat×PSz)},(∀i s,(i,s)∈G→i < l.length∧i∉E.map (·.1))→Zc7 (Jf E (Array.replicate l.length false)) G=G.length:=by
   intro G
   induction G with
   | nil=>intro _;rfl
   | cons p r ih=>
    intro hg
    obtain⟨i,s⟩:=p
    obtain⟨h3,h4⟩:=hg i s (by simp)
    have e1:=Yl (E:=E) (done:=Array.replicate l.length false) i (by simpa using h3)
    have e2:(Jf E (Array.replicate l.length false)).getD i true=(Jf E (Array.replicate l.length false)).getD i false:=by
     have:i < (Jf E (Array.replicate l.length false)).size:=by rw[hds];simpa using h3
     simp[Array.getD,this]
    have e3:(E.map (·.1)).contains i=false:=by
     cases h:(E.map (·.1)).contains i with
     | false=>rfl
     | true=>rw[List.contains_iff_mem]at h;exact absurd h h4
    unfold Zc7
    rw[ih (fun i s hm=>hg i s (by simp[hm])),e2,e1,e3]
    simp[Array.getD,h3]
    omega
  have:=Zvy (P:=P) (Q:=Q) (w0:=w) (a:=Q5 E a) (T:=T) (E:=E.map (·.1)) (by rw[hps];exact hB) h1 h2 H.length (Jf E (Array.replicate l.length false)) (fun s=>(Q5 E a).tmps.getD s undef) [] {w with drawn:=w.drawn+1} hc (by rw[hds];simp)
   (fun t _ htl=>by rw[Yl t (by simpa using htl)];simp[Array.getD,htl]) ⟨rfl,rfl,rfl,Nat.le_refl _,fun _ _ _=>rfl⟩ (fun q hq=>by simp at hq) (fun i s hm hd=>by
    exfalso
    obtain⟨h3,h4⟩:=hHE i s hm
    rw[Yl i (by simpa using h3)]at hd
    have e3:(E.map (·.1)).contains i=false:=by
     cases h:(E.map (·.1)).contains i with
     | false=>rfl
     | true=>rw[List.contains_iff_mem]at h;exact absurd h h4
    rw[e3]at hd
    simp[Array.getD,h3]at hd) (hun hHE)
  rw[Zcw]at this
  exact this)
 rw[show H.length+T.length+E.length=l.length by omega]at key
 exact key
end
def QU (t:Tab) (x:ExV):(Int×Bool)×Bd×Bool:=
 if(l0 x).kind=6∧(shX (l0 x).s).2=true∧(l0 x).ls.length=1 then((shX (l0 x).s).1,(Yr t (l0 (l0 x))).2.1,(Yr t (l0 (l0 x))).2.2)
 else((shX (l0 x).s).1,(0,0),false)
def avV (r:(Int×Bool)×Bd×Bool):Value:= .tuple #[.agg #[.int .i64 r.1.1,.bool r.1.2],.agg #[.int .i64 r.2.1.1,.int .i64 r.2.1.2],.bool r.2.2]
theorem Zl3 {t:Tab} {x:ExV} (h:¬((l0 x).kind=6∧(shX (l0 x).s).2=true∧(l0 x).ls.length=1)):QU t x=((shX (l0 x).s).1,(0,0),false):=by
 unfold QU;rw[if_neg h]
theorem Zjl {t:Tab} {x:ExV} (h1:(l0 x).kind=6) (h2:(shX (l0 x).s).2=true) (h3:(l0 x).ls.length=1):QU t x=((shX (l0 x).s).1,(Yr t (l0 (l0 x))).2.1,(Yr t (l0 (l0 x))).2.2):=by
 unfold QU;rw[if_pos ⟨h1,h2,h3⟩]
theorem ZaO {w:World} {n:Nat} {x:ExV} (h:Qe w (n+1) x) (hj:0 < x.ls.length):∃b o,x.la=some ⟨b,o,none⟩∧Q1 w b o (l0 x)∧Qe w n (l0 x):=by
 obtain⟨b,o,h1,h2,h3⟩:=ZqP h hj
 have e:o+0*9=o:=by omega
 rw[e]at h2
 exact⟨b,o,h1,h2,h3⟩
theorem Zdv (w:World) (v:Zp) (t:Tab) (x:ExV) (n:Nat) (hT:Zw w v t) (hx:Qe w (n+1) x) (hl:0 < x.ls.length):Calls prog 147 #[.agg (v.cells t),.agg x.cells.toArray] w (ZE (avV (QU t x)) w):=by
 have HP:=hh (fun w' m (hk:Kept [] w w')=>Jp w' v t m (hT.kept hk))
 obtain⟨b0,o0,ha,hat,hp⟩:=ZaO hx hl
 have HX:=hh hp
 have q1:=hx.2.2.2.2.1
 have q2:(l0 x).ls.length≤140737488355328:=by
  cases n with
  | zero=>exact hp.elim
  | succ n=>exact hp.2.2.2.2.1
 have HNO:=hh (fun h=>Zl3 (t:=t) (x:=x) h)
 have HY:=hh (fun h1 h2 h3=>Zjl (t:=t) (x:=x) h1 h2 h3)
 unfold Zp.cells at HP
 unfold Zp.cells
 clear hT hx hp
 have hl2:(0:Int) < (x.ls.length:Int):=by omega
 generalize l0 x=p at*
 go_enter func147,ntmps147
 by_cases k6:p.kind=6
 rotate_left
 ·have HW:Hid (QU t x=((shX p.s).1,(0,0),false)):=HNO.out (fun h=>k6 h.1)
  have k62:(p.kind != 6)=true:=by simp[k6]
  clear HNO HY HP k6 HX
  go_wp2_with fail
  go_region
  go_wp2_with fail
  rw[HW.out]
  exact Za rfl (ZgM results147 (Z0 rfl inferInstance) (Z0 rfl inferInstance) (Zh rfl)) kp
 cases hok:(shX p.s).2
 ·have HW:Hid (QU t x=((shX p.s).1,(0,0),false)):=HNO.out (fun h=>by rw[hok]at h;exact absurd h.2.1 (by simp))
  clear HNO HY HP HX
  go_wp2_with fail
  go_region
  go_wp2_with fail
  rw[HW.out]
  exact Za rfl (ZgM results147 (Z0 rfl inferInstance) (Z0 rfl inferInstance) (Zh rfl)) kp
 by_cases kl:p.ls.length=1
 rotate_left
 ·have HW:Hid (QU t x=((shX p.s).1,(0,0),false)):=HNO.out (fun h=>kl h.2.2)
  have kl2:((p.ls.length:Int) != 1)=true:=by simp;omega
  clear HNO HY HP kl HX
  go_wp2_with fail
  go_region
  go_wp2_with fail
  rw[HW.out]
  exact Za rfl (ZgM results147 (Z0 rfl inferInstance) (Z0 rfl inferInstance) (Zh rfl)) kp
 have HW:=hh (HY.out k6 hok kl)
 have hlp:0 < p.ls.length:=by omega
 obtain⟨b1,o1,hpa,hpat⟩:∃b o,p.la=some ⟨b,o,none⟩∧Q1 w b o (l0 p):=by
  cases n with
  | zero=>exact HX.out.elim
  | succ n=>
   obtain⟨b,o,h1,h2,_⟩:=ZaO HX.out hlp
   exact⟨b,o,h1,h2⟩
 have kl2:((p.ls.length:Int) != 1)=false:=by simp;omega
 have hlp2:(0:Int) < (p.ls.length:Int):=by omega
 clear HNO HY kl HX
 go_wp2_with fail
 unfold pvV at HP
 refine Ze 10 0 (fun _=> .cells #[] 0) (by kernel_rfl) (by kernel_rfl) (fun i o h1 h2=>by omega) (fun _ _ _ _ _ h=>h) ?_;apply Exists.intro;refine⟨fun U hU hN=>?_,?_⟩;simp only[List.take_succ_cons,List.take_zero]
 ·repeat(go_big_quiet_step (exact Calls.headV hU (HP.out _ _ (Kept.trans kp (Zs.prop _)))))
  refine wpQuiet_nil ?_
  exact rfl
 simp only[List.drop_succ_cons,List.drop_zero,List.take_succ_cons,List.take_zero]
 intro w4 hk4 _
 haveI p_w4:Zb w4 _:=⟨hk4⟩
 clear hk4 HP
 generalize Yr t (l0 p)=r at*
 go_wp2_with fail
 go_region
 go_wp2_with fail
 rw[HW.out]
 exact Za rfl (ZgM results147 (Z0 rfl inferInstance) (Z0 rfl inferInstance) (Zh rfl)) kp
theorem Zf5 {t:Tab} {x:ExV} (h:x.ls.length=1):(QU t x).2.2=(Q9 t x).isSome:=by
 unfold QU Q9
 obtain⟨p,hp⟩:∃p,x.ls= [p]:=by
  cases hx:x.ls with
  | nil=>rw[hx]at h;cases h
  | cons p l=>cases l with
   | nil=>exact⟨p,rfl⟩
   | cons _ _=>rw[hx]at h;simp at h
 have e:l0 x=p:=by simp[l0,hp]
 rw[e,hp]
 simp only[Ze9]
 cases hs:(shX p.s).2
 ·simp
 ·simp only[if_true]
  by_cases hk:p.kind=6
  ·simp only[hk,if_true,true_and]
   cases hl:p.ls with
   | nil=>simp
   | cons q l=>cases l with
    | nil=>
     have e2:l0 p=q:=by simp[l0,hl]
     simp only[e2,List.length_cons,List.length_nil,if_true]
     rw[ZaG]
     cases Jq t q <;> rfl
    | cons _ _=>simp
  ·simp[hk]
theorem Zl4 {t:Tab} {x:ExV} {s:Int×Bool} {a:Bd} (h:x.ls.length=1) (ha:Q9 t x=some (s,a)):QU t x=(s,a,true):=by
 unfold QU
 unfold Q9 at ha
 obtain⟨p,hp⟩:∃p,x.ls= [p]:=by
  cases hx:x.ls with
  | nil=>rw[hx]at h;cases h
  | cons p l=>cases l with
   | nil=>exact⟨p,rfl⟩
   | cons _ _=>rw[hx]at h;simp at h
 have e:l0 x=p:=by simp[l0,hp]
 rw[e]
 rw[hp]at ha
 simp only[Ze9]at ha
 cases hs:(shX p.s).2
 ·rw[hs]at ha;simp at ha
 ·simp only[hs,if_true]at ha
  by_cases hk:p.kind=6
  ·simp only[hk,if_true]at ha
   cases hl:p.ls with
   | nil=>simp[hl]at ha
   | cons q l=>cases l with
    | nil=>
     have e2:l0 p=q:=by simp[l0,hl]
     simp only[hl]at ha
     rw[e2,if_pos ⟨hk,rfl,by simp⟩]
     cases hm:Jq t q with
     | none=>rw[hm]at ha;cases ha
     | some r=>
      obtain⟨b,a'⟩:=r
      rw[hm]at ha
      simp only[Option.some.injEq,Prod.mk.injEq]at ha
      rw[JX hm,ha.1,ha.2]
    | cons _ _=>simp[hl]at ha
  ·simp[hk]at ha
theorem Zin {I:ExV→Bool} {t:Tab} {x:ExV} (h:x.ls.length≠1):ZaS I t x=false:=by
 unfold ZaS
 split
 ·rename_i h1 _;rw[h1]at h;simp at h
 ·rfl
theorem Zim {I:ExV→Bool} {t:Tab} {x:ExV} (h:x.al.length≠1):ZaS I t x=false:=by
 unfold ZaS
 split
 ·rename_i _ h1;rw[h1]at h;simp at h
 ·rfl
theorem Zil {I:ExV→Bool} {t:Tab} {x:ExV} (h1:x.ls.length=1) (h2:x.al.length=1):ZaS I t x=(I (a0 x) && ((QU t x).2.2 || Yo (Yn t x.ent) && (Qs t (Yn t x.ent).sub).2.2)):=by
 rw[Zf5 h1,ZaB]
 unfold ZaS
 split
 ·rename_i q a hq ha
  have:a0 x=a.2.2.2:=by simp[a0,ha]
  rw[this]
 ·rename_i hno
  exfalso
  cases hx:x.ls with
  | nil=>rw[hx]at h1;cases h1
  | cons p l=>cases l with
   | cons _ _=>rw[hx]at h1;simp at h1
   | nil=>cases hy:x.al with
    | nil=>rw[hy]at h2;cases h2
    | cons a l=>cases l with
     | nil=>exact hno _ _ hx hy
     | cons _ _=>rw[hy]at h2;simp at h2
def ZmD (v:Zp) (t:Tab) (n:Nat):Prop:=∀w x,Zw w v t→Qe w n x→Calls prog 79 #[.agg (v.cells t),.agg x.cells.toArray] w (ZE (.bool (isP t n x)) w)
theorem Zoo (w:World) (v:Zp) (t:Tab) (x:ExV) (n:Nat) (ih:ZmD v t n) (hT:Zw w v t) (hx:Qe w (n+1) x):Calls prog 143 #[.agg (v.cells t),.agg x.cells.toArray] w (ZE (.bool (ZaS (isP t n) t x)) w):=by
 have HE:=hh (fun w' (hk:Kept [] w w')=>YK w' v t x (hT.kept hk))
 have HP:=hh (fun w' m (hk:Kept [] w w')=>ZaA w' v t m (hT.kept hk))
 have HG:=hh (fun w' (hk:Kept [] w w') hl=>Zdv w' v t x n (hT.kept hk) (hx.kept hk) hl)
 have HS:=hh (fun w' (hk:Kept [] w w') y hy=>ih w' y (hT.kept hk) hy)
 have HX:=hh hx
 have q1:=hx.2.2.2.2.1
 have q2:=hx.2.2.2.2.2.1
 have HN1:=hh (fun h=>Zin (I:=isP t n) (t:=t) (x:=x) h)
 have HN2:=hh (fun h=>Zim (I:=isP t n) (t:=t) (x:=x) h)
 have HY:=hh (fun h1 h2=>Zil (I:=isP t n) (t:=t) (x:=x) h1 h2)
 unfold Zp.cells at HE HP HG HS
 unfold Zp.cells
 clear hT hx ih
 by_cases k1:x.ls.length=1
 rotate_left
 ·have HW:=hh (HN1.out k1)
  have k12:((x.ls.length:Int) != 1)=true:=by simp;omega
  clear HE HP HG HS HX HN1 HN2 HY k1
  go_enter func143,ntmps143
  go_wp2_with fail
  refine Ze 20 0 (fun _=> .cells #[] 0) (by kernel_rfl) (by kernel_rfl) (fun i o h1 h2=>by omega) (fun _ _ _ _ _ h=>h) ?_;apply Exists.intro;refine⟨fun U hU hN=>?_,?_⟩;simp only[List.take_succ_cons,List.take_zero]
  ·repeat(go_big_quiet_step (fail))
   refine wpQuiet_nil ?_
   exact rfl
  simp only[List.drop_succ_cons,List.drop_zero,List.take_succ_cons,List.take_zero]
  intro w4 hk4 _
  haveI p_w4:Zb w4 _:=⟨hk4⟩
  go_wp2_with fail
  rw[HW.out]
  exact Za rfl (Zj results143 (Zh rfl)) kp
 have k12:((x.ls.length:Int) != 1)=false:=by simp;omega
 by_cases k2:x.al.length=1
 rotate_left
 ·have HW:=hh (HN2.out k2)
  have k22:((x.al.length:Int) != 1)=true:=by simp;omega
  clear HE HP HG HS HX HN1 HN2 HY k1 k2
  go_enter func143,ntmps143
  go_wp2_with fail
  refine Ze 20 0 (fun _=> .cells #[] 0) (by kernel_rfl) (by kernel_rfl) (fun i o h1 h2=>by omega) (fun _ _ _ _ _ h=>h) ?_;apply Exists.intro;refine⟨fun U hU hN=>?_,?_⟩;simp only[List.take_succ_cons,List.take_zero]
  ·repeat(go_big_quiet_step (fail))
   refine wpQuiet_nil ?_
   exact rfl
  simp only[List.drop_succ_cons,List.drop_zero,List.take_succ_cons,List.take_zero]
  intro w4 hk4 _
  haveI p_w4:Zb w4 _:=⟨hk4⟩
  go_wp2_with fail
  rw[HW.out]
  exact Za rfl (Zj results143 (Zh rfl)) kp
 have k22:((x.al.length:Int) != 1)=false:=by simp;omega
 have HW:=hh (HY.out k1 k2)
 obtain⟨b0,o0,ha,hat,hia⟩:=ZsM HX.out (by omega)
 have HIA:=hh hia
 have HG2:=hh (fun w' hk=>HG.out w' hk (by omega))
 have l2:(0:Int) < (x.al.length:Int):=by omega
 clear HN1 HN2 HY HX HG k1 k2 hia
 go_enter func143,ntmps143
 go_wp2_with fail
 refine Ze 20 0 (fun _=> .cells #[] 0) (by kernel_rfl) (by kernel_rfl) (fun i o h1 h2=>by omega) (fun _ _ _ _ _ h=>h) ?_;apply Exists.intro;refine⟨fun U hU hN=>?_,?_⟩;simp only[List.take_succ_cons,List.take_zero]
 ·repeat(go_big_quiet_step (exact Calls.headV hU (HS.out _ (Kept.trans kp (Zs.prop _)) _ (HIA.out.kept (Kept.trans kp (Zs.prop _))))))
  refine wpQuiet_nil ?_
  exact rfl
 simp only[List.drop_succ_cons,List.drop_zero,List.take_succ_cons,List.take_zero]
 intro w4 hk4 _
 haveI p_w4:Zb w4 _:=⟨hk4⟩
 clear hk4 hat HS HIA
 cases hi:isP t n (a0 x)
 ·rw[hi]at HW
  clear HE HP HG2
  go_wp2_with fail
  rw[HW.out]
  exact Za rfl (Zj results143 (Zh rfl)) kp
 rw[hi]at HW
 unfold avV at HG2
 go_wp2_with fail
 refine nxt (HG2.out _ kp) fun w5 p_w5=>?_;have hz_w5:=szk w w5
 cases hg:(QU t x).2.2
 rotate_left
 ·rw[hg]at HW
  clear HE HP HG2
  go_wp2_with fail
  rw[HW.out]
  exact Za rfl (Zj results143 (Zh rfl)) kp
 rw[hg]at HW
 clear HG2
 unfold ZqQ at HE
 go_wp2_with fail
 refine nxt (HE.out _ kp) fun w6 p_w6=>?_;have hz_w6:=szk w w6
 clear HE
 generalize Yn t x.ent=y at*
 unfold pvV at HP
 go_wp2_with fail
 refine nxt (HP.out _ _ kp) fun w7 p_w7=>?_;have hz_w7:=szk w w7
 clear HP
 go_wp2_with fail
 refine nxt (Zb2 _ _) fun w8 p_w8=>?_;have hz_w8:=szk w w8
 cases hy:Yo y
 ·rw[hy]at HW
  go_wp2_with fail
  rw[HW.out]
  exact Za rfl (Zj results143 (Zh rfl)) kp
 ·rw[hy]at HW
  go_wp2_with fail
  rw[HW.out]
  exact Za rfl (Zj results143 (Zh rfl)) kp
def ZbB (t:Tab) (x:ExV):Bd×Bool:=
 if x.ls.length=1 then
  if(Qc t (l0 x)).2 then((Qc t (l0 x)).1,x.s.toList == [70,105,114,115,116] || x.s.toList == [76,97,115,116] || x.s.toList == [76,101,110,103,116,104])
  else((Yr t (l0 x)).1,(Yr t (l0 x)).2.2 && (x.s.toList == [70,105,114,115,116] || x.s.toList == [76,97,115,116]))
 else((0,0),false)
theorem Zq6 {t:Tab} {x:ExV} (h:x.ls.length≠1):ZbB t x=((0,0),false):=by unfold ZbB;rw[if_neg h]
theorem Zq8 {t:Tab} {x:ExV} (h:x.ls.length=1) (hi:(Qc t (l0 x)).2=true):ZbB t x=((Qc t (l0 x)).1,x.s.toList == [70,105,114,115,116] || x.s.toList == [76,97,115,116] || x.s.toList == [76,101,110,103,116,104]):=by unfold ZbB;rw[if_pos h,if_pos hi]
theorem Zq7 {t:Tab} {x:ExV} (h:x.ls.length=1) (hi:(Qc t (l0 x)).2=false):ZbB t x=((Yr t (l0 x)).1,(Yr t (l0 x)).2.2 && (x.s.toList == [70,105,114,115,116] || x.s.toList == [76,97,115,116])):=by unfold ZbB;rw[if_pos h,if_neg (by rw[hi];simp)]
theorem ZaT (w:World) (v:Zp) (t:Tab) (x:ExV) (n:Nat) (hT:Zw w v t) (hx:Qe w (n+1) x):Calls prog 142 #[.agg (v.cells t),.agg x.cells.toArray] w (ZE (bvV (ZbB t x)) w):=by
 have HI:=hh (fun w' m (hk:Kept [] w w')=>Zk3 w' v t m (hT.kept hk))
 have HP:=hh (fun w' m (hk:Kept [] w w')=>Jp w' v t m (hT.kept hk))
 have HX:=hh hx
 have q1:=hx.2.2.2.2.1
 have HNO:=hh (fun h=>Zq6 (t:=t) (x:=x) h)
 have HIX:=hh (fun h1 h2=>Zq8 (t:=t) (x:=x) h1 h2)
 have HMK:=hh (fun h1 h2=>Zq7 (t:=t) (x:=x) h1 h2)
 unfold Zp.cells at HP HI
 unfold Zp.cells
 clear hT hx
 by_cases kl:x.ls.length=1
 rotate_left
 ·have HW:Hid (ZbB t x=((0,0),false)):=HNO.out kl
  have kl2:((x.ls.length:Int) != 1)=true:=by simp;omega
  clear HNO HIX HMK HP HI HX kl
  go_enter func142,ntmps142
  go_wp2_with fail
  rw[HW.out]
  exact Za rfl (Qm results142 (Z0 rfl inferInstance) (Zh rfl)) kp
 obtain⟨b0,o0,ha,hat,_⟩:=ZaO HX.out (by omega:0 < x.ls.length)
 have kl2:((x.ls.length:Int) != 1)=false:=by simp;omega
 have hl2:(0:Int) < (x.ls.length:Int):=by omega
 have HIX2:=hh (fun h=>HIX.out kl h)
 have HMK2:=hh (fun h=>HMK.out kl h)
 generalize l0 x=p at*
 clear HNO HIX HMK HX kl
 unfold bvV at HI
 go_enter func142,ntmps142
 go_wp2_with fail
 refine Ze 9 1 (fun _=> .cells #[.int .i64 0,.int .i64 0] 150) (by kernel_rfl) (by kernel_rfl) (fun i o h1 h2 h3=>by obtain rfl:i=9:=(by omega);all_goals(obtain rfl:=Option.some.inj h3;exact Zab rfl rfl Tryz.zeroBd)) (fun _ _ _ _ _ h=>h) ?_;apply Exists.intro;refine⟨fun U hU hN=>?_,?_⟩;simp only[List.take_succ_cons,List.take_zero]
 ·repeat(go_big_quiet_step (exact Calls.headV hU (HI.out _ _ (Kept.trans kp (Zs.prop _)))))
  refine wpQuiet_nil ?_
  exact rfl
 simp only[List.drop_succ_cons,List.drop_zero,List.take_succ_cons,List.take_zero]
 intro B1 hB1 _ w4 hk4 hh
 haveI p_w4:Zb w4 _:=⟨hk4⟩
 haveI bx1:Zc w4 B1 150 #[.int .i64 0,.int .i64 0]:=Q8 hh (by simp)
 haveI g1:Z2 B1 _:=⟨hB1⟩
 have hz1:w.heap.size≤B1:=Nat.le_trans (Kept.size (X:=[]) kp) hB1
 clear hk4 hh HI
 cases hi:(Qc t p).2
 ·have HW:=hh (HMK2.out hi)
  clear HMK2 HIX2
  unfold pvV at HP
  go_wp2_with fail
  refine Zm ?_
  intro w6 hw6
  haveI p_w6:Zb w6 _:=⟨by rw[hw6];exact Kept.setB (Kept.setB p_w4.kept _ _ _ hB1) _ _ _ hB1⟩
  haveI by1:Zc w6 B1 _ _:=by rw[hw6];infer_instance
  clear hw6 p_w4 bx1 hB1
  refine Ze 10 2 (fun _=> .cells #[.int .i64 0,.int .i64 0] 150) (by kernel_rfl) (by kernel_rfl) (fun i o h1 h2 h3=>by obtain rfl | rfl:i=10∨i=11:=(by omega);all_goals(obtain rfl:=Option.some.inj h3;exact Zab rfl rfl Tryz.zeroBd)) (fun _ _ _ _ _ h=>h) ?_;apply Exists.intro;refine⟨fun U hU hN=>?_,?_⟩;simp only[List.take_succ_cons,List.take_zero]
  ·repeat(go_big_quiet_step (exact Calls.headV hU (HP.out _ _ (Kept.trans kp (Zs.prop _)))))
   refine wpQuiet_nil ?_
   exact rfl
  simp only[List.drop_succ_cons,List.drop_zero,List.take_succ_cons,List.take_zero]
  intro B2 hB2 _ B3 hB3 hne w5 hk5 hh
  haveI p_w5:Zb w5 _:=⟨hk5⟩
  haveI bx2:Zc w5 B2 150 #[.int .i64 0,.int .i64 0]:=Q8 hh (by simp)
  haveI bx3:Zc w5 B3 150 #[.int .i64 0,.int .i64 0]:=Q8 hh (by simp)
  have hne2:=ZdW hne
  haveI ap1:Qf B2 B3:=⟨hne2⟩
  haveI ap2:Qf B3 B2:=⟨hne2.symm⟩
  haveI g2:Z2 B2 _:=⟨hB2⟩
  have hz2:w.heap.size≤B2:=Nat.le_trans (Kept.size (X:=[]) kp) hB2
  have hz3:w.heap.size≤B3:=Nat.le_trans (Kept.size (X:=[]) kp) hB3
  haveI g3:Z2 B3 _:=⟨hB3⟩
  clear hk5 hh hne HP
  go_wp2_with fail
  cases hm:(Yr t p).2.2
  ·rw[hm]at HW
   go_region
   go_wp2_with fail
   rw[HW.out]
   exact Za rfl (Qm results142 (Z0 rfl inferInstance) (Zh rfl)) kp
  rw[hm]at HW
  cases s1:(x.s.toList == [70,105,114,115,116])
  ·rw[s1]at HW
   go_region
   go_wp2_with fail
   rw[HW.out]
   exact Za rfl (Qm results142 (Z0 rfl inferInstance) (Zh rfl)) kp
  ·rw[s1]at HW
   go_region
   go_wp2_with fail
   rw[HW.out]
   exact Za rfl (Qm results142 (Z0 rfl inferInstance) (Zh rfl)) kp
 ·have HW:=hh (HIX2.out hi)
  clear HMK2 HIX2 HP
  go_wp2_with fail
  cases s1:(x.s.toList == [70,105,114,115,116])
  ·cases s2:(x.s.toList == [76,97,115,116])
   ·rw[s1,s2]at HW
    go_region
    go_wp2_with fail
    rw[HW.out]
    exact Za rfl (Qm results142 (Z0 rfl inferInstance) (Zh rfl)) kp
   ·rw[s1,s2]at HW
    go_region
    go_wp2_with fail
    rw[HW.out]
    exact Za rfl (Qm results142 (Z0 rfl inferInstance) (Zh rfl)) kp
  ·rw[s1]at HW
   go_region
   go_wp2_with fail
   rw[HW.out]
   exact Za rfl (Qm results142 (Z0 rfl inferInstance) (Zh rfl)) kp
end
end Go.Proofs.YtfaecpkocgcofaaGreatDoor
