/- Lemmas for ResolveSettles, printed small: K26 S10 S11 S12. -/
import Derived.Test.YtfaecpkocgcofaaGreatDoorZ8
import Derived.Shelf.Abstract
set_option linter.all false
set_option maxRecDepth 100000
set_option maxHeartbeats 8000000
open Go.Proofs.Tryz
namespace Go.Proofs.YtfaecpkocgcofaaGreatDoor
section
open Go.RowKit
section
variable {P:Program} {md:Region.Mode} {ops:Array Oper} {Q:Exit→Act→World→Prop} {w0:World}
theorem Ze0 {done:Array Bool} {p:Nat×PSz}:∀{H0:List (Nat×PSz)},(∀j t,(j,t)∈H0→done.getD j true=true)→Zc7 done (H0++ [p])≤1
 | [],_=>by obtain⟨i,s⟩:=p;simp only[List.nil_append,Zc7];split <;> omega
 | (i,s)::r,h=>by
  have ih:=Ze0 (p:=p) (H0:=r) (fun j t hm=>h j t (by simp[hm]))
  rw[List.cons_append,Zc7,h i s (by simp)]
  simpa using ih
def ZfZ (l:List Oper) (H0:List (Nat×PSz)) (f:Nat) (sf:PSz) (E:List Nat) (t0:Nat) (T:List Nat) (size:Nat):Bool:=
 ZlI l (H0++ [(f,sf)]) && ((H0++ [(f,sf)]).all fun p=>decide (p.2.d < size) && decide (p.1 < l.length) && !E.contains p.1) && QC (((H0++ [(f,sf)]).map (·.2)).map (·.d)) && QC ((H0++ [(f,sf)]).map (·.1)) && ZlL .any l (H0++ [(f,sf)]) (H0++ [(f,sf)]) &&
 ((H0.map (·.1)).all fun i=>ZnM .any l.toArray ((H0++ [(f,sf)]).map (·.1)++E) i) && Zds .any l E [] (H0++ [(f,sf)]) && ((t0::T).all fun i=>decide (i < l.length)) && (E.all fun i=>decide (i < l.length)) &&
 (ZhJ .any l.toArray (t0::T) (QN ((H0++ [(f,sf)]).map (·.1)) E l.length) && (!(H0.map (·.1)).contains f && (decide (Region.ready .any l.toArray (QN (H0.map (·.1)) E l.length)= [f,t0]) && ZhJ .any l.toArray (f::T) ((QN (H0.map (·.1)) E l.length).setIfInBounds t0 true))))
theorem Zvz {l:List Oper} {H H0:List (Nat×PSz)} {f:Nat} {sf:PSz} (hH:H=H0++ [(f,sf)]) {E T:List Nat} {t0:Nat} {a:Act} (hB:ZfZ l H0 f sf E t0 T a.tmps.size=true)
 (hO:ZiT P l Q w0 (H.map (·.2)) (fun vs=>fill ((H.map (·.2)).map (·.d)) vs a) H)
 (hT:∀vs Z w',Kept [] w0 w'→zIn w0 Z w'→Zi vs Z w' (H.map (·.2))→wpList P l.toArray Q (ZW l (t0::T)) (fill ((H.map (·.2)).map (·.d)) vs a) w')
 (hT2:∀vs Z w',Kept [] w0 w'→zIn w0 Z w'→Zi vs Z w' (H0.map (·.2))→wpList P l.toArray Q (ZW l (t0::f::T)) (fill ((H.map (·.2)).map (·.d)) vs a) w'):
 ∀(k:Nat) (done:Array Bool) (vs:Nat→Value) (Z:List Nat) (w':World),Qa .any l.toArray done→done.size=l.length→(∀t,t∉H.map (·.1)→t < l.length→done.getD t false=E.contains t)→Kept [] w0 w'→zIn w0 Z w'→
  (∀i s,(i,s)∈H→done.getD i false=true→s.sp.p Z (vs s.d) w')→Zc7 done H=k→wpAny P .any l.toArray Q (k+(T.length+1)) done (fill ((H.map (·.2)).map (·.d)) vs a) w':=by
 unfold ZfZ at hB
 rw[←hH]at hB
 simp only[Bool.and_eq_true]at hB
 obtain⟨⟨⟨⟨⟨⟨⟨⟨⟨b1,b2⟩,b3⟩,b4⟩,b5⟩,b6⟩,b7⟩,b8⟩,b10⟩,b9,c1,c2,c3⟩:=hB
 have b2':∀i s,(i,s)∈H→s.d < a.tmps.size∧i < l.length∧i∉E:=fun i s hm=>by
  have:=List.all_eq_true.1 b2 (i,s) hm
  simpa [and_assoc]using this
 intro k
 induction k with
 | zero=>
  intro done vs Z w' hc hs ht hk hz hp h0
  have hd:done=QN (H.map (·.1)) E l.length:=by
   apply Array.ext
   ·simp[QN,hs]
   ·intro i h1 h2
    have e1:done.getD i true=done[i]:=by simp[Array.getD,h1]
    have e2:done.getD i false=done[i]:=by simp[Array.getD,h1]
    by_cases c:i∈H.map (·.1)
    ·obtain⟨⟨i',s⟩,hm,rfl⟩:=List.mem_map.1 c
     rw[←e1,JG h0 i' s hm]
     have:(H.map (·.1)).contains i'=true:=by rw[List.contains_iff_mem];exact c
     simp only[QN,List.getElem_toArray,List.getElem_map,List.getElem_range,this,Bool.true_or]
    ·rw[←e2,ht i c (by omega)]
     have:(H.map (·.1)).contains i=false:=by
      cases h:(H.map (·.1)).contains i with
      | false=>rfl
      | true=>rw[List.contains_iff_mem]at h;exact absurd h c
     simp only[QN,List.getElem_toArray,List.getElem_map,List.getElem_range,this,Bool.false_or]
  have h1:=hT vs Z w' hk hz (YY fun i s hi=>hp i s hi (by
   have:=JG h0 i s hi
   have hlt:i < done.size:=by have:=(b2' i s hi).2.1;omega
   simpa [Array.getD,hlt]using this))
  subst hd
  have hall:∀i∈t0::T,i < l.length:=fun i hi=>of_decide_eq_true (List.all_eq_true.1 b8 i hi)
  have e0:0+(T.length+1)=T.length+1:=by omega
  rw[e0]
  clear h0 hp hs ht hc hO hT b1 b2 b3 b4 b5 b6 b7 b10 b2' hT2 c1 c2 c3
  generalize QN (H.map (·.1)) E l.length=cn at*
  generalize fill ((H.map (·.2)).map (·.d)) vs a=fa at*
  exact Qi rfl (t0::T) cn fa w' hall b9 h1
 | succ k ih=>
  intro done vs Z w' hc hs ht hk hz hp h0
  obtain⟨A,m,sm,B,hAB,hm2,hm3⟩:=Zb1 (done:=done) (H:=H) (by omega)
  have hmH:(m,sm)∈H:=by rw[hAB];simp
  have hml:m < l.length:=(b2' m sm hmH).2.1
  have hmr:m∈Region.ready .any l.toArray done:=by
   obtain⟨o,ho,hed⟩:=Zcz (md:= .any) (A:=A) (by rw[←hAB];exact b7)
   refine mem_ready.2 ⟨hm2,o,by simpa using ho,fun e he hb=>?_⟩
   rcases hed e he hb with h1 | h1 | ⟨t,h1⟩
   ·have hlt:e.on < l.length:=by
     have:=List.all_eq_true.1 b10 e.on h1
     simpa using this
    by_cases c:e.on∈H.map (·.1)
    ·obtain⟨⟨i',s⟩,hm,he2⟩:=List.mem_map.1 c
     simp only at he2
     exact absurd h1 (by rw[←he2];exact(b2' i' s hm).2.2)
    ·rw[ht _ c hlt]
     rw[List.contains_iff_mem]
     exact h1
   ·simp at h1
   ·have h3:=hm3 _ _ h1
    have hlt:e.on < done.size:=by have:=(b2' e.on t (by rw[hAB];simp[h1])).2.1;omega
    simpa [Array.getD,hlt]using h3
  rw[show k+1+(T.length+1)=(k+(T.length+1))+1 by omega]
  refine⟨fun h=>by rw[h]at hmr;simp at hmr,fun i hi=>?_⟩
  obtain⟨hun,o,ho,hall⟩:=mem_ready.1 hi
  have ho1:l[i]? =some o:=by simpa using ho
  have hil:i < l.length:=(List.getElem?_eq_some_iff.1 ho1).1
  have hin:i∈H.map (·.1)∨(i=t0∧done=QN (H0.map (·.1)) E l.length∧k=0∧∀j t,(j,t)∈H0→done.getD j true=true):=by
   by_cases hall0:∀j t,(j,t)∈H0→done.getD j true=true
   ·have hk0:k=0:=by
     have:=Ze0 (p:=(f,sf)) hall0
     rw[←hH,h0]at this
     omega
    have hmf:m=f:=by
     rw[hH]at hmH
     rcases List.mem_append.1 hmH with h1 | h1
     ·rw[hall0 _ _ h1]at hm2;cases hm2
     ·simp at h1;exact h1.1
    have hfd:done.getD f true=false:=by rw[←hmf];exact hm2
    have hd:done=QN (H0.map (·.1)) E l.length:=by
     apply Array.ext
     ·simp[QN,hs]
     ·intro q h1 h2
      have e1:done.getD q true=done[q]:=by simp[Array.getD,h1]
      have e2:done.getD q false=done[q]:=by simp[Array.getD,h1]
      by_cases c:q∈H0.map (·.1)
      ·obtain⟨⟨q',s⟩,hm,rfl⟩:=List.mem_map.1 c
       rw[←e1,hall0 q' s hm]
       have:(H0.map (·.1)).contains q'=true:=by rw[List.contains_iff_mem];exact c
       simp only[QN,List.getElem_toArray,List.getElem_map,List.getElem_range,this,Bool.true_or]
      ·have h3:(H0.map (·.1)).contains q=false:=by
        cases h:(H0.map (·.1)).contains q with
        | false=>rfl
        | true=>rw[List.contains_iff_mem]at h;exact absurd h c
       by_cases hqf:q=f
       ·subst hqf
        have hE:E.contains q=false:=by
         cases h:E.contains q with
         | false=>rfl
         | true=>rw[List.contains_iff_mem]at h;exact absurd h (b2' q sf (by rw[hH];simp)).2.2
        rw[←e1,hfd]
        simp only[QN,List.getElem_toArray,List.getElem_map,List.getElem_range,h3,hE,Bool.or_self]
       ·rw[←e2,ht q (by rw[hH,List.map_append,List.mem_append];rintro(h | h);exact c h;simp at h;exact hqf h) (by omega)]
        simp only[QN,List.getElem_toArray,List.getElem_map,List.getElem_range,h3,Bool.false_or]
    have hr:=of_decide_eq_true c2
    rw[←hd]at hr
    have hi2:=hi
    rw[hr]at hi2
    rcases List.mem_cons.1 hi2 with rfl | h1
    ·exact .inl (by rw[hH];simp)
    ·exact .inr ⟨by simpa using h1,hd,hk0,hall0⟩
   ·left
    have⟨j,t,hj,hjd⟩:∃j t,(j,t)∈H0∧done.getD j true=false:=by
     apply Classical.byContradiction
     intro hno
     refine hall0 fun j t hj=>?_
     cases h:done.getD j true with
     | true=>rfl
     | false=>exact absurd ⟨j,t,hj,h⟩ hno
    apply Classical.byContradiction
    intro hno
    by_cases hE:i∈E
    ·have h1:=ht i hno hil
     have hlt:i < done.size:=by omega
     have:done.getD i false=done.getD i true:=by simp[Array.getD,hlt]
     rw[this,hun]at h1
     have h2:E.contains i=true:=by rw[List.contains_iff_mem];exact hE
     rw[h2]at h1
     cases h1
    ·have h6:=List.all_eq_true.1 b6 j (List.mem_map.2 ⟨(j,t),hj,rfl⟩)
     exact absurd hi (Zbc h6 hc hjd i (by simp only[List.mem_append,not_or,←hH];exact⟨hno,hE⟩))
  rcases hin with hin | ⟨rfl,hd,rfl,hall0⟩
  case inr=>
   have hgv:=hT2 vs Z w' hk hz (YY fun j t hj=>hp j t (by rw[hH];simp[hj]) (by
    have:=hall0 j t hj
    have hlt:j < done.size:=by have:=(b2' j t (by rw[hH];simp[hj])).2.1;omega
    simpa [Array.getD,hlt]using this))
   have hp2:ZW l (i::f::T)=o::ZW l (f::T):=by simp[ZW,ho1]
   rw[hp2]at hgv
   have hlt2:∀x∈f::T,x < l.length:=fun x hx=>by
    rcases List.mem_cons.1 hx with rfl | h1
    ·exact(b2' x sf (by rw[hH];simp)).2.1
    ·exact of_decide_eq_true (List.all_eq_true.1 b8 x (by simp[h1]))
   have hw:wpOp P l.toArray Q i (wpList P l.toArray Q (ZW l (f::T))) (fill ((H.map (·.2)).map (·.d)) vs a) w':=by unfold wpOp;simp only[ho];exact hgv
   have e0:0+(T.length+1)=(f::T).length:=by simp
   rw[e0]
   subst hd
   clear hT hT2 hO hp
   generalize QN (H0.map (·.1)) E l.length=cn at*
   exact wpOp_mono (fun a' w'' h'=>Qi rfl (f::T) _ a' w'' hlt2 c3 h') hw
  obtain⟨⟨i',s⟩,hsi,he1⟩:=List.mem_map.1 hin
  simp only at he1
  subst he1
  obtain⟨o',ho',hod⟩:=Zeg b1 hsi
  obtain rfl:o'=o:=Option.some.inj (ho'.symm.trans ho1)
  have hgv:ZG (H.map (·.2)) vs Z w' s.deps:=ZaL fun d hd=>by
   obtain⟨e,he,hb,t,ht1,ht2⟩:=Zej b5 hsi ho1 d hd
   have h1:=hp _ t ht1 (hall e he hb)
   rw[←ht2,Zh3 b3 ht1]
   exact h1
  have hone:=ZdS hO hsi vs Z w' hk hz hgv
  rw[show ZW l [i']= [o'] by simp[ZW,ho1]]at hone
  have h2:=Zae (P:=P) (ops:=l.toArray) (Q:=Q) ho (fun a' w'' h=>h.2.1) hone
  refine wpOp_mono ?_ h2
  rintro a' w'' ⟨⟨hk2,_,Z',hzn,hps⟩,v,hv⟩
  have hdm:s.d∈(H.map (·.2)).map (·.d):=List.mem_map.2 ⟨s,List.mem_map.2 ⟨(i',s),hsi,rfl⟩,rfl⟩
  have hdl:s.d < a.tmps.size:=(b2' i' s hsi).1
  rw[hod,Zea hdm]at hv
  subst hv
  rw[Zcv hdm hdl]at hps hzn
  refine ih (done.setIfInBounds i' true) (Zjt vs s.d v) Z' w'' (hc.set hi) (by simpa using hs) (fun t htn htl=>?_) (hk.trans hk2) (hzn.in hz hk.size hk2.size) (fun j t htj hdj=>?_) ?_
  ·have:=ht t htn htl
   have hne:i'≠t:=fun e=>htn (by rw[←e];exact hin)
   rw[getD_set_ne false hne]
   exact this
  ·by_cases e:j=i'
   ·subst e
    obtain rfl:=ZhY b4 hsi htj
    exact hps
   ·have hne:t.d≠s.d:=fun h=>e (ZhZ b3 b4 htj hsi h)
    have hdj2:done.getD j false=true:=by rwa [getD_set_ne false (fun h=>e h.symm)]at hdj
    have h1:=hp j t htj hdj2
    have h3:Zjt vs s.d v t.d=vs t.d:=by simp[Zjt,hne]
    rw[h3]
    exact t.sp.st _ _ _ _ _ h1 hk2 hzn.sub hzn.up
  ·have:=ZdE hun b4 hsi
   omega
theorem ZH {id:Nat} {a:Act} {w:World} {l:List Oper} (E:List (Nat×Nat×Value)) (H0:List (Nat×PSz)) (f:Nat) (sf:PSz) (t0:Nat) (T:List Nat) (hm:P.follows .mixedOrders=true)
 (hB:ZfZ l H0 f sf (E.map (·.1)) t0 T a.tmps.size=true) (hN:(T.length+1)+(H0.length+1+E.length)=l.length∧Region.noSelect l.toArray=true) (hE:Zf0 l (E.map fun e=>(e.1,e.2.1)) (Array.replicate l.length false)=true) (hQ:∀(d:Tmp) v c a w,Q (.panic c) (a.put (some d) v) w→Q (.panic c) a w)
 (he:Zib l E a) {H:List (Nat×PSz)} (hH:H=H0++ [(f,sf)])
 (h:∃A:(Nat→Value)→Act,(∀vs,Jj vs ((H.map (·.2)).map (·.d)) (Q5 E a)=A vs)∧ZiT P l Q w (H.map (·.2)) A H∧
  (∀vs Z w',Kept [] w w'→zIn w Z w'→Zi vs Z w' (H.map (·.2))→wpList P l.toArray Q (ZW l (t0::T)) (A vs) w')∧
  ∀vs Z w',Kept [] w w'→zIn w Z w'→Zi vs Z w' (H0.map (·.2))→wpList P l.toArray Q (ZW l (t0::f::T)) (A vs) w'):
 (Code.region id l.toArray true).wp P Q a w:=by
 obtain⟨A,hA,h1,h2,h2b⟩:=h
 have hA2:A=fun vs=>fill ((H.map (·.2)).map (·.d)) vs (Q5 E a):=by
  funext vs
  rw[ZaN]
  exact(hA vs).symm
 subst hA2
 have hsz:l.toArray.size=l.length:=by simp
 have hHl:H.length=H0.length+1:=by rw[hH];simp
 refine wp_region_any hm ?_
 rw[hsz]
 have hps:∀{E:List (Nat×Nat×Value)} {a:Act},(Q5 E a).tmps.size=a.tmps.size:=by
  intro E
  induction E with
  | nil=>intro a;rfl
  | cons x r ih=>
   intro a
   obtain⟨i,d,v⟩:=x
   unfold Q5
   rw[ih]
   simp[Act.put]
 have hds:∀{E:List (Nat×Nat×Value)} {done:Array Bool},(Jf E done).size=done.size:=fun{E done}=>Zao
 have hlen:l.length=((H.length+(T.length+1))+E.length):=by omega
 have hnd:QC (H.map (·.1))=true:=by
  unfold ZfZ at hB
  rw[←hH]at hB
  simp only[Bool.and_eq_true]at hB
  exact hB.1.1.1.1.1.1.2
 have hHE:∀i s,(i,s)∈H→i < l.length∧i∉E.map (·.1):=fun i s hm=>by
  unfold ZfZ at hB
  rw[←hH]at hB
  simp only[Bool.and_eq_true]at hB
  have:=List.all_eq_true.1 hB.1.1.1.1.1.1.1.1.2 (i,s) hm
  simp at this
  exact⟨this.1.2,by simpa using this.2⟩
 rw[show l.length=((H.length+(T.length+1))+E.length)from hlen]
 rw[←hlen]
 rw[show(Array.replicate l.length false)=Array.replicate l.length false from rfl]
 have key:=Zaf hQ hN.2 (E:=E) (done:=Array.replicate l.length false) (a:=a) (w:={w with drawn:=w.drawn+1}) (k:=H.length+(T.length+1)) hE he (by simpa using Qa.none (md:= .any) (ops:=l.toArray)) (fun hc=>by
  have hun:∀{G:List (Nat×PSz)},(∀i s,(i,s)∈G→i < l.length∧i∉E.map (·.1))→Zc7 (Jf E (Array.replicate l.length false)) G=G.length:=by
   intro G
   induction G with
   | nil=>intro _;rfl
   | cons p r ih=>
    intro hg
    obtain⟨i,s⟩:=p
    obtain⟨h3,h4⟩:=hg i s (by simp)
    have e1:=Yl (E:=E) (done:=Array.replicate l.length false) i (by simpa using h3)
    have e2:(Jf E (Array.replicate l.length false)).getD i true=(Jf E (Array.replicate l.length false)).getD i false:=by
     have:i < (Jf E (Array.replicate l.length false)).size:=by rw[hds];simpa using h3
     simp[Array.getD,this]
    have e3:(E.map (·.1)).contains i=false:=by
     cases h:(E.map (·.1)).contains i with
     | false=>rfl
     | true=>rw[List.contains_iff_mem]at h;exact absurd h h4
    unfold Zc7
    rw[ih (fun i s hm=>hg i s (by simp[hm])),e2,e1,e3]
    simp[Array.getD,h3]
    omega
  have:=Zvz (P:=P) hH (Q:=Q) (w0:=w) (a:=Q5 E a) (T:=T) (t0:=t0) (E:=E.map (·.1)) (by rw[hps];exact hB) h1 h2 h2b H.length (Jf E (Array.replicate l.length false)) (fun s=>(Q5 E a).tmps.getD s undef) [] {w with drawn:=w.drawn+1} hc (by rw[hds];simp)
   (fun t _ htl=>by rw[Yl t (by simpa using htl)];simp[Array.getD,htl]) ⟨rfl,rfl,rfl,Nat.le_refl _,fun _ _ _=>rfl⟩ (fun q hq=>by simp at hq) (fun i s hm hd=>by
    exfalso
    obtain⟨h3,h4⟩:=hHE i s hm
    rw[Yl i (by simpa using h3)]at hd
    have e3:(E.map (·.1)).contains i=false:=by
     cases h:(E.map (·.1)).contains i with
     | false=>rfl
     | true=>rw[List.contains_iff_mem]at h;exact absurd h h4
    rw[e3]at hd
    simp[Array.getD,h3]at hd) (hun hHE)
  rw[Zcw]at this
  exact this)
 rw[show H.length+(T.length+1)+E.length=l.length by omega]at key
 exact key
end
@[go_sem] theorem Tryz.mkFunc (fn:Fn) (first cap:Array Value) (w:World):(Instr.makeFunc fn first cap).run prog w= .ok (.func fn first cap) w:=rfl
theorem Zl7 (p:ExV→Bool):∀l:List ExV,(l.any fun y=>!p y)= !l.all p
 | []=>rfl
 | y::l=>by simp only[List.any_cons,List.all_cons,Zl7 p l,Bool.not_and]
def ZsV (b:Bool) (w:World) (e:Ending) (w':World):Prop:=∃i:Int,e= .returned (.int .i64 i)∧decide (0≤i)=b∧Kept [] w w'
theorem Zi5 (w:World) (a:Option Addr) (c:Nat) (xs:List ExV) (hm:xs.length≤140737488355328) (hI:Zo ExV 9 ExV.cells w a xs) (K:Nat) (caps:Array Value) (p:ExV→Bool) (eg:∀args w,(callFunc K args).run prog w= .ok (.enter K args) w)
 (hp:∀W x,Kept [] w W→x∈xs→Calls prog K (#[.agg x.cells.toArray]++caps) W (J0 (p x) W)):
 Calls prog 127 #[.slice a xs.length c,.func (.func K) #[] caps] w (ZsV (xs.any p) w):=by
 have HI:=hh hI
 have HP:=hh hp
 clear hI hp
 go_enter func127,ntmps127
 go_wp2_with fail
 go_loopw [8] (fun i wr=>∃k:Nat,k≤xs.length∧i= .int .i64 k∧(xs.take k).any p=false∧Kept [] w wr) (fun i _=>xs.length - (intOf i).toNat)
 case atStart=>exact⟨0,Nat.zero_le _,rfl,rfl,Kept.refl _ _⟩
 case round=>
  obtain⟨k,hk,rfl,hn,hkr⟩:=hrel
  have HN:=hh hn
  have HK:=hh hkr
  clear hn hkr
  obtain⟨wo,rfl⟩:∃wo:World,wo=wr:=⟨_,rfl⟩
  by_cases hlt:k < xs.length
  ·obtain⟨x,hx⟩:∃x,xs[k]? =some x:=⟨_,List.getElem?_eq_getElem hlt⟩
   have HX:=hh hx
   rcases HI.out with h0 | ⟨b,o,rfl,hcx⟩
   ·rw[h0]at hlt;simp at hlt
   ·haveI ie:Q1 wo b (o+k*9) x:=⟨fun j u hu=>HK.out.cell (hcx k x hx j u hu) (by simp)⟩
    clear hcx hx
    go_wp2_with fail
    refine(HP.out _ _ HK.out (List.mem_of_getElem? HX.out)).mono ?_
    rintro e w2 ⟨rfl,hk2⟩
    have HK2:=hh (HK.out.trans hk2)
    have HS:Hid ((xs.take (k+1)).any p=p x):=by
     obtain⟨hk',e⟩:=List.getElem?_eq_some_iff.1 HX.out
     rw[Hid,List.take_succ_eq_append_getElem hk',e,List.any_append,HN.out]
     simp
    have HA:Hid (p x=true→xs.any p=true):=fun h=>List.any_eq_true.2 ⟨x,List.mem_of_getElem? HX.out,h⟩
    clear hk2 HK ie
    cases hpx:p x
    ·rw[hpx]at HS
     clear hpx HA
     go_wp2_with fail
     go_roundw
     case rel=>exact⟨k+1,by omega,by go_num,HS.out,HK2.out⟩
     case measure=>simp[intOf];omega
    ·have HA2:=hh (HA.out hpx)
     clear hpx HA HS
     go_wp2_with fail
     go_ret
     exact⟨_,rfl,by rw[HA2.out];simp,HK2.out⟩
  ·obtain rfl:k=xs.length:=by omega
   have HN2:=hh (by have:=HN.out;rw[List.take_length]at this;exact this)
   clear HN
   go_wp2_with fail
   go_ret
   exact⟨_,rfl,by rw[HN2.out];simp,HK.out⟩
theorem Zel (w:World) (a:Option Addr) (c:Nat) (xs:List ExV) (hm:xs.length≤140737488355328) (hI:Zo ExV 9 ExV.cells w a xs) (K:Nat) (caps:Array Value) (p:ExV→Bool) (eg:∀args w,(callFunc K args).run prog w= .ok (.enter K args) w)
 (hp:∀W x,Kept [] w W→x∈xs→Calls prog K (#[.agg x.cells.toArray]++caps) W (J0 (p x) W)):
 Calls prog 69 #[.slice a xs.length c,.func (.func K) #[] caps] w (J0 (xs.any p) w):=by
 have HC:=hh (Zi5 w a c xs hm hI K caps p eg hp)
 clear hp hI eg
 go_enter func69,ntmps69
 go_wp2_with fail
 refine HC.out.mono ?_
 rintro e w2 ⟨i,rfl,hi,hk⟩
 have HI:=hh hi
 have HK:=hh hk
 clear hi hk HC
 go_wp2_with fail
 go_ret
 rw[HI.out]
 exact⟨rfl,HK.out⟩
theorem Tryz.entersAll1:∀args w,(callFunc 196 args).run prog w= .ok (.enter 196 args) w:=Go.Proofs.enters_of func196 (by kernel_rfl) rfl
theorem ZoB (w:World) (B:Nat) (v:Zp) (t:Tab) (y:ExV) (n:Nat) (ih:ZmD v t n) [hB:Zc w B 118 (v.cells t)] (hT:Zw w v t) (hy:Qe w n y):
 Calls prog 196 #[.agg y.cells.toArray,.pointer (some ⟨B,0,none⟩)] w (J0 (!isP t n y) w):=by
 have HS:=hh (fun w' (hk:Kept [] w w')=>ih w' y (hT.kept hk) (hy.kept hk))
 unfold Zp.cells at HS hB
 clear ih hT hy
 go_enter func196,ntmps196
 go_wp2_with fail
 refine nxt (HS.out _ kp) fun w1 p_w1=>?_;have hz_w1:=szk w w1
 go_wp2_with fail
 go_ret
 exact⟨rfl,kp⟩
theorem ZeG (w:World) (v:Zp) (t:Tab) (a:Option Addr) (c:Nat) (xs:List ExV) (n k:Nat) (ih:ZmD v t n) (hT:Zw w v t) (hm:xs.length≤140737488355328) (hI:Zo ExV 9 ExV.cells w a xs) (hx:∀y,y∈xs→Qe w n y):
 Calls prog 145 #[.agg (v.cells t),.slice a xs.length c,.int .i64 (k:Int)] w (ZE (.bool (ZbQ (isP t n) xs k)) w):=by
 have HV:Hid (ZbQ (isP t n) xs k=(decide (xs.length=k) && xs.all (isP t n))):=rfl
 have HC:Hid (∀w' (hk:Kept [] w w') (B:Nat) (hB:Zc w' B 118 (v.cells t)),Calls prog 69 #[.slice a xs.length c,.func (.func 196) #[] #[.pointer (some ⟨B,0,none⟩)]] w' (J0 (xs.any fun y=>!isP t n y) w')):=fun w' hk B hB=>
  Zel w' a c xs hm (hI.kept hk) _ _ _ Tryz.entersAll1 (fun W y hW hy=>by
   haveI:Zc W B 118 (v.cells t):=hB.kept hW
   exact ZoB W B v t y n ih (hT.kept (hk.trans hW)) ((hx y hy).kept (hk.trans hW)))
 have HN:Hid ((xs.any fun y=>!isP t n y)= !xs.all (isP t n)):=Zl7 _ _
 unfold Zp.cells at*
 clear ih hT hI hx
 go_enter func145,ntmps145
 by_cases e:xs.length=k
 ·have e2:((xs.length:Int) == (k:Int))=true:=by simp[e]
  have HE:=hh e
  clear e
  go_wp2_with fail
  refine(HC.out _ kp _ (by infer_instance)).mono ?_
  rintro e w1 ⟨rfl,hk1⟩
  haveI p_w1:Zb w1 _:=⟨hk1⟩
  clear hk1 HC
  rw[HN.out]
  clear HN
  generalize xs.all (isP t n)=q at*
  go_wp2_with fail
  rw[HV.out]
  exact Za rfl (Zj results145 (Zh (by simp[HE.out]))) kp
 ·have e2:((xs.length:Int) == (k:Int))=false:=by simp;omega
  have HW:Hid (ZbQ (isP t n) xs k=false):=by rw[Hid,HV.out];simp[e]
  clear HC HN HV e
  go_wp2_with fail
  rw[HW.out]
  exact Za rfl (Zj results145 (Zh rfl)) kp
theorem Zt3 {α:Type} {l:List α} {d:α} (h:l.length=1):l= [l.getD 0 d]:=by
 cases l with
 | nil=>cases h
 | cons a l=>cases l with
  | nil=>rfl
  | cons _ _=>simp at h
theorem Zr8 {α:Type} {l:List α} {d:α} (h:l.length=2):l= [l.getD 0 d,l.getD 1 d]:=by
 cases l with
 | nil=>cases h
 | cons a l=>cases l with
  | nil=>simp at h
  | cons b l=>cases l with
   | nil=>rfl
   | cons _ _=>simp at h
theorem Zkc (s:ByteArray) (l:List UInt8):(s.toList == l)=decide (s=⟨l.toArray⟩):=by
 rw[Bool.eq_iff_iff,decide_eq_true_eq,beq_iff_eq]
 constructor
 ·intro h
  rw[←h,ByteArray.toList_eq]
 ·rintro rfl
  rw[ByteArray.toList_eq]
theorem Zr1 (t:Tab) (n:Int):(tyP t n=none∧(Zay t n).1=YE)∨∃y s,tyP t n=some (y,s)∧Zay t n=(y,s,true):=by
 unfold tyP Zay Zju tyO
 by_cases h1:n < 0∨(t.subs.length:Int)≤n
 ·left;simp[h1]
 ·simp only[if_neg h1]
  by_cases h2:(t.subs.getD n.toNat default).t < 0∨(t.types.length:Int)≤(t.subs.getD n.toNat default).t
  ·left;simp only[if_pos h2];exact⟨trivial,trivial⟩
  ·right;simp only[if_neg h2];exact⟨_,_,rfl,rfl⟩
theorem ZnJ (t:Tab) (x:ExV):((Qc t x).2=(JM t x).isSome)∧∀b,JM t x=some b→Qc t x=(b,true):=by
 unfold Qc JM
 simp only
 by_cases hc:(Yz x && (Yo (Yn t x.ent) || Zmq (Yn t x.ent)))=true
 rotate_left
 ·rw[if_neg hc,if_neg hc];simp
 rw[if_pos hc,if_pos hc]
 rcases Zr1 t (Yn t x.ent).sub with⟨h1,h2⟩ | ⟨y,s,h1,h2⟩
 ·rw[h1,h2];simp[YE,TyV.kind]
 rw[h1,h2]
 simp only
 by_cases hk:y.kind=4
 rotate_left
 ·rw[if_neg hk,if_neg hk];simp
 rw[if_pos hk,if_pos hk,ZaB]
 cases hp:JB t y.index with
 | none=>simp
 | some r=>
  obtain⟨b,a⟩:=r
  rw[Zah hp]
  simp only[Option.isSome_some,Bool.true_and]
  by_cases hb:b.1≤b.2
  ·simp[hb]
  ·simp[hb]
theorem Ze1 (s:ByteArray):(s.toList == [70,105,114,115,116])=decide (s=Zaw):=Zkc s _
theorem ZhF (s:ByteArray):(s.toList == [76,97,115,116])=decide (s=ZdM):=Zkc s _
theorem ZpL (s:ByteArray):(s.toList == [76,101,110,103,116,104])=decide (s=ZgH):=Zkc s _
theorem Zl0 (t:Tab) (x:ExV):((ZbB t x).2=(ZbC t x).isSome)∧∀b,ZbC t x=some b→ZbB t x=(b,true):=by
 unfold ZbB ZbC
 simp only[Ze1,ZhF,ZpL]
 by_cases hl:x.ls.length=1
 rotate_left
 ·rw[if_neg hl]
  split
  ·rename_i y hy;rw[hy]at hl;simp at hl
  ·simp
 rw[if_pos hl]
 have hx:=Zt3 (d:=default) hl
 have hy:l0 x=x.ls.getD 0 default:=rfl
 rw[←hy]at hx
 generalize l0 x=y at*
 rw[hx]
 simp only
 obtain⟨i1,i2⟩:=ZnJ t y
 cases hi:JM t y with
 | some b=>
  rw[i2 b hi]
  simp only[if_true]
  by_cases h:x.s=Zaw∨x.s=ZdM∨x.s=ZgH
  ·rw[if_pos h];simp[h,or_assoc]
  ·rw[if_neg h]
   simp only[not_or]at h
   simp[h]
 | none=>
  rw[hi]at i1
  rw[i1]
  simp only[Option.isSome_none,Bool.false_eq_true,if_false]
  rw[ZaG]
  cases hm:Jq t y with
  | none=>simp
  | some r=>
   obtain⟨b,a⟩:=r
   rw[JX hm]
   simp only[Option.isSome_some,Bool.true_and]
   by_cases h:x.s=Zaw∨x.s=ZdM
   ·rw[if_pos h];simp[h]
   ·rw[if_neg h]
    simp only[not_or]at h
    simp[h]
section
variable (w:World) (v:Zp) (t:Tab) (x:ExV) (n:Nat)
theorem Zqt (hT:Zw w v t) (hs:(ZU t x.t).isSome=false):Calls prog 79 #[.agg (v.cells t),.agg x.cells.toArray] w (ZE (.bool (isF (isP t n) t x)) w):=by
 have HSP:=hh (fun w' m (hk:Kept [] w w')=>QF w' v t m (hT.kept hk))
 unfold Zp.cells at HSP
 unfold bdV at HSP
 have HW:Hid (isF (isP t n) t x=false):=by rw[Hid,isF,hs];rfl
 clear hT
 unfold Zp.cells
 go_enter func79,ntmps79
 go_wp2_with fail
 refine nxt (HSP.out _ _ kp) fun w1 p_w1=>?_;have hz_w1:=szk w w1
 clear HSP
 go_wp2_with fail
 rw[HW.out]
 exact Za rfl (Zj results79 (Zh rfl)) kp
theorem Zsd (hT:Zw w v t) (hs:(ZU t x.t).isSome=true) (hk:x.kind=1):Calls prog 79 #[.agg (v.cells t),.agg x.cells.toArray] w (ZE (.bool (isF (isP t n) t x)) w):=by
 have HSP:=hh (fun w' m (hk:Kept [] w w')=>QF w' v t m (hT.kept hk))
 unfold Zp.cells at HSP
 unfold bdV at HSP
 have HW:Hid (isF (isP t n) t x=true):=by rw[Hid,isF,hs];simp[hk]
 clear hT
 unfold Zp.cells
 go_enter func79,ntmps79
 go_wp2_with fail
 refine nxt (HSP.out _ _ kp) fun w1 p_w1=>?_;have hz_w1:=szk w w1
 clear HSP
 go_wp2_with fail
 rw[HW.out]
 exact Za rfl (Zj results79 (Zh rfl)) kp
theorem ZkY (hT:Zw w v t) (hs:(ZU t x.t).isSome=true) (hk:x.kind=3∨x.kind=4):Calls prog 79 #[.agg (v.cells t),.agg x.cells.toArray] w (ZE (.bool (isF (isP t n) t x)) w):=by
 have HSP:=hh (fun w' m (hk:Kept [] w w')=>QF w' v t m (hT.kept hk))
 unfold Zp.cells at HSP
 unfold bdV at HSP
 have HE:=hh (fun w' (hk:Kept [] w w')=>YK w' v t x (hT.kept hk))
 have HW:Hid (isF (isP t n) t x=((Yn t x.ent).kind == 9 || (Yn t x.ent).kind == 10 || (Yn t x.ent).kind == 8 && (Yn t x.ent).static)):=by
  rw[Hid,isF,hs,if_neg (by rcases hk with h | h <;> simp[h]),if_pos hk];rfl
 clear hT
 unfold Zp.cells at HE
 unfold ZqQ at HE
 unfold Zp.cells
 rcases hk with hk | hk
 all_goals
  go_enter func79,ntmps79
  go_wp2_with fail
  refine nxt (HSP.out _ _ kp) fun w1 p_w1=>?_;have hz_w1:=szk w w1
  clear HSP
  go_wp2_with fail
  refine nxt (HE.out _ kp) fun w2 p_w2=>?_;have hz_w2:=szk w w2
  clear HE
  generalize Yn t x.ent=y at*
  cases e9:(y.kind == 9)
  ·cases e10:(y.kind == 10)
   ·cases e8:(y.kind == 8)
    ·rw[e9,e10,e8]at HW
     go_wp2_with fail
     rw[HW.out]
     exact Za rfl (Zj results79 (Zh rfl)) kp
    ·rw[e9,e10,e8]at HW
     go_wp2_with fail
     rw[HW.out]
     exact Za rfl (Zj results79 (Zh rfl)) kp
   ·rw[e9,e10]at HW
    go_wp2_with fail
    rw[HW.out]
    exact Za rfl (Zj results79 (Zh rfl)) kp
  ·rw[e9]at HW
   go_wp2_with fail
   rw[HW.out]
   exact Za rfl (Zj results79 (Zh rfl)) kp
theorem Zqx (hT:Zw w v t) (hx:Qe w (n+1) x) (hs:(ZU t x.t).isSome=true) (hk:x.kind=6):Calls prog 79 #[.agg (v.cells t),.agg x.cells.toArray] w (ZE (.bool (isF (isP t n) t x)) w):=by
 have HSP:=hh (fun w' m (hk:Kept [] w w')=>QF w' v t m (hT.kept hk))
 unfold Zp.cells at HSP
 unfold bdV at HSP
 have HA:=hh (fun w' (hk:Kept [] w w')=>ZaT w' v t x n (hT.kept hk) (hx.kept hk))
 have HW:Hid (isF (isP t n) t x=(ZbB t x).2):=by rw[Hid,isF,hs,(Zl0 t x).1];simp[hk]
 clear hT hx
 unfold Zp.cells at HA
 unfold bvV at HA
 unfold Zp.cells
 go_enter func79,ntmps79
 go_wp2_with fail
 refine nxt (HSP.out _ _ kp) fun w1 p_w1=>?_;have hz_w1:=szk w w1
 clear HSP
 go_wp2_with fail
 refine nxt (HA.out _ kp) fun w2 p_w2=>?_;have hz_w2:=szk w w2
 go_wp2_with fail
 rw[HW.out]
 exact Za rfl (Zj results79 (Zh rfl)) kp
theorem Zqw (ih:ZmD v t n) (hT:Zw w v t) (hx:Qe w (n+1) x) (hs:(ZU t x.t).isSome=true) (hk:x.kind=7):Calls prog 79 #[.agg (v.cells t),.agg x.cells.toArray] w (ZE (.bool (isF (isP t n) t x)) w):=by
 have HSP:=hh (fun w' m (hk:Kept [] w w')=>QF w' v t m (hT.kept hk))
 unfold Zp.cells at HSP
 unfold bdV at HSP
 have HA:=hh (fun w' (hk:Kept [] w w')=>Zoo w' v t x n ih (hT.kept hk) (hx.kept hk))
 have HW:Hid (isF (isP t n) t x=ZaS (isP t n) t x):=by rw[Hid,isF,hs];simp[hk]
 clear hT hx ih
 unfold Zp.cells at HA
 unfold Zp.cells
 go_enter func79,ntmps79
 go_wp2_with fail
 refine nxt (HSP.out _ _ kp) fun w1 p_w1=>?_;have hz_w1:=szk w w1
 clear HSP
 go_wp2_with fail
 refine nxt (HA.out _ kp) fun w2 p_w2=>?_;have hz_w2:=szk w w2
 go_wp2_with fail
 rw[HW.out]
 exact Za rfl (Zj results79 (Zh rfl)) kp
theorem Zt4 (ih:ZmD v t n) (hT:Zw w v t) (hx:Qe w (n+1) x) (hs:(ZU t x.t).isSome=true) (hk:x.kind=10):Calls prog 79 #[.agg (v.cells t),.agg x.cells.toArray] w (ZE (.bool (isF (isP t n) t x)) w):=by
 have HSP:=hh (fun w' m (hk:Kept [] w w')=>QF w' v t m (hT.kept hk))
 unfold Zp.cells at HSP
 unfold bdV at HSP
 have HA:=hh (fun w' (hk:Kept [] w w')=>ZeG w' v t x.la x.lc x.ls n 3 ih (hT.kept hk) hx.2.2.2.2.1 (hx.1.kept hk) (fun y hy=>(hx.2.1 y hy).kept hk))
 have HW:Hid (isF (isP t n) t x=ZbQ (isP t n) x.ls 3):=by rw[Hid,isF,hs];simp[hk]
 clear hT hx ih
 unfold Zp.cells at HA
 unfold Zp.cells
 go_enter func79,ntmps79
 go_wp2_with fail
 refine nxt (HSP.out _ _ kp) fun w1 p_w1=>?_;have hz_w1:=szk w w1
 clear HSP
 go_wp2_with fail
 refine nxt (HA.out _ kp) fun w2 p_w2=>?_;have hz_w2:=szk w w2
 go_wp2_with fail
 rw[HW.out]
 exact Za rfl (Zj results79 (Zh rfl)) kp
end
end
end Go.Proofs.YtfaecpkocgcofaaGreatDoor
