/- Lemmas for ResolveSettles, printed small: K0. -/
import Derived.WalkKit
import Derived.WalkSpells
import Derived.WalkLawsBesides
import Derived.Lib.Hide
import Derived.Lib.OwnBridge
import Derived.Sort.Grow
import Derived.Maps.Own
import Derived.Maps.OwnOps
import Derived.Maps.OwnSet
import Derived.Maps.RangeWalk
import Derived.Maps.StringElems
import Derived.Maps.AppendAt
import Derived.Laws.AppendOwnNone
import Derived.Deep.MidRow
import Derived.Deep.Slices
import Derived.Deep.Fields
import Derived.ChangeSame
import Derived.SizedLaws
set_option linter.all false
set_option maxRecDepth 100000
set_option maxHeartbeats 8000000
namespace Go.Proofs.YtfaecpkocgcofaaGreatDoor
section
open Go.RowKit
theorem hh{p:Prop}(h:p):Hid p:=h
def YG (w:World) (size:Nat) (A:Option Addr) (m:Nat) (news:List Value):Prop:=
 news.length=m*size∧(0 < m→∃ad,A=some ad∧∀j u,news[j]? =some u→w.cell? (ad.add j)=some u)
theorem YG.zero (w:World) (size:Nat) (A:Option Addr):YG w size A 0 []:=⟨by simp,fun h=>absurd h (by omega)⟩
theorem YG.keep {w w':World} {size:Nat} {A:Option Addr} {m:Nat} {news:List Value} (h:YG w size A m news) (hk:∀p v,w.cell? p=some v→w'.cell? p=some v):YG w' size A m news:=
 ⟨h.1,fun hm=>by obtain⟨ad,e,hc⟩:=h.2 hm;exact⟨ad,e,fun j u hu=>hk _ _ (hc j u hu)⟩⟩
section
variable {P:Program} (w:World)
theorem J6 (base:Nat) (t ty e:TypeId) (i:TypeInfo) (z:Value) (size bytes:Nat) (ht:P.underlying t=some (.slice e)) (hi:P.info? e=some i) (hz:i.zero=some z)
 (hsize:i.size=size) (hby:i.bytes=bytes) (hzs:z.cells.size=size) (hsz:0 < size)
 (v:Value) (n:Nat) (xs:List Value) (hown:w.ownsRow base e size v n xs)
 (A:Option Addr) (m c:Nat) (news:List Value) (hr:YG w size A m news) (h1:∀u∈news,u.oneCell'=true)
 (h63:n+m≤maxLen) (hbytes:(n+m)*bytes≤140737488355328) (hbase:base≤w.heap.size):
 ∃v' w',(Builtin.append_ #[t,t] ty #[v,.slice A m c]).run P w= .ok v' w'∧w'.ownsRow base e size v' (n+m) (xs++news)∧w.grownBy w' v.ownBlock∧
  (v'.ownBlock=v.ownBlock∨v'.ownBlock=some w.heap.size):=by
 cases A with
 | none=>
  obtain rfl:m=0:=by
   rcases Nat.eq_zero_or_pos m with h | h
   ·exact h
   ·obtain⟨ad,e,_⟩:=hr.2 h;cases e
  obtain rfl:news= []:=List.eq_nil_of_length_eq_zero (by simpa using hr.1)
  refine⟨v,w,?_,by simpa using hown,⟨rfl,rfl,rfl,Nat.le_refl _,fun _ _ _=>rfl⟩,.inl rfl⟩
  rcases hown.2 with⟨rfl,rfl⟩ | ⟨g,cap,cur,rfl,_,_,hnc,_⟩
  ·simp[Builtin.append_,run_underlying ht,sizeOf,typeInfo,hi,Builtin.lenOf,Builtin.firstCells]
  ·simp[Builtin.append_,run_underlying ht,sizeOf,typeInfo,hi,Builtin.lenOf,Builtin.firstCells,hnc,storeCells]
 | some ad=>
  have hcells:∀j u,news[j]? =some u→w.cell? (ad.add j)=some u:=by
   intro j u hu
   rcases Nat.eq_zero_or_pos m with h | h
   ·subst h
    obtain rfl:news= []:=List.eq_nil_of_length_eq_zero (by simpa using hr.1)
    simp at hu
   ·obtain⟨ad',e,hc⟩:=hr.2 h
    injection e with e
    subst e
    exact hc j u hu
  obtain⟨v',w',hrun,h2,h3,_,h5⟩:=run_append_own_at (P:=P) w base t ty e i z size bytes ht hi hz hsize hby hzs hsz v n xs hown ad m c news hr.1 hcells h1 h63 hbytes hbase
  exact⟨v',w',hrun,h2,h3,h5⟩
theorem Zt {ops:Array Oper} {rest:List Oper} {o:Oper} {a:Act} {Q:Exit→Act→World→Prop} (hgd:o.guard=none) (s x:Operand) (t:TypeId)
 (ho:o.op= .call {callee:= .builtin .append,args:=#[s,x],argTypes:=#[t,t]})
 (base:Nat) (e:TypeId) (i:TypeInfo) (z:Value) (size bytes:Nat) (ht:P.underlying t=some (.slice e)) (hi:P.info? e=some i) (hz:i.zero=some z)
 (hsize:i.size=size) (hby:i.bytes=bytes) (hzs:z.cells.size=size) (hsz:0 < size)
 (v:Value) (n:Nat) (xs:List Value) (hs:a.eval s=v) (hown:w.ownsRow base e size v n xs)
 (A:Option Addr) (m c:Nat) (news:List Value) (hx:a.eval x= .slice A m c) (hr:YG w size A m news) (h1:∀u∈news,u.oneCell'=true)
 (h63:n+m≤maxLen) (hbytes:(n+m)*bytes≤140737488355328) (hbase:base≤w.heap.size)
 (h:∀v' w',w'.ownsRow base e size v' (n+m) (xs++news)→w.grownBy w' v.ownBlock→(v'.ownBlock=v.ownBlock∨v'.ownBlock=some w.heap.size)→wpList P ops Q rest (a.put o.dst v') w'):
 wpList P ops Q (o::rest) a w:=by
 refine wpList_plain hgd fun K hK=>?_
 obtain⟨v',w',hr',h2,h3,h4⟩:=J6 (P:=P) w base t o.type e i z size bytes ht hi hz hsize hby hzs hsz v n xs hown A m c news hr h1 h63 hbytes hbase
 unfold Oper.wp execOp
 simp only[ho,resolve,invoke,builtin,Sem.run_bind,Sem.run_pure,Result.andThen_ok,List.map_toArray,List.map_cons,List.map_nil,hs,hx,hr']
 exact hK _ _ (h v' w' h2 h3 h4)
end
structure Kept (X:List Nat) (w w':World):Prop where
 os:w'.os=w.os
 tape:w'.tape=w.tape
 output:w'.output=w.output
 size:w.heap.size≤w'.heap.size
 block:∀k,k < w.heap.size→k∉X→w'.heap[k]? =w.heap[k]?
theorem Kept.refl (X:List Nat) (w:World):Kept X w w:=⟨rfl,rfl,rfl,Nat.le_refl _,fun _ _ _=>rfl⟩
theorem Kept.trans {X:List Nat} {a b c:World} (h:Kept X a b) (k:Kept X b c):Kept X a c:=
 ⟨k.os.trans h.os,k.tape.trans h.tape,k.output.trans h.output,Nat.le_trans h.size k.size,fun i hi hx=>(k.block i (Nat.lt_of_lt_of_le hi h.size) hx).trans (h.block i hi hx)⟩
theorem Kept.mono {X Y:List Nat} {a b:World} (h:Kept X a b) (hs:∀x,x∈X→x∈Y):Kept Y a b:=
 ⟨h.os,h.tape,h.output,h.size,fun i hi hx=>h.block i hi (fun hm=>hx (hs i hm))⟩
theorem Kept.mono' {X Y:List Nat} {a b:World} (h:Kept X a b) (hs:∀x,x∈X→x < a.heap.size→x∈Y):Kept Y a b:=
 ⟨h.os,h.tape,h.output,h.size,fun i hi hx=>h.block i hi (fun hm=>hx (hs i hm hi))⟩
theorem Kept.alloc (X:List Nat) (w:World) (o:Obj):Kept X w (w.alloc o):=⟨rfl,rfl,rfl,by simp,fun i hi _=>Below.heap_alloc _ _ _ hi⟩
theorem Kept.setCell {X:List Nat} (w:World) (a:Addr) (u:Value) (h:a.block∈X):Kept X w (w.setCell a u):=⟨rfl,rfl,rfl,by simp,fun i _ hx=>Below.heap_setCell _ _ _ _ (fun e=>hx (e▸h))⟩
theorem Kept.drew (X:List Nat) (w:World):Kept X w w.drew:=⟨rfl,rfl,rfl,Nat.le_refl _,fun _ _ _=>rfl⟩
theorem Kept.of_below {X:List Nat} {w w':World} (h:Below w.heap.size w w'):Kept X w w':=⟨h.os,h.tape,h.output,h.size,fun i hi _=>h.block i hi⟩
theorem Kept.of_grown {X:List Nat} {w w':World} {row:Option Nat} (h:w.grownBy w' row) (hr:∀k,row=some k→k < w.heap.size→k∈X):Kept X w w':=
 ⟨h.os,h.tape,h.output,h.size,fun i hi hx=>h.block i hi (fun e=>hx (hr i e.symm hi))⟩
theorem Kept.cell {X:List Nat} {w w':World} (h:Kept X w w') {p:Addr} {v:Value} (hc:w.cell? p=some v) (hx:p.block∉X):w'.cell? p=some v:=
 (World.cell?_of_block (h.block _ (World.block_lt_of_cell? w p hc) hx)).trans hc
theorem Kept.obj {X:List Nat} {w w':World} (h:Kept X w w') {k:Nat} {o:Obj} (hc:w.heap[k]? =some o) (hx:k∉X):w'.heap[k]? =some o:=
 (h.block _ (Array.getElem?_eq_some_iff.1 hc).1 hx).trans hc
theorem Kept.toBelow {X:List Nat} {w w':World} {B:Nat} (h:Kept X w w') (hB:B≤w.heap.size) (hx:∀x,x∈X→B≤x):Below B w w':=
 ⟨h.os,h.tape,h.output,h.size,fun k hk=>h.block k (by omega) (fun hm=>by have:=hx k hm;omega)⟩
theorem Kept.drewN (X:List Nat) (w:World) (q:Nat):Kept X w (w.drewN q):=⟨rfl,rfl,rfl,Nat.le_refl _,fun _ _ _=>rfl⟩
theorem Kept.trans0 {a b c:World} (h:Kept [] a b) {B:Nat} (k:Kept [B] b c) (hB:a.heap.size≤B):Kept [] a c:=
 ((h.mono (by simp)).trans k).mono' (fun x hx hl=>by simp at hx;omega)
theorem Zf {W:World} {o:Obj} {k:Nat} (h:k=W.heap.size):(W.alloc o).heap[k]? =some o:=by subst h;exact heap_alloc_new W o
theorem Zr {W:World} {o:Obj} {k:Nat} {x:Option Obj} (h:W.heap[k]? =x) (hk:k < W.heap.size):(W.alloc o).heap[k]? =x:=(Below.heap_alloc _ _ _ hk).trans h
def Yb (w:World) (v:Value) (xs:List Int):Prop:=
 ∃a c,v= .slice a xs.length c∧xs.length≤c∧c≤9223372036854775807∧(a=none→c=0)∧(xs= []∨∃b off,a=some ⟨b,off,none⟩∧∀(j:Nat) (x:Int),xs[j]? =some x→w.cell? ⟨b,off+j,none⟩=some (.int .i64 x))
theorem Yb.kept {w w':World} {v:Value} {xs:List Int} (h:Yb w v xs) (hk:Kept [] w w'):Yb w' v xs:=by
 obtain⟨a,c,rfl,h1,h2,h4,h3⟩:=h
 refine⟨a,c,rfl,h1,h2,h4,?_⟩
 rcases h3 with rfl | ⟨b,off,rfl,hc⟩
 ·exact .inl rfl
 ·exact .inr ⟨b,off,rfl,fun j x hx=>hk.cell (hc j x hx) (by simp)⟩
theorem Yb.of_owns {w:World} {base:Nat} {v:Value} {xs:List Int} (h:w.ownsRow base 3 1 v xs.length (xs.map (Value.int .i64))):Yb w v xs:=by
 rcases h.2 with⟨rfl,hn⟩ | ⟨g,cap,cur,rfl,hb,hg,hcap,hmax,_⟩
 ·exact⟨none,0,by rw[hn],by omega,by omega,fun _=>rfl,.inl (List.eq_nil_of_length_eq_zero hn)⟩
 ·refine⟨_,cap,rfl,hcap,by unfold maxLen at hmax;omega,(fun h=>by cases h),.inr ⟨g,0,rfl,fun j x hx=>?_⟩⟩
  have:=h.cells (g:=g) rfl j (.int .i64 x) (by simp[hx])
  rwa [Addr.add_mid]at this
theorem Zq {w:World} {base e size n:Nat} {v:Value} {xs:List Value} (h:w.ownsRow base e size v n xs):∃A c,v= .slice A n c:=by
 rcases h.2 with⟨rfl,hn⟩ | ⟨g,cap,cur,rfl,_⟩
 ·exact⟨none,0,by rw[hn]⟩
 ·exact⟨_,cap,rfl⟩
theorem ZmU {w:World} {xs:List Int} {b off:Nat} (j:Nat) (hc:∀(i:Nat) (x:Int),xs[i]? =some x→w.cell? ⟨b,off+i,none⟩=some (.int .i64 x)):YG w 1 (some ⟨b,off+j,none⟩) (xs.length - j) ((xs.drop j).map (Value.int .i64)):=by
 refine⟨by simp,fun _=>⟨_,rfl,fun i u hu=>?_⟩⟩
 rw[List.getElem?_map,List.getElem?_drop]at hu
 cases hx:xs[j+i]? with
 | none=>rw[hx]at hu;cases hu
 | some x=>
  rw[hx]at hu
  simp only[Option.map_some,Option.some.injEq]at hu
  subst hu
  rw[Addr.add_mid,Nat.add_assoc]
  exact hc _ _ hx
theorem ZaD {w:World} {base e size n:Nat} {v:Value} {xs:List Value} (h:w.ownsRow base e size v n xs):∀k,v.ownBlock=some k→base≤k:=fun k hk=>(h.lt k hk).1
theorem Zd3 (xs:List Int):∀u,u∈xs.map (Value.int .i64)→u.oneCell'=true:=by
 intro u hu
 obtain⟨x,_,rfl⟩:=List.mem_map.1 hu
 rfl
def Ztl (xs:List Int) (w:World) (e:Ending) (w':World):Prop:=∃v,e= .returned v∧Yb w' v xs∧Kept [] w w'
theorem Yb.nil (w:World):Yb w (.slice none 0 0) []:=⟨none,0,rfl,Nat.le_refl _,by omega,fun _=>rfl,.inl rfl⟩
theorem Ztl.mono {w0 w:World} {xs ys:List Int} (hk:Kept [] w0 w) (h:xs=ys):∀e w',Ztl xs w e w'→Ztl ys w0 e w':=by
 rintro e w' ⟨v,he,hi,hk'⟩
 subst h
 exact⟨v,he,hi,hk.trans hk'⟩
theorem ZaM {m:Nat}:∀(L:List (List Value)),(∀r,r∈L→r.length=m)→∀(k:Nat) (r:List Value),L[k]? =some r→∀(j:Nat) (u:Value),r[j]? =some u→L.flatten[k*m+j]? =some u:=by
 intro L
 induction L with
 | nil=>intro _ k r h;simp at h
 | cons a L ih=>
  intro hm k r hk j u hu
  have ha:=hm a (by simp)
  rw[List.flatten_cons]
  cases k with
  | zero=>
   simp at hk
   subst hk
   have hj:=(List.getElem?_eq_some_iff.1 hu).1
   rw[Nat.zero_mul,Nat.zero_add,List.getElem?_append_left hj]
   exact hu
  | succ k=>
   simp at hk
   rw[List.getElem?_append_right (by rw[ha,Nat.succ_mul];omega),ha]
   have e:(k+1)*m+j - m=k*m+j:=by rw[Nat.succ_mul];omega
   rw[e]
   exact ih (fun r hr=>hm r (by simp[hr])) k r hk j u hu
theorem ZcU {w:World} {b m:Nat} {ty:TypeId} {L:List (List Value)} (h:w.heap[b]? =some (.cells L.flatten.toArray ty (0,0))) (hm:∀r,r∈L→r.length=m) {k:Nat} {r:List Value} (hk:L[k]? =some r):w.rangeAt b (0+k*m) r:=by
 intro j u hu
 rw[cell_of_row _ _ _ _ _ _ h]
 have:=ZaM L hm k r hk j u hu
 rw[Nat.zero_add]
 simpa using this
def J0 (b:Bool) (w:World) (e:Ending) (w':World):Prop:=e= .returned (.bool b)∧Kept [] w w'
section
open Go.Lib Go.Sort
def QI (zs:List Int):List Int:=zs.mergeSort fun x y=>decide (x≤y)
theorem Zaa (w:World) (g q:Nat) (d:Array Int):w.grownBy (putRow (Value.int .i64) (Sort.ahead w q) g 0 d) (some g):=
 ⟨rfl,rfl,rfl,by simp[putRow,mapBlock,Sort.ahead],fun k hk hne=>by
  have:g≠k:=fun e=>hne (by rw[e])
  simp[putRow,mapBlock,Sort.ahead,Array.getElem?_modify,this]⟩
theorem ZfJ {w w':World} {row:Option Nat} (h:w.grownBy w' row) (os:Array Obj):w.grownBy (grow w' os) row:=
 ⟨h.os,h.tape,h.output,by have:=h.size;simp[grow];omega,fun k hk hne=>by
  rw[←h.block k hk hne]
  exact heap_grow_old w' os (Nat.lt_of_lt_of_le hk h.size)⟩
theorem ownsRow_grow {w:World} {base:Nat} {e:TypeId} {size:Nat} {v:Value} {n:Nat} {xs:List Value} (h:w.ownsRow base e size v n xs) (os:Array Obj):(grow w os).ownsRow base e size v n xs:=by
 refine⟨h.1,?_⟩
 rcases h.2 with hn | ⟨g,cap,cur,rfl,hb,hg,rest⟩
 ·exact .inl hn
 ·exact .inr ⟨g,cap,cur,rfl,hb,(heap_grow_old w os (Array.getElem?_eq_some_iff.1 hg).1).trans hg,rest⟩
theorem Z7 {w:World} {base base':Nat} {e:TypeId} {size:Nat} {v:Value} {n:Nat} {xs:List Value} (h:w.ownsRow base e size v n xs) (hb:base'≤base):w.ownsRow base' e size v n xs:=by
 refine⟨h.1,?_⟩
 rcases h.2 with hn | ⟨g,cap,cur,rfl,hg,rest⟩
 ·exact .inl hn
 ·exact .inr ⟨g,cap,cur,rfl,by omega,rest⟩
end
section
open Go.Maps
theorem ZaC {H:Type} {P:Program} {e:TypeId} (he:P.underlying e=some .bool) {v:Value} {z:DataW H×List MemPlace} (h:plainElem P e v=some z):∃c,v= .bool c∧z=(.lit (.bool c),[]):=by
 unfold plainElem at h
 rw[he]at h
 cases v <;> simp at h
 exact⟨_,rfl,h.symm⟩
def Zga (P:Program) (k e:TypeId) (w:World) (b n:Nat) (M:Int→Option Bool):Prop:=
 ∃D:DataW Unit,w.ownsMap P k (plainElem P e) b n D∧∀x,(Lit.int .i64 x).wf=true→has D (.int .i64 x)=(M x).isSome∧D.atKey (.int .i64 x) (.lit (.bool false))= .lit (.bool ((M x).getD false))
def ZrC {α:Type} (M:Int→Option α) (x:Int) (v:α):Int→Option α:=fun y=>if y=x then some v else M y
section
variable {P:Program} {k e t:TypeId} {w w':World} {b n:Nat} {M:Int→Option Bool}
theorem Zga.made (P:Program) (k e:TypeId) (w:World):Zga P k e (w.alloc (.map #[] 0)) w.heap.size 0 (fun _=>none):=
 ⟨.map [],World.ownsMap_made w P k _,fun _ _=>⟨rfl,rfl⟩⟩
theorem Zga.lt (h:Zga P k e w b n M):b < w.heap.size:=by obtain⟨D,h,_⟩:=h;exact h.lt
theorem Zga.mono (h:Zga P k e w b n M) {n':Nat} (hn:n≤n'):Zga P k e w b n' M:=by obtain⟨D,h,hD⟩:=h;exact⟨D,h.mono hn,hD⟩
theorem Zga.block (h:Zga P k e w b n M) (hb:w'.heap[b]? =w.heap[b]?):Zga P k e w' b n M:=by
 obtain⟨D,⟨es,clock,h1,h2⟩,hD⟩:=h
 exact⟨D,⟨es,clock,hb.trans h1,h2⟩,hD⟩
theorem Zga.lookup (hk:P.underlying k=some (.int .i64)) (he:P.underlying e=some .bool) (ht:P.underlying t=some (.map k e)) (hz:∀w,(zeroValue e).run P w= .ok (.bool false) w)
 (h:Zga P k e w b n M) {x:Int} (hx:(Lit.int .i64 x).wf=true):(Instr.lookup t (.map (some b)) (.int .i64 x) false).run P w= .ok (.bool ((M x).getD false)) w:=by
 obtain⟨D,ho,hD⟩:=h
 obtain⟨v,ps,hrun,hv⟩:=ho.lookup (int_keyed hk) ht (hz w) (plainElem_bool he false) (keyOf_int_mk hk hx)
 rw[(hD x hx).2]at hv
 obtain⟨c,rfl,hc⟩:=ZaC he hv
 simp only[Prod.mk.injEq,DataW.lit.injEq,Lit.bool.injEq]at hc
 rw[hrun,hc.1]
theorem Zbn (x:Int):WideAt.IsKeyLit (.int .i64 x):=by simp[WideAt.IsKeyLit]
theorem Zga.update (hk:P.underlying k=some (.int .i64)) (he:P.underlying e=some .bool) (ht:P.underlying t=some (.map k e))
 (h:Zga P k e w b n M) (hn:n < maxLen) {x:Int} (hx:(Lit.int .i64 x).wf=true) (v:Bool):
 ∃w',(Instr.mapUpdate t (.map (some b)) (.int .i64 x) (.bool v)).run P w= .ok () w'∧Zga P k e w' b (n+1) (ZrC M x v)∧w.grownBy w' (some b)∧w'.heap.size=w.heap.size:=by
 obtain⟨D,ho,hD⟩:=h
 obtain⟨w',hrun,ho',hg⟩:=ho.update (int_keyed hk) ht hn (keyOf_int_mk hk hx) (plainElem_bool he v)
 have him:=ho.isMap
 refine⟨w',hrun,⟨_,ho',fun y hy=>?_⟩,hg,?_⟩
 ·by_cases hyx:y=x
  ·subst hyx
   simp only[ZrC,if_true]
   exact⟨has_put_same him (Zbn _) _,atKey_put_same him (Zbn _) _ _⟩
  ·have hne:(Lit.int .i64 y)≠(.int .i64 x):=fun e=>hyx (by injection e)
   simp only[ZrC,if_neg hyx]
   rw[has_put_other hne,atKey_put_other hne]
   exact hD y hy
 ·obtain⟨es,clock,hb,F,hs,rfl⟩:=ho
  obtain⟨es',clock',hrun',_⟩:=Maps.fit_store (R':=plainElem P e) (int_keyed hk) ht hb F (Nat.lt_of_le_of_lt hs hn) (fun _ _ _ _ hz=>hz) (keyOf_int_mk hk hx) (plainElem_bool he v)
  rw[hrun]at hrun'
  injection hrun' with _ h2
  rw[h2]
  simp[ChangeMaps.setBlock]
end
end
section
open Go.ChangeShapes Go.WideShapes Go.Deep
section
variable {H:Type} {enc:TypeId×Value→H} {P:Program} {w:World} {base:Nat} {spare:Nat→Bool} {held:Bool}
def SzD (P:Program) (t:TypeId) (d:DataW H):Prop:=∀n,n∈d.weights P t→n≤reachBytes
theorem SzD.arg {ts:List TypeId} {ds:List (DataW H)} (h:(DataW.weightsEach P ts ds).all (·≤reachBytes)=true) {j:Nat} {t:TypeId} {d:DataW H} (ht:ts[j]? =some t) (hd:ds[j]? =some d):SzD P t d:=
 fun n hn=>by simpa using List.all_eq_true.1 h _ (DataW.weights_mem_each ht hd n hn)
theorem ZbY {e:TypeId} {n:Nat}:∀{ds:List (DataW H)} {d:DataW H},d∈ds→n∈d.weights P e→n∈DataW.weightsAll P e ds:=by
 intro ds
 induction ds with
 | nil=>intro d h;simp at h
 | cons a ds ih=>
  intro d h hn
  simp only[DataW.weightsAll,List.mem_append]
  rcases List.mem_cons.1 h with rfl | h
  ·exact .inl hn
  ·exact .inr (ih h hn)
theorem SzD.elem {t e:TypeId} {elems sp:List (DataW H)} (h:SzD P t (.slice elems sp)) (ht:P.underlying t=some (.slice e)) {d:DataW H} (hd:d∈elems):SzD P e d:=
 fun n hn=>h n (by simp only[DataW.weights,ht,List.mem_cons,List.mem_append];exact .inr (.inl (ZbY hd hn)))
theorem SzD.len {t e:TypeId} {elems sp:List (DataW H)} (h:SzD P t (.slice elems sp)) (ht:P.underlying t=some (.slice e)):(elems.length+sp.length)*P.bytesOf e≤reachBytes:=
 h _ (by simp[DataW.weights,ht])
theorem SzD.field {t:TypeId} {fs:Array Field} {parts:List (DataW H)} (h:SzD P t (.agg parts)) (ht:P.underlying t=some (.struct fs)) {j:Nat} {f:Field} {d:DataW H} (hf:fs[j]? =some f) (hd:parts[j]? =some d):SzD P f.type d:=
 fun n hn=>h n (by
  simp only[DataW.weights,ht]
  refine DataW.weights_mem_each (j:=j) (t:=f.type) ?_ hd n hn
  rw[List.getElem?_map,Array.getElem?_toList,hf];rfl)
def Zo (α:Type) (k:Nat) (cells:α→List Value) (w:World) (A:Option Addr) (l:List α):Prop:=
 l= []∨∃b o,A=some ⟨b,o,none⟩∧∀j r,l[j]? =some r→w.rangeAt b (o+j*k) (cells r)
theorem Zkk {α:Type} [Inhabited α] {k:Nat} {cells:α→List Value} {G:α→Prop} {t e:TypeId} {fuel:Nat} {cs:List Value} {x:DataW H×List MemPlace}
 (ht:P.underlying t=some (.slice e)) (hk:P.cellsOf e=k) (h0:0 < k) (h:DataW.trod enc P w base spare held fuel t cs=some x) (hs:SzD P t x.1)
 (R:∀n cs' y,DataW.trod enc P w base spare held n e cs'=some y→SzD P e y.1→∃r:α,cs'=cells r∧G r):
 ∃(A:Option Addr) (c:Nat) (l:List α),cs= [.slice A l.length c]∧l.length≤c∧c≤maxLen∧(A=none→c=0)∧Zo α k cells w A l∧(∀r,r∈l→G r)∧l.length*P.bytesOf e≤reachBytes:=by
 rcases open_slice ht h with⟨rfl,_⟩ | ⟨a,len,cap,m,n,D,Pl,rfl,hb,hl,hm,hmm,hx,hi⟩
 ·exact⟨none,0,[],rfl,Nat.le_refl _,Nat.zero_le _,fun _=>rfl,.inl rfl,(fun r hr=>by simp at hr),by simp⟩
 ·have hlm:len≤m:=by rw[hmm];split <;> omega
  have hx1:x.1= .slice ((List.range len).map D) ((List.range (m - len)).map fun j=>D (len+j)):=by rw[hx]
  rw[hx1]at hs
  have hr:∀i,i < len→∃r:α,w.cells? base (a.add (i*k)) k=some (cells r)∧G r:=by
   intro i hil
   obtain⟨cs',hc,ht'⟩:=hi i (by omega)
   rw[hk]at hc
   obtain⟨r,rfl,hG⟩:=R n cs' _ ht' (hs.elem ht (List.mem_map.2 ⟨i,List.mem_range.2 hil,rfl⟩))
   exact⟨r,hc,hG⟩
  obtain⟨f,hf⟩:=choose_lt hr
  refine⟨some a,cap,(List.range len).map f,by simp,by simpa using hl,hm,(fun h=>by cases h),?_,?_,?_⟩
  ·rcases Nat.eq_zero_or_pos len with rfl | hpos
   ·exact .inl rfl
   ·have hc0:=(World.cells?_some (hf 0 hpos).1)
    obtain⟨b,o,sp⟩:=a
    have hsp:sp=none:=by
     have:=hc0.2.2 0 h0
     have hlt:0 < (cells (f 0)).length:=by rw[hc0.2.1];exact h0
     rw[List.getElem?_eq_getElem hlt]at this
     simpa [Addr.add]using World.cell?_spot this
    subst hsp
    refine .inr ⟨b,o,rfl,fun j r hj=>?_⟩
    rw[List.getElem?_map]at hj
    have hjl:j < len:=by
     rcases Nat.lt_or_ge j len with h | h
     ·exact h
     ·rw[List.getElem?_eq_none (by simpa using h)]at hj;simp at hj
    rw[List.getElem?_range hjl]at hj
    simp only[Option.map_some,Option.some.injEq]at hj
    subst hj
    obtain⟨_,hcl,hat⟩:=World.cells?_some (hf j hjl).1
    intro i u hu
    have hik:i < k:=by
     rw[←hcl]
     exact(List.getElem?_eq_some_iff.1 hu).1
    have h1:=hat i hik
    rw[Go.Deep.add_add,Addr.add_mid]at h1
    rw[Nat.add_assoc,h1,hu]
  ·intro r hr'
   obtain⟨i,hi',rfl⟩:=List.mem_map.1 hr'
   exact(hf i (List.mem_range.1 hi')).2
  ·have:=hs.len ht
   rw[List.length_map,List.length_range,List.length_map,List.length_range]at this
   rw[List.length_map,List.length_range]
   exact Nat.le_trans (Nat.mul_le_mul_right _ (Nat.le_add_right _ _)) this
end
end
theorem Zm {P:Program} {c:Code} {Q:Exit→Act→World→Prop} {a:Act} {W:World} (h:∀w5,w5=W→Code.wp P c Q a w5):Code.wp P c Q a W:=h W rfl
def ZM (w:World) (A:Option Addr) (xs:List Int):Prop:=xs= []∨∃b o,A=some ⟨b,o,none⟩∧∀(j:Nat) (x:Int),xs[j]? =some x→w.cell? ⟨b,o+j,none⟩=some (.int .i64 x)
theorem ZM.kept {w w':World} {A:Option Addr} {xs:List Int} (h:ZM w A xs) (hk:Kept [] w w'):ZM w' A xs:=by
 rcases h with h | ⟨b,o,e,hc⟩
 ·exact .inl h
 ·exact .inr ⟨b,o,e,fun j x hx=>hk.cell (hc j x hx) (by simp)⟩
theorem ZM.src {w:World} {A:Option Addr} {xs:List Int} (h:ZM w A xs):YG w 1 A xs.length (xs.map (Value.int .i64)):=by
 rcases h with rfl | ⟨b,o,rfl,hc⟩
 ·exact YG.zero _ _ _
 ·exact ZmU 0 hc
theorem Yb.at_ {w:World} {a:Option Addr} {n c:Nat} {xs:List Int} (h:Yb w (.slice a n c) xs):n=xs.length∧ZM w a xs∧xs.length≤c∧c≤9223372036854775807∧(a=none→c=0):=by
 obtain⟨a',c',e,h1,h2,h3,h4⟩:=h
 injection e with e1 e2 e3
 subst e1 e2 e3
 exact⟨rfl,h4,h1,h2,h3⟩
theorem ZM.c {w:World} {a:Option Addr} {c:Nat} {xs:List Int} (h:ZM w a xs) (h1:xs.length≤c) (h2:c≤9223372036854775807) (h3:a=none→c=0):Yb w (.slice a xs.length c) xs:=⟨a,c,rfl,h1,h2,h3,h⟩
theorem Zo.kept {α:Type} {k:Nat} {cells:α→List Value} {w w':World} {A:Option Addr} {l:List α} (h:Zo α k cells w A l) (hk:Kept [] w w'):Zo α k cells w' A l:=by
 rcases h with h | ⟨b,o,e,hc⟩
 ·exact .inl h
 ·exact .inr ⟨b,o,e,fun j r hr i u hu=>hk.cell (hc j r hr i u hu) (by simp)⟩
theorem Zo.split {α:Type} {k:Nat} {cells:α→List Value} {w:World} {A:Option Addr} {l:List α} (h:Zo α k cells w A l):l.length≤0∨∃b o,A=some ⟨b,o,none⟩∧∀j r,l[j]? =some r→w.rangeAt b (o+j*k) (cells r):=by
 rcases h with h | h
 ·left;rw[h];exact Nat.le_refl _
 ·exact .inr h
theorem Zo.some_ {α:Type} {k:Nat} {cells:α→List Value} {w:World} {A:Option Addr} {l:List α} (h:Zo α k cells w A l) {j:Nat} {x:α} (hx:l[j]? =some x):∃b o,A=some ⟨b,o,none⟩∧∀j r,l[j]? =some r→w.rangeAt b (o+j*k) (cells r):=by
 rcases h with h | h
 ·subst h;simp at hx
 ·exact h
def ZpC (w:World) (v:Value) (xs:List Int):Prop:=
 (xs= []∧∃a c,v= .slice a 0 c)∨(∃b off c,v= .slice (some ⟨b,off,none⟩) xs.length c∧xs.length≤9223372036854775807∧∀j,j < xs.length→w.cell? ⟨b,off+j,none⟩=some (.int .i64 (xs.getD j 0)))
def Zcr (xs:List Int) (n:Int):Bool:=xs.contains n
theorem ZaQ (xs:List Int) (k:Nat) (n:Int) (h:k < xs.length):Zcr (xs.take (k+1)) n=(Zcr (xs.take k) n || (xs.getD k 0 == n)):=by
 unfold Zcr
 rw[List.take_succ_eq_append_getElem h,Bool.eq_iff_iff]
 simp only[List.contains_iff_mem,List.mem_append,List.mem_singleton,Bool.or_eq_true,beq_iff_eq,List.getD,List.getElem?_eq_getElem h,Option.getD_some]
 exact or_congr_right eq_comm
theorem ZpC.shape {w:World} {v:Value} {xs:List Int} (h:ZpC w v xs):∃a c,v= .slice a xs.length c∧xs.length≤9223372036854775807∧(xs= []∨∃b off,a=some ⟨b,off,none⟩∧∀j x,xs[j]? =some x→w.cell? ⟨b,off+j,none⟩=some (.int .i64 x)):=by
 rcases h with⟨rfl,a,c,rfl⟩ | ⟨b,off,c,rfl,hm,hc⟩
 ·exact⟨a,c,rfl,by simp,.inl rfl⟩
 ·refine⟨_,c,rfl,hm,.inr ⟨b,off,rfl,fun j x hx=>?_⟩⟩
  obtain⟨hj,rfl⟩:=List.getElem?_eq_some_iff.1 hx
  rw[hc j hj]
  simp[List.getD,hj]
theorem Kept.grown {X:List Nat} {a b c:World} {row:Option Nat} (h:Kept X a b) (hg:b.grownBy c row) (hr:∀k,row=some k→a.heap.size≤k):Kept X a c:=
 ⟨hg.os.trans h.os,hg.tape.trans h.tape,hg.output.trans h.output,Nat.le_trans h.size hg.size,fun k hk hx=>by
  rw[hg.block k (Nat.lt_of_lt_of_le hk h.size) (fun e=>by have:=hr k e.symm;omega)]
  exact h.block k hk hx⟩
def Y4 (w:World) (g:Nat) (ty:TypeId) (vs:List Value):Prop:=w.heap[g]? =some (.cells vs.toArray ty (0,0))
theorem Y4.cell {w:World} {g:Nat} {ty:TypeId} {vs:List Value} (h:Y4 w g ty vs) {i:Nat} {v:Value} (hv:vs[i]? =some v):w.cell? ⟨g,i,none⟩=some v:=by
 rw[cell_of_row _ _ _ _ _ _ h];simpa using hv
theorem Y4.frozen {w:World} {g:Nat} {ty:TypeId} {vs:List Value} (h:Y4 w g ty vs) (i:Nat):w.frozen? ⟨g,i,none⟩=false:=frozen_of_row _ _ _ _ _ h
theorem Y4.set {w:World} {g:Nat} {ty:TypeId} {vs:List Value} (h:Y4 w g ty vs) (i:Nat) (v:Value):Y4 (w.setCell ⟨g,i,none⟩ v) g ty (vs.set i v):=by
 unfold Y4 at*
 rw[heap_setCell_same _ _ _ _ _ _ h]
 congr 2
 rw[List.setIfInBounds_toArray]
theorem Y4.other {w:World} {g:Nat} {ty:TypeId} {vs:List Value} (h:Y4 w g ty vs) (a:Addr) (v:Value) (hk:g≠a.block):Y4 (w.setCell a v) g ty vs:=(heap_setCell_other w a g v hk).trans h
theorem Y4.kept {w w':World} {g:Nat} {ty:TypeId} {vs:List Value} {X:List Nat} (h:Y4 w g ty vs) (hk:Kept X w w') (hx:g∉X):Y4 w' g ty vs:=hk.obj h hx
theorem Y4.made (w:World) (z:Value) (n:Nat) (ty:TypeId):Y4 (w.alloc (.cells (madeCells #[z] n) ty)) w.heap.size ty (List.replicate n z):=by
 unfold Y4
 rw[heap_alloc_new]
 congr 2
 apply Array.ext
 ·simp[size_madeCells]
 ·intro i h1 h2
  have:i % 1=0:=by omega
  simp[madeCells,this]
theorem Y4.lt {w:World} {g:Nat} {ty:TypeId} {vs:List Value} (h:Y4 w g ty vs):g < w.heap.size:=(Array.getElem?_eq_some_iff.1 h).1
theorem Yb.apart {w w':World} {v:Value} {xs:List Int} {X:List Nat} (h:Yb w v xs) (hk:Kept X w w') (hx:∀k,v.ownBlock=some k→k∉X):Yb w' v xs:=by
 obtain⟨a,c,rfl,h1,h2,h3,h4⟩:=h
 refine⟨a,c,rfl,h1,h2,h3,?_⟩
 rcases h4 with h4 | ⟨b,o,rfl,hc⟩
 ·exact .inl h4
 ·exact .inr ⟨b,o,rfl,fun j x hj=>hk.cell (hc j x hj) (hx b rfl)⟩
theorem Kept.above {X:List Nat} {a b c:World} (h:Kept [] a b) (k:Kept X b c) (hX:∀q,q∈X→a.heap.size≤q):Kept [] a c:=
 ⟨k.os.trans h.os,k.tape.trans h.tape,k.output.trans h.output,Nat.le_trans h.size k.size,fun i hi _=>(k.block i (Nat.lt_of_lt_of_le hi h.size) (fun hm=>by have:=hX i hm;omega)).trans (h.block i hi (by simp))⟩
theorem YJ {α:Type} {k:Nat} {cells:α→List Value} {W:World} {b:Nat} {ty:TypeId} {l:List α} (h:W.heap[b]? =some (.cells (l.map cells).flatten.toArray ty (0,0))) (hk:∀x,(cells x).length=k):Zo α k cells W (some ⟨b,0,none⟩) l:=
 .inr ⟨b,0,rfl,fun j x hx=>ZcU h (fun r hr=>by obtain⟨x,_,rfl⟩:=List.mem_map.1 hr;exact hk x) (by rw[List.getElem?_map,hx];rfl)⟩
theorem Zk {w w':World} {base e size n:Nat} {v:Value} {xs:List Value} {X:List Nat} (h:w.ownsRow base e size v n xs) (hk:Kept X w w') (hx:∀k,v.ownBlock=some k→k∉X):w'.ownsRow base e size v n xs:=by
 refine⟨h.1,?_⟩
 rcases h.2 with hn | ⟨g,cap,cur,rfl,hb,hg,rest⟩
 ·exact .inl hn
 ·exact .inr ⟨g,cap,cur,rfl,hb,hk.obj hg (hx g rfl),rest⟩
theorem YF {α:Type} {m:Nat} {cells:α→List Value} {w:World} {base e n:Nat} {v:Value} {l:List α} (h:w.ownsRow base e m v n (l.map cells).flatten) (hm:∀x,(cells x).length=m) (hl:l.length=n):
 ∃A c,v= .slice A n c∧n≤c∧c≤9223372036854775807∧(A=none→c=0)∧Zo α m cells w A l:=by
 rcases id h.2 with⟨rfl,hn⟩ | ⟨g,cap,cur,rfl,hb,hg,hcap,hmax,_⟩
 ·exact⟨none,0,by rw[hn],by omega,by omega,fun _=>rfl,.inl (List.eq_nil_of_length_eq_zero (by omega))⟩
 ·refine⟨_,cap,rfl,hcap,by unfold maxLen at hmax;omega,(fun h=>by cases h),.inr ⟨g,0,rfl,fun j r hr i u hu=>?_⟩⟩
  have h1:=ZaM (l.map cells) (m:=m) (fun r hr=>by obtain⟨x,_,rfl⟩:=List.mem_map.1 hr;exact hm x) j (cells r) (by rw[List.getElem?_map,hr];rfl) i u hu
  have:=h.cells (g:=g) rfl (j*m+i) u h1
  rwa [Addr.add_mid,show 0+(j*m+i)=0+j*m+i by omega]at this
theorem Zo.src {α:Type} {m:Nat} {cells:α→List Value} {w:World} {A:Option Addr} {l:List α} (h:Zo α m cells w A l) (hm:∀x,(cells x).length=m) (h0:0 < m):YG w m A l.length (l.map cells).flatten:=by
 have hlen:(l.map cells).flatten.length=l.length*m:=by
  clear h
  induction l with
  | nil=>simp
  | cons a l ih=>rw[List.map_cons,List.flatten_cons,List.length_append,ih,hm,List.length_cons,Nat.succ_mul];omega
 refine⟨hlen,fun hl=>?_⟩
 rcases h with rfl | ⟨b,o,rfl,hc⟩
 ·simp at hl
 ·refine⟨_,rfl,fun j u hu=>?_⟩
  have hj:j < l.length*m:=by have:=(List.getElem?_eq_some_iff.1 hu).1;omega
  have hk:j / m < l.length:=Nat.div_lt_of_lt_mul (by rw[Nat.mul_comm];exact hj)
  have hx:l[j / m]? =some (l[j / m]):=List.getElem?_eq_getElem hk
  have hmod:j % m < (cells l[j / m]).length:=by rw[hm];exact Nat.mod_lt _ h0
  obtain⟨v,hv⟩:∃v,(cells l[j / m])[j % m]? =some v:=⟨_,List.getElem?_eq_getElem hmod⟩
  have h1:=ZaM (l.map cells) (m:=m) (fun r hr=>by obtain⟨x,_,rfl⟩:=List.mem_map.1 hr;exact hm x) (j / m) _ (by rw[List.getElem?_map,hx];rfl) (j % m) v hv
  have e:j / m*m+j % m=j:=by rw[Nat.mul_comm];exact Nat.div_add_mod j m
  rw[e,hu]at h1
  injection h1 with h1
  subst h1
  have:=hc _ _ hx _ _ hv
  rw[Addr.add_mid,show o+j=o+j / m*m+j % m by omega]
  exact this
theorem ZgT (k:IntKind) (x:Int):∀u,u∈ [Value.int k x]→u.oneCell'=true:=by
 intro u hu
 simp at hu
 subst hu
 rfl
theorem kp {w w':World} (h:Kept [] w w':=by repeat(first | with_reducible exact HK.out | with_reducible exact Kept.refl _ _ | with_reducible refine Kept.prev ?_ | with_reducible refine Kept.alloc' ?_ _ | with_reducible refine Kept.drew' ?_ | with_reducible refine Kept.setB ?_ _ _ _ (by omega) | with_reducible refine Kept.row' ?_ _ _ (by omega) | with_reducible refine Kept.map' ?_ _ _ (by omega))):Kept [] w w':=h
theorem kn {w w':World} (h:Kept [] w w':=by repeat(first | with_reducible exact HK.out | with_reducible exact Kept.refl _ _ | with_reducible refine Kept.trans ?_ (Kept.drewN _ _ _) | with_reducible refine Kept.prev ?_ | with_reducible refine Kept.alloc' ?_ _ | with_reducible refine Kept.drew' ?_)):Kept [] w w':=h
end
end Go.Proofs.YtfaecpkocgcofaaGreatDoor
