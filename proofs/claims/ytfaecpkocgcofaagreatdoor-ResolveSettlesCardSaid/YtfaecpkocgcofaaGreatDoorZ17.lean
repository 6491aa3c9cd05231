/- Lemmas for ResolveSettles, printed small: CB1 CB2 CK3 CB3. -/
import Derived.Test.YtfaecpkocgcofaaGreatDoorZ15
import Derived.RangeFuncNested
import Derived.RangeFuncBound
import Derived.RangeFuncCalls
import Derived.RangeFuncLeaves
import Derived.Shelf.RegionOpen
import Derived.OwnWalkIn
import Derived.TacticsInMore
import Derived.LoopNIn
import Derived.LoopIn
import Derived.OrdersIn
import Derived.Deep.AppendLies
set_option linter.all false
set_option maxRecDepth 100000
set_option maxHeartbeats 8000000
open Go.Proofs.Tryz
namespace Go.Proofs.YtfaecpkocgcofaaGreatDoor
section
open Go.RowKit Go.Shelf
attribute [local go_sem] Oper.semAt_some
structure YH (X:List Nat) (w w':World):Prop where
 os:w'.os=w.os
 tape:w'.tape=w.tape
 output:w'.output=w.output
 size:w.heap.size≤w'.heap.size
 block:∀k o,w.heap[k]? =some o→o.isCells=true→k∉X→w'.heap[k]? =some o
theorem YH.refl (X:List Nat) (w:World):YH X w w:=⟨rfl,rfl,rfl,Nat.le_refl _,fun _ _ h _ _=>h⟩
theorem YH.trans {X:List Nat} {a b c:World} (h:YH X a b) (k:YH X b c):YH X a c:=
 ⟨k.os.trans h.os,k.tape.trans h.tape,k.output.trans h.output,Nat.le_trans h.size k.size,fun i o hi ho hx=>k.block i o (h.block i o hi ho hx) ho hx⟩
theorem Kept.toC {X:List Nat} {a b:World} (h:Kept X a b):YH X a b:=
 ⟨h.os,h.tape,h.output,h.size,fun i o hi _ hx=>h.obj hi hx⟩
theorem YH.mono {X Y:List Nat} {a b:World} (h:YH X a b) (hs:∀x,x∈X→x∈Y):YH Y a b:=
 ⟨h.os,h.tape,h.output,h.size,fun i o hi ho hx=>h.block i o hi ho (fun hm=>hx (hs i hm))⟩
theorem YH.cell {X:List Nat} {w w':World} (h:YH X w w') {p:Addr} {v:Value} (hc:w.cell? p=some v) (hx:p.block∉X):w'.cell? p=some v:=by
 obtain⟨o,ho,hk⟩:=cells_of_cell hc
 exact(World.cell?_of_block ((h.block _ o ho hk hx).trans ho.symm)).trans hc
theorem YH.putObj {X:List Nat} (W:World) (l:Nat) (o o':Obj) (h:W.heap[l]? =some o) (ho:o.isCells=false):YH X W (W.putObj l o'):=
 ⟨rfl,rfl,rfl,by simp,fun k u hk hu _=>by
  have e:k≠l:=fun e=>by subst e;rw[h]at hk;injection hk with hk;subst hk;rw[ho]at hu;cases hu
  rw[World.putObj_heap_other e];exact hk⟩
theorem Zo.keptC {α:Type} {k:Nat} {cells:α→List Value} {X:List Nat} {w w':World} {A:Option Addr} {l:List α} (h:Zo α k cells w A l) (hk:YH X w w') (hX:∀x,x∈X→w.heap.size≤x):Zo α k cells w' A l:=by
 rcases h with h | ⟨b,o,e,hc⟩
 ·exact .inl h
 ·refine .inr ⟨b,o,e,fun j r hr i u hu=>?_⟩
  have h0:=hc j r hr i u hu
  exact hk.cell h0 (fun hm=>by have h1:=World.block_lt_of_cell? w _ h0;have h2:=hX _ hm;simp only at h1 h2;omega)
theorem ZM.keptX {X:List Nat} {w w':World} {A:Option Addr} {xs:List Int} (h:ZM w A xs) (hk:YH X w w') (hX:∀x,x∈X→w.heap.size≤x):ZM w' A xs:=by
 rcases h with h | ⟨b,o,e,hc⟩
 ·exact .inl h
 ·refine .inr ⟨b,o,e,fun j x hx=>?_⟩
  have h0:=hc j x hx
  exact hk.cell h0 (fun hm=>by have h1:=World.block_lt_of_cell? w _ h0;have h2:=hX _ hm;simp only at h1 h2;omega)
theorem Qe.keptC {X:List Nat} {w w':World} (hk:YH X w w') (hX:∀x,x∈X→w.heap.size≤x):∀{n:Nat} {x:ExV},Qe w n x→Qe w' n x
 | 0,_,h=>h
 | _+1,_,⟨h1,h2,h3,h4,h5,h6,h7,h8,h9⟩=>⟨h1.keptC hk hX,fun y hy=>(h2 y hy).keptC hk hX,h3.keptC hk hX,fun y hy=>(h4 y hy).keptC hk hX,h5,h6,h7,h8,fun y hy=>
  ⟨(h9 y hy).1.keptC hk hX,(h9 y hy).2.1,fun c hc=>⟨((h9 y hy).2.2 c hc).1.keptC hk hX,((h9 y hy).2.2 c hc).2.1,fun z hz=>(((h9 y hy).2.2 c hc).2.2 z hz).keptC hk hX⟩⟩⟩
theorem Zw.keptC {X:List Nat} {w w':World} {v:Zp} {t:Tab} (h:Zw w v t) (hk:YH X w w') (hX:∀x,x∈X→w.heap.size≤x):Zw w' v t:=
 ⟨h.es.keptC hk hX,h.ss.keptC hk hX,h.ts.keptC hk hX,h.el,h.sl,h.tl,h.ll,h.sb,h.eb,fun x hx=>(h.ps x hx).keptC hk hX,h.ok,h.elc,h.em,h.e0,h.slc,h.sm,h.tlc,h.tm,h.sm5,h.pl,h.ow,
  fun x hx p hp=>(h.df x hx p hp).imp fun _ h=>h.keptC hk hX,fun y hy=>⟨(h.cs y hy).1.keptC hk hX,(h.cs y hy).2⟩,fun y hy c hc=>⟨(h.ws y hy c hc).1.keptX hk hX,(h.ws y hy c hc).2⟩⟩
def ZiO (t:Tab):Nat→Int→List Int
 | 0,_=>[]
 | k+1,e=>match Y9 t e with
  | none=>[]
  | some x=>e::(if e≤x.owner then []else ZiO t k x.owner)
def Y0 (t:Tab) (e:Int):List Int:=ZiO t (e+1).toNat e
theorem JT {t:Tab} {e:Int} {x:Zx} (h:Y9 t e=some x):0≤e:=by
 unfold Y9 at h
 by_cases h0:e < 0
 ·simp[h0]at h
 ·omega
theorem Zp1 {t:Tab} {e:Int} (h:e < 0):Y9 t e=none:=by simp[Y9,h]
theorem Zp3 (t:Tab):∀(k:Nat) (e:Int),(e+1).toNat≤k→ZiO t (k+1) e=ZiO t k e:=by
 intro k
 induction k with
 | zero=>
  intro e h
  simp[ZiO,Zp1 (show e < 0 by omega)]
 | succ k ih=>
  intro e h
  rw[ZiO,ZiO]
  cases hr:Y9 t e with
  | none=>rfl
  | some x=>
   have h0:=JT hr
   simp only
   by_cases hx:e≤x.owner
   ·rw[if_pos hx,if_pos hx]
   ·rw[if_neg hx,if_neg hx,ih x.owner (by omega)]
theorem Zp4 (t:Tab) (e:Int):∀(k:Nat),(e+1).toNat≤k→ZiO t k e=Y0 t e:=by
 intro k h
 induction k with
 | zero=>unfold Y0;rw[show(e+1).toNat=0 by omega]
 | succ k ih=>
  by_cases hk:(e+1).toNat≤k
  ·rw[Zp3 t k e hk,ih hk]
  ·unfold Y0;rw[show(e+1).toNat=k+1 by omega]
theorem Zfi {t:Tab} {e:Int} (h:Y9 t e=none):Y0 t e= []:=by
 unfold Y0
 cases(e+1).toNat with
 | zero=>rfl
 | succ k=>rw[ZiO,h]
theorem Zkp {t:Tab} {e:Int} {x:Zx} (h:Y9 t e=some x):Y0 t e=e::(if e≤x.owner then []else Y0 t x.owner):=by
 have h0:=JT h
 obtain⟨q,hq⟩:∃q,(e+1).toNat=q+1:=⟨e.toNat,by omega⟩
 unfold Y0
 rw[hq,ZiO,h]
 simp only
 by_cases hx:e≤x.owner
 ·rw[if_pos hx,if_pos hx]
 ·rw[if_neg hx,if_neg hx,Zp4 t x.owner q (by omega)]
  rfl
theorem Zbm (w:World) (v:Zp) (t:Tab) (r:Int):
 Calls prog 166 #[.agg (v.cells t),.int .i64 r] w fun e w'=>e= .returned (.func (.func 238) #[] #[.pointer (some ⟨w.heap.size+1,0,none⟩),.pointer (some ⟨w.heap.size,0,none⟩)])∧w'=(w.alloc (.cells (v.cells t) 231)).alloc (.cells #[.int .i64 r] 3):=by
 unfold Zp.cells
 go_enter func166,ntmps166
 go_wp2_with fail
 go_ret
 exact⟨rfl,rfl⟩
theorem Zfq (n:Nat) (hn:1≤n) (l Be Bv:Nat) (v:Zp) (t:Tab) (r:Int) (Kp:World→World→Prop) (wb:World) (J Jx:List Int→World→Prop)
 (hKt:∀{A B C:World},Kp A B→Kp B C→Kp A C) (hKk:∀{A B:World},Kept [] A B→Kp A B) (hK43:∀{A B:World} {k:Nat} {x:Zx},Kp A B→A.heap[k]? =some (.cells x.cells.toArray 95 (0,0))→B.heap[k]? =some (.cells x.cells.toArray 95 (0,0)))
 (hT:∀W,Kp wb W→Zw W v t∧Yw W Bv v t) (hR:wb.cell? ⟨Be,0,none⟩=some (.int .i64 r))
 (hY:∀pre x W,J pre W→pre.length < (Y0 t r).length→YieldAt Fence.wide (n - 1) prog l #[.int .i64 x] W fun e W'=>
  (e= .returned (.bool true)∧J (pre++ [x]) W'∧Kp W W')∨(e= .returned (.bool false)∧Jx (pre++ [x]) W'))
 (W:World) (hW:Below wb.heap.size wb W) (hJ:AbidesFrom W.heap.size J) (h0:J [] W):
 CallsIn Fence.wide n prog 238 #[.func (.yield l) #[] #[],.pointer (some ⟨Be,0,none⟩),.pointer (some ⟨Bv,0,none⟩)] W fun e W'=>(∃v,e= .returned v)∧
  ((∃ys,ys=Y0 t r∧J ys W')∨(∃pre,pre <+:Y0 t r∧Jx pre W')):=by
 have HT:=hh hT
 have HKT:Hid (∀{A B C:World},Kp A B→Kp B C→Kp A C):=hKt
 have HKK:Hid (∀{A B:World},Kept [] A B→Kp A B):=hKk
 have HK43:Hid (∀{A B:World} {k:Nat} {x:Zx},Kp A B→A.heap[k]? =some (.cells x.cells.toArray 95 (0,0))→B.heap[k]? =some (.cells x.cells.toArray 95 (0,0))):=hK43
 have HJ:=hh hJ
 have HY:=hh hY
 have hkw:Kp wb W:=hKk (Kept.of_below hW)
 have HKW:=hh hkw
 have hBe:W.cell? ⟨Be,0,none⟩=some (.int .i64 r):=(Kept.of_below (X:=[]) hW).cell hR (by simp)
 clear hT hJ hY hkw hW hR hKt hKk hK43
 refine callsIn_of_wp func238 rfl trivial ?_ rfl
 simp only[ntmps238,List.size_toArray,List.length_cons,List.length_nil,Nat.reduceAdd,Nat.reduceSub,Array.replicate_succ,Array.replicate_zero,List.push_toArray,List.append_toArray,List.nil_append,List.cons_append]
 gi_wp2
 gi_loopw [4] (fun p wr=>∃(pre:List Int) (e:Int),p= .int .i64 e∧Y0 t r=pre++Y0 t e∧Kp wb wr∧J pre wr) (fun p _=>(intOf p+1).toNat)
 case atStart=>exact⟨[],r,rfl,rfl,HKW.out,h0⟩
 case round=>
  obtain⟨pre,e,rfl,hre,hkr,hj⟩:=hrel
  have HRE:=hh hre
  have HKR:=hh hkr
  have HJ0:=hh hj
  have HTR:=hh (HT.out wr hkr).1
  have hvb:Yw wr Bv v t:=(HT.out wr hkr).2
  obtain⟨c0,c1,c2,c3,c4⟩:=hvb.cells
  clear hre hkr hj hvb
  gi_wp2
  refine⟨trivial,?_⟩
  refine(callsIn_wide.2 (ZhG wr v t e HTR.out)).mono ?_
  rintro ee w1 ⟨rfl,hk1⟩
  have hg1:wr.grownBy w1 none:=⟨hk1.os,hk1.tape,hk1.output,hk1.size,fun k hk _=>hk1.block k hk (by simp)⟩
  have HK1:=hh hk1
  have HJ1:Hid (J pre w1):=HJ.out _ _ _ _ HJ0.out hg1 (fun q hq=>by cases hq)
  clear hk1 hg1 c0 c1 c2 c3 c4
  cases hr:Y9 t e with
  | none=>
   have HE:Hid (Y0 t r=pre):=by rw[Hid,HRE.out,Zfi hr,List.append_nil]
   have hxe:JJ t e=Yu:=by unfold JJ;rw[hr];rfl
   rw[hxe]
   have HJ2:Hid (J pre (w1.alloc (.cells Yu.cells.toArray 95))):=HJ.out _ _ _ _ HJ1.out (World.grownBy_alloc _ _ none) (fun q hq=>by cases hq)
   clear hr hxe
   gi_wp2
   refine⟨fun _ _=>trivial,?_⟩
   gi_wp2
   refine bodyPost_ret (results_none rfl _ _ _) rfl ?_
   exact⟨⟨_,rfl⟩,.inl ⟨pre,HE.out.symm,HJ2.out⟩⟩
  | some x=>
   have hxe:JJ t e=x:=by unfold JJ;rw[hr];rfl
   rw[hxe]
   have HRS:=hh (Zkp hr)
   have hge:=JT hr
   have HKX:Hid (Kp wb (w1.alloc (.cells x.cells.toArray 95))):=HKT.out HKR.out (HKK.out (HK1.out.trans (Kept.alloc _ _ _)))
   have HJ2:Hid (J pre (w1.alloc (.cells x.cells.toArray 95))):=HJ.out _ _ _ _ HJ1.out (World.grownBy_alloc _ _ none) (fun q hq=>by cases hq)
   have HX5:Hid ((w1.alloc (.cells x.cells.toArray 95)).heap[w1.heap.size]? =some (.cells x.cells.toArray 95 (0,0))):=heap_alloc_new _ _
   obtain⟨fn,tmps,assign,body,hy,hR⟩:=HY.out pre e (w1.alloc (.cells x.cells.toArray 95)) HJ2.out (by rw[HRE.out,HRS.out];simp)
   have HRR:=hh hR
   clear hr hxe hR
   gi_wp2
   refine HRR.out.mono ?_
   rintro ee W3 (⟨rfl,hJ3,hk3⟩ | ⟨rfl,hJx3⟩)
   ·have HJ3:=hh hJ3
    have HK3:=hh (HKT.out HKX.out hk3)
    have q2:=Zz (x:=x) (HK43.out hk3 HX5.out) 2 rfl
    clear hJ3 hk3 hy
    by_cases ho:e≤x.owner
    ·have HE:Hid (Y0 t r=pre++ [e]):=by rw[Hid,HRE.out,HRS.out,if_pos ho]
     gi_wp2
     refine bodyPost_ret (results_none rfl _ _ _) rfl ?_
     exact⟨⟨_,rfl⟩,.inl ⟨pre++ [e],HE.out.symm,HJ3.out⟩⟩
    ·have HE:Hid (Y0 t r=pre++ [e]++Y0 t x.owner):=by rw[Hid,HRE.out,HRS.out,if_neg ho];simp
     gi_wp2
     go_roundw
     case rel=>exact⟨pre++ [e],x.owner,rfl,HE.out,HK3.out,HJ3.out⟩
     case measure=>simp[intOf];omega
   ·have HP:Hid (pre++ [e] <+:Y0 t r):=by
     rw[Hid,HRE.out,HRS.out]
     exact⟨_,by rw[List.append_assoc];rfl⟩
    gi_wp2
    refine bodyPost_ret (results_none rfl _ _ _) rfl ?_
    exact⟨⟨_,rfl⟩,.inr ⟨pre++ [e],HP.out,hJx3⟩⟩
theorem J8 (n:Nat) (hn:1≤n) (Be Bv:Nat) (v:Zp) (t:Tab) (r:Int) (Kp:World→World→Prop) (wb:World)
 (hKt:∀{A B C:World},Kp A B→Kp B C→Kp A C) (hKk:∀{A B:World},Kept [] A B→Kp A B) (hK43:∀{A B:World} {k:Nat} {x:Zx},Kp A B→A.heap[k]? =some (.cells x.cells.toArray 95 (0,0))→B.heap[k]? =some (.cells x.cells.toArray 95 (0,0)))
 (hT:∀W,Kp wb W→Zw W v t∧Yw W Bv v t) (hR:wb.cell? ⟨Be,0,none⟩=some (.int .i64 r)):
 SeqStopsK Fence.wide n prog 238 #[.pointer (some ⟨Be,0,none⟩),.pointer (some ⟨Bv,0,none⟩)] (fun x:Int=>#[Value.int .i64 x]) Kp (fun ys=>ys=Y0 t r) (fun pre=>pre <+:Y0 t r) (Y0 t r).length wb:=
 fun l J Jx W hW hJ _ hY h0=>Zfq n hn l Be Bv v t r Kp wb J Jx hKt hKk hK43 hT hR hY W hW hJ h0
attribute [local go_sem] Oper.semAt_some
theorem Zdz {F:Fence} {n:Nat} {P:Program} {c:Code} {Q:Exit→Act→World→Prop} {a:Act} {W:World} (h:∀w5,w5=W→Code.wpIn F n P c Q a w5):Code.wpIn F n P c Q a W:=h W rfl
theorem ZB {W:World} {B:Nat} {v:Value} {t:TypeId} (h:W.heap[B]? =some (.cells #[v] t (0,0))):W.cell? ⟨B,0,none⟩=some v∧W.frozen? ⟨B,0,none⟩=false:=by
 constructor <;> simp[World.cell?,World.frozen?,h]
def Jr (t:Tab) (r o:Int):Bool:=(Y0 t r).contains o
theorem Zdl (w:World) (v:Zp) (t:Tab) (r o:Int) (hT:Zw w v t):
 Calls prog 104 #[.agg (v.cells t),.int .i64 r,.int .i64 o] w (J0 (Jr t r o) w):=by
 have HT:=hh hT
 clear hT
 refine(callsIn_wide (n:=4)).1 ?_
 refine callsIn_of_wp_marks func104 rfl trivial ?_ rfl
 simp only[ntmps104,List.size_toArray,List.length_cons,List.length_nil,Nat.reduceAdd,Nat.reduceSub,Array.replicate_succ,Array.replicate_zero,List.push_toArray,List.append_toArray,List.nil_append,List.cons_append]
 unfold Zp.cells
 gi_wp2
 refine⟨trivial,?_⟩
 refine(callsIn_wide.2 (Zbm _ v t r)).mono ?_
 rintro e w' ⟨rfl,rfl⟩
 gi_wp2
 refine Zdz ?_
 intro W0 hW0
 have hb0:Below w.heap.size w W0:=by
  rw[hW0]
  exact(((((Below.refl _ w).alloc (Nat.le_refl _) _).alloc (by simp) _).alloc (by simp;omega) _).alloc (by simp;omega) _).alloc (by simp;omega) _
 have hsz:W0.heap.size=w.heap.size+5:=by rw[hW0];simp
 have b1:W0.heap[w.heap.size+1]? =some (.cells #[.int .i64 o] 3 (0,0)):=by rw[hW0];exact Zr (Zr (Zr (Zf (by simp)) (by simp)) (by simp)) (by simp)
 have b2:W0.heap[w.heap.size+1+1]? =some (.cells #[.bool false] 4 (0,0)):=by rw[hW0];exact Zr (Zr (Zf (by simp)) (by simp)) (by simp)
 have b3:W0.heap[w.heap.size+1+1+1]? =some (.cells (v.cells t) 231 (0,0)):=by rw[hW0];exact Zr (Zf (by simp)) (by simp)
 have b4:W0.heap[w.heap.size+1+1+1+1]? =some (.cells #[.int .i64 r] 3 (0,0)):=by rw[hW0];exact Zf (by simp)
 clear hW0
 have c1:=ZB b1
 have c2:=ZB b2
 have c4:=ZB b4
 refine wpIn_rangeFunc_ownF rfl (by omega) (gf:=238) (lb:=#[.pointer (some ⟨w.heap.size+1+1+1+1,0,none⟩),.pointer (some ⟨w.heap.size+1+1+1,0,none⟩)]) rfl trivial (enters_of func238 (by kernel_rfl) rfl)
  (J8 3 (by omega) (w.heap.size+1+1+1+1) (w.heap.size+1+1+1) v t r (YH []) W0 (fun h k=>h.trans k) (fun h=>h.toC) (fun h hb=>h.block _ _ hb rfl (by simp)) (fun W hk=>⟨(HT.out.kept (Kept.of_below hb0)).keptC hk (by simp),hk.block _ _ b3 rfl (by simp)⟩) c4.1)
  (fun h k=>h.trans k) (fun W l u u' _ h hc _=>YH.putObj W l u u' h hc) (Below.refl _ _) (fun _=>rfl)
  (fun pre W=>((∀y∈pre,y≠o)∧W.cell? ⟨w.heap.size+1,0,none⟩=some (.int .i64 o)∧W.cell? ⟨w.heap.size+1+1,0,none⟩=some (.bool false)∧W.frozen? ⟨w.heap.size+1+1,0,none⟩=false)∧Below w.heap.size w W)
  (fun c pre W=>(c= .ret∧o∈pre∧W.cell? ⟨w.heap.size+1+1,0,none⟩=some (.bool true))∧Below w.heap.size w W)
  (OwnFrom.and (Own.from (fun s A B row hs hg hr=>⟨hs.1,cell_kept hs.2.1 hg hr,cell_kept hs.2.2.1 hg hr,(frozen_kept hs.2.2.1 hg hr).trans hs.2.2.2⟩) _) (ownFrom_below (Nat.le_refl _) (by omega)))
  (fun c=>OwnFrom.and (Own.from (fun s A B row hs hg hr=>⟨hs.1,hs.2.1,cell_kept hs.2.2 hg hr⟩) _) (ownFrom_below (Nat.le_refl _) (by omega)))
  ⟨⟨by simp,c1.1,c2.1,c2.2⟩,hb0⟩
  (fun x=>{tmps:=#[.agg #[.slice v.ta t.types.length v.tc,.slice v.sa t.subs.length v.sc,.slice v.ea t.ents.length v.ec,.slice v.ga v.gn v.gc,.slice v.ia v.im v.ic],.int .i64 r,.int .i64 o,.pointer (some ⟨w.heap.size,0,none⟩),undef,.pointer (some ⟨w.heap.size+1,0,none⟩),.pointer (some ⟨w.heap.size+1+1,0,none⟩),.int .i64 x,
   .agg #[.slice v.ta t.types.length v.tc,.slice v.sa t.subs.length v.sc,.slice v.ea t.ents.length v.ec,.slice v.ga v.gn v.gc,.slice v.ia v.im v.ic],.agg #[.slice v.ta t.types.length v.tc,.slice v.sa t.subs.length v.sc,.slice v.ea t.ents.length v.ec,.slice v.ga v.gn v.gc,.slice v.ia v.im v.ic],.int .i64 r,
   .func (.func 238) #[] #[.pointer (some ⟨w.heap.size+1+1+1+1,0,none⟩),.pointer (some ⟨w.heap.size+1+1+1,0,none⟩)],.int .i64 x,undef,undef,undef],defers:=[]}) ?assign ?body ?done ?stop
 case assign=>
  intro l x W K hK
  gi_wp2
  exact hK
 case body=>
  rintro l pre x W ⟨⟨hp,hcw,hcr,hfr⟩,hB⟩ _
  gi_wp2
  ·rename_i hx
   obtain rfl:x=o:=eq_of_beq hx
   exact⟨KeepsOthers.setCell _ _ _,⟨rfl,List.mem_append.2 (.inr (by simp)),World.cell?_setCell_same' _ _ _ (by rw[hcr];rfl)⟩,hB.setCell (p:=⟨w.heap.size+1+1,0,none⟩) (by simp;omega) _⟩
  ·rename_i hx
   exact⟨KeepsOthers.refl _,YH.refl _ _,⟨fun y hy=>(List.mem_append.1 hy).elim (hp y) (fun e e'=>by simp at e;subst e;subst e';simp at hx),hcw,hcr,hfr⟩,hB⟩
 case done=>
  rintro D ys W hD rfl ⟨⟨hne,_,hcr,hfr⟩,hB⟩ hK
  gi_wp2
  have hK':=(KeepsOthers.setCell W ⟨w.heap.size+1+1,0,none⟩ (.bool false)).same D _ hK rfl
  refine⟨by simp,.inl ⟨_,_,rfl,run_takeDeferred hK',?_⟩⟩
  have hc5:=cell_kept (World.cell?_setCell_same' W ⟨w.heap.size+1+1,0,none⟩ (.bool false) (by rw[hcr];rfl)) (grownBy_putObj' _ D (.deferred none)) (fun r e=>by cases e;exact⟨_,hK',rfl⟩)
  have hR:Jr t r o=false:=by
   unfold Jr
   cases h:(Y0 t r).contains o
   ·rfl
   ·exact absurd rfl (hne o (by simpa using h))
  refine⟨.bool false,?_,by rw[hR],Kept.of_below ((hB.setCell (p:=⟨w.heap.size+1+1,0,none⟩) (by simp;omega) _).trans (belowK_b (w:=w) (Nat.le_refl _) _ D _ _ (by omega) hK' rfl rfl))⟩
  simp[results,Tryz.f104,go_sem,hc5]
 case stop=>
  rintro D c pre W hD hpre ⟨⟨rfl,hin,hcr⟩,hB⟩ hK
  gi_wp2
  refine⟨by simp,.inl ⟨_,_,rfl,run_takeDeferred hK,?_⟩⟩
  have hc5:=cell_kept hcr (grownBy_putObj' _ D (.deferred none)) (fun r e=>by cases e;exact⟨_,hK,rfl⟩)
  have hR:Jr t r o=true:=by
   unfold Jr
   simpa using hpre.subset hin
  refine⟨.bool true,?_,by rw[hR],Kept.of_below (hB.trans (belowK_b (w:=w) (Nat.le_refl _) W D _ _ (by omega) hK rfl rfl))⟩
  simp[results,Tryz.f104,go_sem,hc5]
end
section
open Go.RowKit
section
variable {P:Program} {md:Region.Mode} {ops:Array Oper} {Q:Exit→Act→World→Prop} {l n:Nat}
theorem ZiM {row:String} {args:Array Value} {w:World} {R:Value→World→Prop} (h:Rows P row args w R):RowsIn (Fence.wide.inRound l) n P row args w R:=
 fun c cs _=>let ⟨v,w',r,s⟩:=h c cs;⟨v,w',r,stepsIn_wide.2 s⟩
theorem ZcP (hnd:∀o,o∈ops→∀c,o.op≠ .defer c) (hlo:∀a w,¬Q .outgrown a w) {i:Nat} {K K':Act→World→Prop} (hK:∀a w,K a w→K' a w) {a:Act} {w:World}
 (h:wpOp P ops Q i K a w):wpOpIn (Fence.wide.inRound l) n P ops Q i K' a w:=by
 have hlo':¬LetsOut Q:=fun⟨a,w,h⟩=>hlo a w h
 unfold wpOp at h
 unfold wpOpIn
 cases ho:ops[i]? with
 | none=>rw[ho]at h;exact hK _ _ h
 | some o=>
  rw[ho]at h
  simp only at h⊢
  have hno:=hnd o (Array.mem_of_getElem? ho)
  by_cases hw:Region.wanted o (yielded ops a.tmps)=true
  ·rw[if_pos hw]at h⊢
   rcases h with h | ⟨_,h⟩
   ·refine⟨fun _ _=>trivial,?_⟩
    have hs:Oper.semAt (Fence.wide.inRound l).round a.eval o=execOp a.eval o:=Oper.semAt_eq _ _ _ hno
    rw[hs]
    unfold Oper.wp at h
    generalize (execOp a.eval o).run P w=r at*
    cases r with
    | ok x w'=>
     cases x <;> simp only[Oper.upon]at h <;> simp only[Oper.uponIn]
     case value v=>exact hK _ _ h
     case skip=>exact hK _ _ h
     case defer d=>exact hK _ _ h
     case enter f args=>
      refine⟨fun hd=>by simp[Fence.wide]at hd,?_⟩
      refine CallsIn.inRound l ((callsIn_wide (n:=n - 1)).2 (Calls.mono h fun e w'' he=>?_))
      cases e with
      | returned u=>exact hK _ _ he
      | panicked c=>exact he
      | outgrown=>exact he
     case row row args=>exact⟨fun hd=>by simp[Fence.wide]at hd,ZiM (Rows.mono h fun v w'' he=>hK _ _ he)⟩
    | halt x w'=>
     cases x <;> simp only[Oper.upon]at h <;> simp only[Oper.uponIn]
     case panic u=>exact h
   ·exact absurd h hlo'
  ·rw[if_neg hw]at h⊢
   exact⟨fun _ _=>trivial,hK _ _ h⟩
theorem JA (hnd:∀o,o∈ops→∀c,o.op≠ .defer c) (hlo:∀a w,¬Q .outgrown a w):∀(fuel:Nat) (listed:Array Bool) (a:Act) (w:World),wpAny P md ops Q fuel listed a w→wpAnyIn (Fence.wide.inRound l) n P md ops Q fuel listed a w
 | 0,_,_,_,h=>h
 | fuel+1,_,_,_,h=>⟨h.1,fun i hi=>ZcP hnd hlo (fun a' w' h'=>JA hnd hlo fuel _ a' w' h') (h.2 i hi)⟩
def ZkC (ops:Array Oper):Bool:=ops.all fun o=>match o.op with | .defer _=>false | _=>true
theorem Zfu {ops:Array Oper} (h:ZkC ops=true):∀o,o∈ops→∀c,o.op≠ .defer c:=fun o ho c e=>by
 have:=Array.all_eq_true_iff_forall_mem.1 h o ho
 rw[e]at this
 cases this
theorem ZbW {id:Nat} {S:World→Prop} {a:Act} {w:World} (hm:P.follows .mixedOrders=true) (hnd:ZkC ops=true) (hlo:∀a w,¬Q .outgrown a w) (hS:S w.drew)
 (h:S w.drew→wpAnyH P .any ops Q S ops.size (Array.replicate ops.size false) a w.drew):(Code.region id ops true).wpIn (Fence.wide.inRound l) n P Q a w:=
 wpIn_region_any hm (JA (Zfu hnd) hlo _ _ _ _ (wpAny_of_held _ _ _ _ (h hS)))
end
def ZfL (v:Zp) (t:Tab) (h:WhV) (name:ByteArray) (all:Value):Array Value:=
 #[.slice v.ta t.types.length v.tc,.slice v.sa t.subs.length v.sc,.slice v.ea t.ents.length v.ec,.slice v.ga v.gn v.gc,.slice v.ia v.im v.ic,.int .i64 h.region,.int .i64 h.after,.slice h.ua h.units.length h.uc,.slice h.sa h.uses.length h.sc,.string name,all]
structure ZX (w:World) (F:Nat) (v:Zp) (t:Tab) (h:WhV) (name:ByteArray) (all:List Int):Prop where
 box:∃a c,w.heap[F]? =some (.cells (ZfL v t h name (.slice a all.length c)) 233 (0,0))∧ZM w a all∧all.length≤c∧c≤9223372036854775807
 tab:Zw w v t
 wh:ZmB w h
theorem ZX.kept {w w':World} {F:Nat} {v:Zp} {t:Tab} {h:WhV} {name:ByteArray} {all:List Int} (hf:ZX w F v t h name all) (hk:Kept [] w w'):ZX w' F v t h name all:=by
 obtain⟨⟨a,c,h1,h2,h3,h4⟩,ht,hw⟩:=hf
 exact⟨⟨a,c,hk.obj h1 (by simp),h2.kept hk,h3,h4⟩,ht.kept hk,hw.kept hk⟩
def ZpQ (name:ByteArray) (after:Int) (e:Nat) (x:Zx):Bool:=(!name.toList.isEmpty && (x.name.toList == name.toList)) && decide ((e:Int) < after)
def Zkj (t:Tab) (name:ByteArray) (after:Int) (e:Nat):Bool:=((t.ents[e]?).map (ZpQ name after e)).getD false
def Zgi (t:Tab) (name:ByteArray) (after:Int) (k:Nat):List Int:=((List.range k).filter (Zkj t name after)).map (fun i:Nat=>(i:Int))
def Zhx (t:Tab) (name:ByteArray) (after:Int):List Int:=Zgi t name after t.ents.length
theorem Zl9 (t:Tab) (name:ByteArray) (after:Int) (k:Nat):Zgi t name after (k+1)=Zgi t name after k++(if Zkj t name after k then [(k:Int)]else []):=by
 unfold Zgi
 rw[List.range_succ,List.filter_append,List.map_append]
 congr 1
 cases h:Zkj t name after k <;> simp[List.filter,h]
theorem ZeI (t:Tab) (name:ByteArray) (after:Int) (k:Nat):(Zgi t name after k).length≤k:=by
 unfold Zgi
 rw[List.length_map]
 exact Nat.le_trans (List.length_filter_le _ _) (by simp)
def ZeM (v:Zp) (t:Tab) (h:WhV) (name:ByteArray) (w1:World) (F k:Nat) (wr:World):Prop:=
 ∃A c,wr.heap[F]? =some (.cells (ZfL v t h name (.slice A (Zgi t name h.after k).length c)) 233 (0,0))∧
  wr.ownsRow w1.heap.size 3 1 (.slice A (Zgi t name h.after k).length c) (Zgi t name h.after k).length ((Zgi t name h.after k).map (Value.int .i64))∧Kept [F] w1 wr
theorem Zld (v:Zp) (t:Tab) (h:WhV) (name:ByteArray) (a b:Value):(ZfL v t h name a).setIfInBounds 10 b=ZfL v t h name b:=rfl
theorem Zdq {w:World} {F:Nat} {v:Zp} {t:Tab} {h:WhV} {name:ByteArray} {a:Value} (hb:w.heap[F]? =some (.cells (ZfL v t h name a) 233 (0,0))):w.cell? ⟨F,10,none⟩=some a∧w.frozen? ⟨F,10,none⟩=false:=
 ⟨(cell_of_row _ _ _ _ _ _ hb).trans rfl,frozen_of_row _ _ _ _ _ hb⟩
def Zvx (v:Zp) (t:Tab) (h:WhV) (name:ByteArray) (w:World) (e:Ending) (w':World):Prop:=
 ∃F,e= .returned (.pointer (some ⟨F,0,none⟩))∧w.heap.size≤F∧ZX w' F v t h name (Zhx t name h.after)∧Kept [] w w'
theorem Zkh (w:World) (v:Zp) (t:Tab) (h:WhV) (name:ByteArray) (hT:Zw w v t) (hH:ZmB w h) (hs:t.ents.length≤100000):
 Calls prog 155 #[.agg (v.cells t),.agg h.cells.toArray,.string name] w (Zvx v t h name w):=by
 have HT:=hh hT
 have HH:=hh hH
 have q1:=hT.elc
 have q2:=hT.em
 clear hT hH
 obtain⟨i0,hi,hz0,hz1,hz2⟩:=info_parts ZaJ
 unfold Zp.cells WhV.cells
 go_enter func155,ntmps155
 go_upto_region 2 with(fail)
 refine Zm ?_
 intro w1 hw1
 have HK1:Hid (Kept [] w w1):=by rw[Hid,hw1];exact((Kept.alloc _ _ _).trans (Kept.alloc _ _ _)).trans (Kept.alloc _ _ _)
 have b0:w1.heap[w.heap.size]? =some (.cells (v.cells t) 30 (0,0)):=by rw[hw1];exact Zr (Zr (Zf rfl) (by simp)) (by simp;omega)
 have b1:w1.heap[w.heap.size+1]? =some (.cells h.cells.toArray 33 (0,0)):=by rw[hw1];exact Zr (Zf (by simp)) (by simp)
 have b2:w1.heap[w.heap.size+1+1]? =some (.cells (ZfL v t h name (.slice none 0 0)) 233 (0,0)):=by rw[hw1];exact Zf (by simp)
 have hsz:w1.heap.size=w.heap.size+3:=by rw[hw1];simp
 have e2:w1.cell? ⟨w.heap.size,2,none⟩=some (.slice v.ea t.ents.length v.ec):=(cell_of_row _ _ _ _ _ _ b0).trans rfl
 have a1:w1.cell? ⟨w.heap.size+1,1,none⟩=some (.int .i64 h.after):=(cell_of_row _ _ _ _ _ _ b1).trans rfl
 have HL0:Hid (ZeM v t h name w1 (w.heap.size+1+1) 0 w1):=⟨none,0,b2,World.ownsRow_nil _ _ _ _,Kept.refl _ _⟩
 have HA1:=hh a1
 have hF:w.heap.size+1+1 < w1.heap.size:=by omega
 have hFw:w.heap.size+1≠w.heap.size+1+1:=by omega
 have HFW:=hh hFw
 have hwF:w.heap.size≤w.heap.size+1+1:=by omega
 clear hw1 b0 b1 b2 hsz a1 hFw
 generalize hFF:w.heap.size+1+1=F at*
 clear hFF
 go_wp2_with fail
 clear e2
 go_loopw [19] (fun i wr=>∃k:Nat,k≤t.ents.length∧i= .int .i64 k∧ZeM v t h name w1 F k wr) (fun i _=>t.ents.length - (intOf i).toNat)
 case atStart=>exact⟨0,Nat.zero_le _,rfl,HL0.out⟩
 case round=>
  obtain⟨k,hk,rfl,A,c,hbx,hown,hkr⟩:=hrel
  have HBX:=hh hbx
  have HO:=hh hown
  have HKR:=hh hkr
  have HKW:Hid (Kept [] w wr):=HK1.out.above hkr (fun z hz=>by simp at hz;omega)
  have hzr:=hkr.size
  clear hbx hown hkr
  obtain⟨w2,rfl⟩:∃w2:World,w2=wr:=⟨_,rfl⟩
  by_cases hlt:k < t.ents.length
  ·obtain⟨x,hx⟩:∃x,t.ents[k]? =some x:=⟨_,List.getElem?_eq_getElem hlt⟩
   obtain⟨b,o,hea,hr⟩:=(HT.out.kept HKW.out).es.some_ hx
   have HROW:=hh (hr k x hx)
   have HSEL:Hid (Zkj t name h.after k=ZpQ name h.after k x):=by rw[Hid,Zkj,hx];rfl
   rw[hea]
   clear hr hx hea
   go_upto_region 5 with(refine wpList_load_mid rfl 95 (.tmp 22) rfl b (o+k*22) rfl x.cells _ HROW.out underlying95 rfl (Tryz.infoEnt x) ?_)
   refine Zm ?_
   intro w3 hw3
   have hk3:Kept [] w2 w3:=by rw[hw3];exact Kept.alloc _ _ _
   have n1:w3.cell? ⟨w2.heap.size,1,none⟩=some (.string x.name):=by rw[hw3];exact Zz (x:=x) (heap_alloc_new _ _) 1 rfl
   have a1:=hk3.cell (HKR.out.cell HA1.out (by simpa using HFW.out)) (by simp)
   have HBX3:=hh (hk3.obj HBX.out (by simp))
   have HO3:=hh (Zk HO.out hk3 (by simp))
   have HKR3:=hh (HKR.out.trans (hk3.mono (by simp)))
   have hz3:=HKR3.out.size
   have hal:=ZeI t name h.after k
   have HAS:=hh (Zl9 t name h.after k)
   clear hw3 hk3 HROW HBX HO HKR
   have HNO:Hid (ZpQ name h.after k x=false→ZeM v t h name w1 F (k+1) w3):=fun hf=>by
    have e:Zgi t name h.after (k+1)=Zgi t name h.after k:=by rw[HAS.out,HSEL.out,hf];simp
    exact⟨A,c,by rw[e];exact HBX3.out,by rw[e];exact HO3.out,HKR3.out⟩
   cases h1:name.toList.isEmpty
   ·cases h2:(x.name.toList == name.toList)
    ·have HN:=hh (HNO.out (by simp[ZpQ,h1,h2]))
     clear HNO
     go_wp2_with fail
     go_roundw
     case rel=>exact⟨k+1,by omega,by go_num,HN.out⟩
     case measure=>simp[intOf];omega
    ·cases h3:decide ((k:Int) < h.after)
     ·have HN:=hh (HNO.out (by simp[ZpQ,h1,h2,h3]))
      clear HNO
      go_wp2_with fail
      go_roundw
      case rel=>exact⟨k+1,by omega,by go_num,HN.out⟩
      case measure=>simp[intOf];omega
     ·have HS1:Hid (Zgi t name h.after (k+1)=Zgi t name h.after k++ [(k:Int)]):=by
       rw[Hid,HAS.out,HSEL.out];simp[ZpQ,h1,h2,h3]
      obtain⟨f1,f2⟩:=Zdq HBX3.out
      clear HNO HAS
      generalize Zgi t name h.after k=zs at*
      have hA:zs.length+1≤maxLen:=by unfold maxLen;omega
      have hB:(zs.length+1)*8≤140737488355328:=by omega
      have hC:w1.heap.size≤(w3.alloc (.cells #[.int .i64 k] 3)).heap.size:=by simp;omega
      go_wp2_with (at_builtin;refine wpList_append_own _ rfl _ _ 31 rfl w1.heap.size 3 i0 (.int .i64 0) 1 8 underlying31 hi hz0 hz1 hz2 rfl (by decide) (.slice A zs.length c) zs.length (zs.map (Value.int .i64)) rfl (HO3.out.alloc _) ⟨w3.heap.size,0,none⟩ 1 1 [.int .i64 k] rfl rfl (cell_one_new _ _ _) (ZgT _ _) hA hB hC ?_;intro vb wb hob hgb _;obtain⟨AB,CB,rfl⟩:=Zq hob;have hbx:wb.heap[F]? =some (.cells (ZfL v t h name (.slice A zs.length c)) 233 (0,0)):=(hgb.block F (by simp;omega) (fun e=>by have:=ZaD HO3.out F e.symm;omega)).trans (Zr HBX3.out (by omega));have hkb:Kept [F] w1 wb:=(HKR3.out.trans (Kept.alloc _ _ _)).grown hgb (fun q hq=>ZaD HO3.out q hq);obtain⟨g1,g2⟩:=Zdq hbx;have HBB:=hh hbx;have HOB:=hh hob;have HKB:=hh hkb;clear hob hgb hkb hbx)
      have HN:Hid (ZeM v t h name w1 F (k+1) (wb.setCell ⟨F,10,none⟩ (.slice AB (zs.length+1) CB))):=by
       refine⟨AB,CB,?_,?_,HKB.out.trans (Kept.setCell _ _ _ (by simp))⟩
       ·rw[heap_setCell_same _ _ _ _ _ _ HBB.out,Zld,HS1.out]
        simp
       ·rw[HS1.out]
        have:=HOB.out
        refine Zk (w:=wb) (X:=[F]) (by simpa using this) (Kept.setCell _ _ _ (by simp)) (fun q hq=>?_)
        have:=ZaD HOB.out q (by simpa using hq)
        simp;omega
      go_roundw
      case rel=>exact⟨k+1,by omega,by go_num,HN.out⟩
      case measure=>simp[intOf];omega
   ·have HN:=hh (HNO.out (by simp[ZpQ,h1]))
    clear HNO
    go_wp2_with fail
    go_roundw
    case rel=>exact⟨k+1,by omega,by go_num,HN.out⟩
    case measure=>simp[intOf];omega
  ·obtain rfl:k=t.ents.length:=by omega
   have HFI:Hid (ZX w2 F v t h name (Zhx t name h.after)):=by
    obtain⟨_,hin,h1,h2,_⟩:=(Yb.of_owns HO.out).at_
    exact⟨⟨A,c,HBX.out,hin,h1,h2⟩,HT.out.kept HKW.out,HH.out.kept HKW.out⟩
   go_wp2_with fail
   go_ret
   exact⟨F,rfl,hwF,HFI.out,HKW.out⟩
end
end Go.Proofs.YtfaecpkocgcofaaGreatDoor
