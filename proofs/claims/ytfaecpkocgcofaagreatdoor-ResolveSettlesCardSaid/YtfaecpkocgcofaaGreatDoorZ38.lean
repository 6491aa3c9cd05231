/- Lemmas for ResolveSettles, printed small: N23 N24 N25. -/
import Derived.Test.YtfaecpkocgcofaaGreatDoorZ37
set_option linter.all false
set_option maxRecDepth 100000
set_option maxHeartbeats 8000000
open Go.Proofs.Tryz
namespace Go.Proofs.YtfaecpkocgcofaaGreatDoor
section
open Go.RowKit
def YR (t:Tab) (n:Nat) (x:ExV):Int×Bool:=
 if x.kind=6∨x.kind=7 then(0,true)
 else if x.kind=3∨x.kind=4 then(if 0≤x.ent then(0,true)else(-1,false))
 else if x.kind=11 then(x.t,false)
 else if x.kind=12 then(if ZN x.oper then ZiS t n x.ls else x.t,false)
 else(-1,false)
def ZgQ (p:Int×Bool):List Value:=[.int .i64 p.1,.bool p.2]
def Zuy (k:Nat) (p:Int×Bool) (w:World) (e:Ending) (w':World):Prop:=
 ∃N,e= .returned (.slice (some ⟨N,0,none⟩) k k)∧w.heap.size≤N∧w'.heap[N]? =some (.cells (rpP k (ZgQ p)).toArray 171 (0,0))∧Kept [] w w'
theorem ZfN (w:World) (R mr:Nat) (v:Zp) (t:Tab) (h:WhV) (n:Nat) (x:ExV) (hR:Qo w R mr v t h) (hr:Zo ExV 9 ExV.cells w x.la x.ls) (hx:∀y,y∈x.ls→Qe w n y) (hk:x.ls.length < 100)
 (h8:x.kind≠8) (h10:x.kind≠10) (h13:x.kind≠13) (h14:x.kind≠14):
 Calls prog 94 #[.pointer (some ⟨R,0,none⟩),.agg x.cells.toArray] w (Zuy x.ls.length (YR t n x) w):=by
 have HR:=hh (fun(w':World) B h=>Zdb w' B x.ls.length [.int .i64 (-1),.bool false] rfl (by simp[Value.oneCell']) h hk)
 have HS:=hh (fun(w':World) BL N cur h1 h2 h3=>ZhK w' BL N x.ls.length cur 0 true h1 h2 h3 hk)
 have HT:=hh (fun(w':World) BS BL N cur t h1 h2 h3 h4=>ZoA w' BS BL N x.ls.length cur t h1 h2 h3 h4 hk)
 have HO:=hh (fun(w':World) (hk':Kept [] w w')=>Zfs w' R mr v t h n x.la x.lc x.ls (hR.kept hk') (hr.kept hk') (by omega) (fun y hy=>(hx y hy).kept hk'))
 have hes:∀args w,(callFunc 163 args).run prog w= .ok (.enter 163 args) w:=Go.Proofs.enters_of func163 (by kernel_rfl) rfl
 have het:∀args w,(callFunc 164 args).run prog w= .ok (.enter 164 args) w:=Go.Proofs.enters_of func164 (by kernel_rfl) rfl
 have HW:Hid (YR t n x=if x.kind=6∨x.kind=7 then(0,true)
  else if x.kind=3∨x.kind=4 then(if 0≤x.ent then(0,true)else(-1,false))
  else if x.kind=11 then(x.t,false)
  else if x.kind=12 then(if ZN x.oper then ZiS t n x.ls else x.t,false)
  else(-1,false)):=rfl
 clear hR hr hx
 go_enter func94,ntmps94
 go_wp2_with fail
 refine(HR.out _ (w.heap.size+2) (Zf (by simp))).mono ?_
 rintro e w1 ⟨rfl,hrow,hk1⟩
 simp only[World.alloc,Array.size_push]at hrow
 haveI p_w1:Zb w1 _:=⟨hk1⟩
 have HROW:=hh hrow
 have hsz1:=hk1.size
 clear hrow hk1
 go_upto_region 6 with fail
 have HROW5:=hh (show ∀o1 o2,((w1.alloc o1).alloc o2).heap[w.heap.size+1+1+1]? =some (.cells (rpP x.ls.length [.int .i64 (-1),.bool false]).toArray 171 (0,0))from fun o1 o2=>(Kept.alloc [] _ o2).obj ((Kept.alloc [] _ o1).obj HROW.out (by simp)) (by simp))
 have hN1:w.heap.size+1+1+1 < w1.heap.size:=(Array.getElem?_eq_some_iff.1 HROW.out).1
 have HBL:=hh (show ∀o1 o2,((w1.alloc o1).alloc o2).heap[w1.heap.size]? =some o1 from fun o1 o2=>(Kept.alloc [] _ o2).obj (Zf rfl) (by simp))
 have HBS:=hh (show ∀o1 o2,((w1.alloc o1).alloc o2).heap[w1.heap.size+1]? =some o2 from fun o1 o2=>Zf (by simp))
 have HSZ:Hid ((rpP x.ls.length [.int .i64 (-1),.bool false]).toArray.size=x.ls.length*2):=by rw[Hid,List.size_toArray,Qb _ rfl]
 have HK1:Hid (Kept [] w w1):=kp
 have hK5:∀o1 o2,Kept [] w ((w1.alloc o1).alloc o2):=fun o1 o2=>HK1.out.trans ((Kept.alloc [] _ o1).trans (Kept.alloc [] _ o2))
 have HK5:=hh hK5
 clear hK5 HROW hsz1 HR
 have HXB:=hh (show ∀o1 o2,((w1.alloc o1).alloc o2).heap[w.heap.size]? =some (.cells x.cells.toArray 41 (0,0))from fun o1 o2=>(Kept.alloc [] _ o2).obj ((Kept.alloc [] _ o1).obj (inferInstance:Zc w1 w.heap.size 41 x.cells.toArray).1 (by simp)) (by simp))
 generalize hkd:x.kind=kd at*
 have HKD:=hh hkd
 clear hkd
 by_cases h6:kd=6
 ·subst h6
  go_wp2_with fail
  refine(HS.out _ w1.heap.size (w.heap.size+1+1+1) _ (HBL.out _ _) (HROW5.out _ _) HSZ.out).mono ?_
  rintro e w2 ⟨rfl,h2,hk2⟩
  haveI bL2:Zc w2 w1.heap.size 167 #[.slice (some ⟨w.heap.size+1+1+1,0,none⟩) x.ls.length x.ls.length]:=⟨hk2.obj (HBL.out _ _) (by simp;omega)⟩
  have HR2:=hh h2
  have HK2:=hh (Kept.trans0 (HK5.out _ _) hk2 (by omega))
  clear h2 hk2
  go_wp2_with fail
  refine bodyPost_ret (Zj results94 (Zh rfl)) rfl ⟨_,rfl,by omega,?_,HK2.out⟩
  rw[show YR t n x=(0,true) by rw[HW.out];simp]
  exact HR2.out
 by_cases h7:kd=7
 ·subst h7
  go_wp2_with fail
  refine(HS.out _ w1.heap.size (w.heap.size+1+1+1) _ (HBL.out _ _) (HROW5.out _ _) HSZ.out).mono ?_
  rintro e w2 ⟨rfl,h2,hk2⟩
  haveI bL2:Zc w2 w1.heap.size 167 #[.slice (some ⟨w.heap.size+1+1+1,0,none⟩) x.ls.length x.ls.length]:=⟨hk2.obj (HBL.out _ _) (by simp;omega)⟩
  have HR2:=hh h2
  have HK2:=hh (Kept.trans0 (HK5.out _ _) hk2 (by omega))
  clear h2 hk2
  go_wp2_with fail
  refine bodyPost_ret (Zj results94 (Zh rfl)) rfl ⟨_,rfl,by omega,?_,HK2.out⟩
  rw[show YR t n x=(0,true) by rw[HW.out];simp]
  exact HR2.out
 by_cases h3:kd=3
 ·subst h3
  by_cases he:0≤x.ent
  ·go_wp2_with fail
   refine(HS.out _ w1.heap.size (w.heap.size+1+1+1) _ (HBL.out _ _) (HROW5.out _ _) HSZ.out).mono ?_
   rintro e w2 ⟨rfl,h2,hk2⟩
   haveI bL2:Zc w2 w1.heap.size 167 #[.slice (some ⟨w.heap.size+1+1+1,0,none⟩) x.ls.length x.ls.length]:=⟨hk2.obj (HBL.out _ _) (by simp;omega)⟩
   have HR2:=hh h2
   have HK2:=hh (Kept.trans0 (HK5.out _ _) hk2 (by omega))
   clear h2 hk2
   go_wp2_with fail
   refine bodyPost_ret (Zj results94 (Zh rfl)) rfl ⟨_,rfl,by omega,?_,HK2.out⟩
   rw[show YR t n x=(0,true) by rw[HW.out];simp[he]]
   exact HR2.out
  ·have he':x.ent < 0:=by omega
   go_wp2_with fail
   refine bodyPost_ret (Zj results94 (Zh rfl)) rfl ⟨_,rfl,by omega,?_,HK5.out _ _⟩
   rw[show YR t n x=(-1,false) by rw[HW.out];simp[he']]
   exact HROW5.out _ _
 by_cases h4:kd=4
 ·subst h4
  by_cases he:0≤x.ent
  ·go_wp2_with fail
   refine(HS.out _ w1.heap.size (w.heap.size+1+1+1) _ (HBL.out _ _) (HROW5.out _ _) HSZ.out).mono ?_
   rintro e w2 ⟨rfl,h2,hk2⟩
   haveI bL2:Zc w2 w1.heap.size 167 #[.slice (some ⟨w.heap.size+1+1+1,0,none⟩) x.ls.length x.ls.length]:=⟨hk2.obj (HBL.out _ _) (by simp;omega)⟩
   have HR2:=hh h2
   have HK2:=hh (Kept.trans0 (HK5.out _ _) hk2 (by omega))
   clear h2 hk2
   go_wp2_with fail
   refine bodyPost_ret (Zj results94 (Zh rfl)) rfl ⟨_,rfl,by omega,?_,HK2.out⟩
   rw[show YR t n x=(0,true) by rw[HW.out];simp[he]]
   exact HR2.out
  ·have he':x.ent < 0:=by omega
   go_wp2_with fail
   refine bodyPost_ret (Zj results94 (Zh rfl)) rfl ⟨_,rfl,by omega,?_,HK5.out _ _⟩
   rw[show YR t n x=(-1,false) by rw[HW.out];simp[he']]
   exact HROW5.out _ _
 have g6:(kd == 6)=false:=by simp[h6]
 have g7:(kd == 7)=false:=by simp[h7]
 have g3:(kd == 3)=false:=by simp[h3]
 have g4:(kd == 4)=false:=by simp[h4]
 by_cases h11:kd=11
 ·subst h11
  go_wp2_with fail
  refine(HT.out _ (w1.heap.size+1) w1.heap.size (w.heap.size+1+1+1) _ _ (HBS.out _ _) (HBL.out _ _) (HROW5.out _ _) HSZ.out).mono ?_
  rintro e w2 ⟨rfl,h2,hk2⟩
  haveI bL2:Zc w2 w1.heap.size 167 #[.slice (some ⟨w.heap.size+1+1+1,0,none⟩) x.ls.length x.ls.length]:=⟨hk2.obj (HBL.out _ _) (by simp;omega)⟩
  have HR2:=hh h2
  have HK2:=hh (Kept.trans0 (HK5.out _ _) hk2 (by omega))
  clear h2 hk2
  go_wp2_with fail
  refine bodyPost_ret (Zj results94 (Zh rfl)) rfl ⟨_,rfl,by omega,?_,HK2.out⟩
  rw[show YR t n x=(x.t,false) by rw[HW.out];simp]
  exact HR2.out
 by_cases h12:kd=12
 ·subst h12
  go_wp2_with fail
  refine(HT.out _ (w1.heap.size+1) w1.heap.size (w.heap.size+1+1+1) _ _ (HBS.out _ _) (HBL.out _ _) (HROW5.out _ _) HSZ.out).mono ?_
  rintro e w2 ⟨rfl,h2,hk2⟩
  haveI bL2:Zc w2 w1.heap.size 167 #[.slice (some ⟨w.heap.size+1+1+1,0,none⟩) x.ls.length x.ls.length]:=⟨hk2.obj (HBL.out _ _) (by simp;omega)⟩
  haveI bS2:Zc w2 (w1.heap.size+1) 237 #[.func (.func 163) #[] #[.pointer (some ⟨w1.heap.size,0,none⟩)]]:=⟨hk2.obj (HBS.out _ _) (by simp;omega)⟩
  haveI bX2:Zc w2 w.heap.size 41 x.cells.toArray:=⟨hk2.obj (HXB.out _ _) (by simp;omega)⟩
  have HR2:=hh h2
  have HK2:=hh (Kept.trans0 (HK5.out _ _) hk2 (by omega))
  have hN2:w.heap.size+1+1+1 < w2.heap.size:=(Array.getElem?_eq_some_iff.1 h2).1
  clear h2 hk2
  go_wp2_with fail
  refine(JO _ _).mono ?_
  rintro e w3 ⟨rfl,hk3⟩
  haveI p_w3:Zb w3 w2:=⟨hk3⟩
  have HK3:=hh (HK2.out.trans hk3)
  have HR3:=hh (hk3.obj HR2.out (by simp))
  clear hk3
  cases hc:ZN x.oper
  ·rw[hc]at HW
   go_wp2_with fail
   refine bodyPost_ret (Zj results94 (Zh rfl)) rfl ⟨_,rfl,by omega,?_,HK3.out⟩
   rw[show YR t n x=(x.t,false) by rw[HW.out];simp]
   exact HR3.out
  ·rw[hc]at HW
   go_wp2_with fail
   refine(HO.out _ HK3.out).mono ?_
   rintro e w4 ⟨rfl,hk4⟩
   haveI p_w4:Zb w4 w3:=⟨hk4⟩
   have HK4:=hh (HK3.out.trans hk4)
   have HR4:=hh (hk4.obj HR3.out (by simp))
   have HBL4:Hid (w4.heap[w1.heap.size]? =some (.cells #[.slice (some ⟨w.heap.size+1+1+1,0,none⟩) x.ls.length x.ls.length] 167 (0,0))):=(inferInstance:Zc w4 w1.heap.size 167 #[.slice (some ⟨w.heap.size+1+1+1,0,none⟩) x.ls.length x.ls.length]).1
   have HBS4:Hid (w4.heap[w1.heap.size+1]? =some (.cells #[.func (.func 163) #[] #[.pointer (some ⟨w1.heap.size,0,none⟩)]] 237 (0,0))):=(inferInstance:Zc w4 (w1.heap.size+1) 237 #[.func (.func 163) #[] #[.pointer (some ⟨w1.heap.size,0,none⟩)]]).1
   clear hk4
   go_wp2_with fail
   refine(HT.out _ (w1.heap.size+1) w1.heap.size (w.heap.size+1+1+1) _ _ HBS4.out HBL4.out HR4.out (by rw[List.size_toArray,Qb _ rfl])).mono ?_
   rintro e w5 ⟨rfl,h5,hk5⟩
   haveI bL5:Zc w5 w1.heap.size 167 #[.slice (some ⟨w.heap.size+1+1+1,0,none⟩) x.ls.length x.ls.length]:=⟨hk5.obj HBL4.out (by simp;omega)⟩
   have HR5:=hh h5
   have HK5b:=hh (Kept.trans0 HK4.out hk5 (by omega))
   clear h5 hk5
   go_wp2_with fail
   refine bodyPost_ret (Zj results94 (Zh rfl)) rfl ⟨_,rfl,by omega,?_,HK5b.out⟩
   rw[show YR t n x=(ZiS t n x.ls,false) by rw[HW.out];simp]
   exact HR5.out
 have g11:(kd == 11)=false:=by simp[h11]
 have g12:(kd == 12)=false:=by simp[h12]
 have g8:(kd == 8)=false:=by simp[h8]
 have g10:(kd == 10)=false:=by simp[h10]
 have g13:(kd == 13)=false:=by simp[h13]
 have g14:(kd == 14)=false:=by simp[h14]
 go_wp2_with fail
 refine bodyPost_ret (Zj results94 (Zh rfl)) rfl ⟨_,rfl,by omega,?_,HK5.out _ _⟩
 rw[show YR t n x=(-1,false) by rw[HW.out];simp[h6,h7,h3,h4,h11,h12]]
 exact HROW5.out _ _
theorem Zd7 (z:ExV) (l:List ExV):flX (z::l)=z.cells++flX l:=by simp[flX]
theorem Zd6 (l:List ExV):∀i,(flX l).take (i*9)=flX (l.take i):=by
 induction l with
 | nil=>intro i;simp[flX]
 | cons a l ih=>
  intro i
  cases i with
  | zero=>simp[flX]
  | succ i=>
   rw[Zd7,List.take_succ_cons,Zd7,List.take_append,List.take_of_length_le (by rw[ExV.len];omega),ExV.len,show(i+1)*9 - 9=i*9 by omega,ih]
theorem ZnR (l:List ExV) (i:Nat):(flX l).drop (i*9)=flX (l.drop i):=by
 have h1:=List.take_append_drop (i*9) (flX l)
 have h2:flX (l.take i)++flX (l.drop i)=flX l:=by rw[←Zbe,List.take_append_drop]
 rw[Zd6]at h1
 exact List.append_cancel_left (h1.trans h2.symm)
theorem ZqF (l:List ExV) (i:Nat) (z:ExV) (hi:i < l.length):flX (l.set i z)=(flX l).take (i*9)++z.cells++(flX l).drop (i*9+9):=by
 have e:l.set i z=l.take i++z::l.drop (i+1):=by rw[List.set_eq_take_append_cons_drop,if_pos hi]
 rw[e,Zbe,Zd7,Zd6,show i*9+9=(i+1)*9 by omega,ZnR,List.append_assoc]
theorem Zbv {ops:Array Oper} {rest:List Oper} {op:Oper} {a:Act} {w:World} {Q:Exit→Act→World→Prop} (hgd:op.guard=none) (x y:Operand) (ho:op.op= .store 41 x y)
 (base:Nat) (v:Value) (l:List ExV) (hO:Jy w base v l) (i:Nat) (hi:i < l.length) (g:Nat) (hv:v.ownBlock=some g) (m:ExV) (hx:a.eval x= .pointer (some ⟨g,i*9,none⟩)) (hy:a.eval y= .agg m.cells.toArray)
 (h:∀w',Jy w' base v (l.set i m)→w.grownBy w' (some g)→wpList prog ops Q rest (a.put op.dst undef) w'):wpList prog ops Q (op::rest) a w:=by
 refine wpList_plain hgd fun K hK=>?_
 rcases hO.2 with⟨rfl,hn⟩ | ⟨g',cap,cur,rfl,hbg,hg,hnc,hcm,hcs,htk⟩
 ·cases hv
 obtain rfl:g'=g:=by simpa [Value.ownBlock]using hv
 have hfit:i*9+m.cells.length≤cur.size:=by rw[ExV.len,hcs];omega
 have hst:=run_storeCells_at prog g' (i*9) 41 m.cells 0 cur w hg (by simpa using hfit) (Qg m)
 simp only[Nat.add_zero]at hst
 have hrun:(storeVar 41 ⟨g',i*9,none⟩ (.agg m.cells.toArray)).run prog w= .ok () (w.setRow g' (cur.toList.take (i*9)++m.cells++cur.toList.drop (i*9+m.cells.length)).toArray):=by
  cases hq:prog.info? 41 with
  | none=>have h1:=Tryz.infoEx m;rw[hq]at h1;cases h1
  | some i0=>
   have hsz:m.cells.toArray.size=i0.size:=by have:=Tryz.infoEx m;simp[hq]at this;simp;omega
   simpa [storeVar,sizeOf,typeInfo,hq,Value.cells,hsz]using hst
 unfold Oper.wp execOp
 simp only[ho,hx,hy,Instr.storeAt,Instr.sureAddr,Sem.run_bind,Sem.run_pure,Result.andThen_ok,hrun]
 refine hK _ _ (h _ ⟨by rw[Zhe],.inr ⟨g',cap,_,by rw[List.length_set],hbg,setRow_heap w g' cur _ _ _ hg,by rw[List.length_set];exact hnc,hcm,?_,?_⟩⟩ ⟨rfl,rfl,rfl,by simp[World.setRow],fun q hq hne=>setRow_other w g' q _ (fun e=>hne (by rw[e]))⟩)
 ·have:=congrArg List.length htk
  rw[List.length_take,Zhe,Array.length_toList]at this
  rw[List.size_toArray,List.length_append,List.length_append,List.length_take,List.length_drop,Array.length_toList,ExV.len]
  omega
 ·have hcl:cur.toList.length=cap*9:=by rw[Array.length_toList,hcs]
  have hsplit:=ZqF l i m hi
  have e1:(flX l).take (i*9)=cur.toList.take (i*9):=by rw[←htk,List.take_take,Nat.min_eq_left (by omega)]
  have e2:(flX l).drop (i*9+9)=(cur.toList.drop (i*9+9)).take (l.length*9 - (i*9+9)):=by rw[←htk,List.drop_take]
  rw[hsplit,e1,e2,List.length_set,ExV.len,List.take_append,List.length_append,List.length_take,ExV.len,Nat.min_eq_left (by omega)]
  rw[List.take_of_length_le (by rw[List.length_append,List.length_take,ExV.len];omega)]
def ZuD (l:List ExV) (w:World) (e:Ending) (w':World):Prop:=∃v,e= .returned v∧Jy w' w.heap.size v l∧Kept [] w w'
theorem Zk9 {α:Type} {m:Nat} {cells:α→List Value} (hm:∀x,(cells x).length=m):∀(l:List α) (p:Nat) (u:Value),(l.map cells).flatten[p]? =some u→∃k x j,l[k]? =some x∧(cells x)[j]? =some u∧p=k*m+j
 | [],p,u,h=>by simp at h
 | x::l,p,u,h=>by
  rw[List.map_cons,List.flatten_cons]at h
  by_cases hp:p < m
  ·rw[List.getElem?_append_left (by rw[hm];exact hp)]at h
   exact⟨0,x,p,rfl,h,by omega⟩
  ·rw[List.getElem?_append_right (by rw[hm];omega),hm]at h
   obtain⟨k,y,j,h1,h2,h3⟩:=Zk9 hm l _ u h
   refine⟨k+1,y,j,h1,h2,?_⟩
   rw[Nat.add_mul]
   omega
theorem ZhH {α:Type} {m:Nat} {cells:α→List Value} (hm:∀x,(cells x).length=m) {w:World} {A:Option Addr} {l:List α} (h:Zo α m cells w A l):YG w m A l.length (l.map cells).flatten:=by
 refine⟨?_,fun hp=>?_⟩
 ·induction l with
  | nil=>simp
  | cons x l ih=>
   rw[List.map_cons,List.flatten_cons,List.length_append,hm,List.length_cons,Nat.add_mul]
   have:∀l:List α,(l.map cells).flatten.length=l.length*m:=by
    intro l
    induction l with
    | nil=>simp
    | cons x l ih=>rw[List.map_cons,List.flatten_cons,List.length_append,hm,List.length_cons,Nat.add_mul,ih];omega
   rw[this]
   omega
 ·rcases h with h0 | ⟨b,o,rfl,hc⟩
  ·rw[h0]at hp;simp at hp
  ·refine⟨_,rfl,fun p u hu=>?_⟩
   obtain⟨k,x,j,h1,h2,rfl⟩:=Zk9 hm l p u hu
   rw[Addr.add_mid,←Nat.add_assoc]
   exact hc k x h1 j u h2
theorem Zpt (w:World) (t e:TypeId) (A:Option Addr) (l c:Nat) (h:prog.underlying t=some (.slice e)):(binOp .eql t (.slice A l c) (.slice none 0 0)).run prog w= .ok (.bool A.isNone) w:=by
 have h1:∀d:Nat,(Op.equalIn (d+1) t (.slice A l c) (.slice none 0 0)).run prog w= .ok A.isNone w:=fun d=>by
  cases A <;> simp[Op.equalIn,run_underlying h]
 simp only[binOp]
 simp[Op.equal,Op.maxDepth,h1 9999]
@[go_sem] theorem Tryz.eqlNilX (w:World) (A:Option Addr) (l c:Nat):(binOp .eql 38 (.slice A l c) (.slice none 0 0)).run prog w= .ok (.bool A.isNone) w:=Zpt w _ _ A l c underlying38
@[go_sem] theorem Tryz.eqlNilA (w:World) (A:Option Addr) (l c:Nat):(binOp .eql 39 (.slice A l c) (.slice none 0 0)).run prog w= .ok (.bool A.isNone) w:=Zpt w _ _ A l c underlying39
theorem Zje (w:World) (A:Option Addr) (c:Nat) (l:List ExV) (hr:Zo ExV 9 ExV.cells w A l) (hl:l.length≤1000000):Calls prog 95 #[.slice A l.length c] w (ZuD l w):=by
 have HR:Hid (∀W:World,Kept [] w W→YG W 9 A l.length (l.map ExV.cells).flatten):=fun W hk=>ZhH (fun x=>ExV.len x) (hr.kept hk)
 obtain⟨i0,hi,hz0,hz1,hz2⟩:=info_parts Zhj
 cases A with
 | none=>
  obtain rfl:l= []:=by
   rcases hr with h0 | ⟨b,o,h,_⟩
   ·exact h0
   ·cases h
  clear hr
  go_enter func95,ntmps95
  go_wp2_with fail
  exact bodyPost_ret (v:= .slice none 0 0) (Zj results95 (Zh rfl)) rfl ⟨_,rfl,Jy.nil _ _,Kept.refl _ _⟩
 | some ad=>
  clear hr
  have hown:(w.alloc (.cells #[] 41)).ownsRow w.heap.size 41 9 (.slice (some ⟨w.heap.size,0,none⟩) 0 0) 0 []:=⟨by simp,.inr ⟨_,0,#[],rfl,Nat.le_refl _,Zf rfl,Nat.le_refl _,by unfold maxLen;omega,rfl,rfl⟩⟩
  have h1c:∀u,u∈(l.map ExV.cells).flatten→u.oneCell'=true:=fun u hu=>by
   obtain⟨r,hr,hu⟩:=List.mem_flatten.1 hu
   obtain⟨x,_,rfl⟩:=List.mem_map.1 hr
   exact Qg x u hu
  have hs:=HR.out (w.alloc (.cells #[] 41)) (Kept.alloc _ _ _)
  have hA:0+l.length≤maxLen:=by unfold maxLen;omega
  have hB:(0+l.length)*104≤140737488355328:=by omega
  go_enter func95,ntmps95
  go_wp2_with (at_builtin;refine Zt _ rfl (.tmp 5) (.tmp 6) 38 rfl w.heap.size 41 i0 _ 9 104 underlying38 hi hz0 hz1 hz2 rfl (by decide) _ 0 [] rfl hown (some ad) l.length c _ rfl hs h1c hA hB (by simp) ?_;intro v' w' ho hg _)
  refine bodyPost_ret (Zj results95 (Zh rfl)) rfl ⟨_,rfl,?_,?_⟩
  ·rw[Nat.zero_add,List.nil_append]at ho
   exact ho
  ·exact(Kept.alloc [] w _).grown hg (fun q h=>by cases h;exact Nat.le_refl _)
def ZuE (l:List AsV) (w:World) (e:Ending) (w':World):Prop:=∃v,e= .returned v∧w'.ownsRow w.heap.size 63 10 v l.length (l.map AsV.cells).flatten∧Kept [] w w'
theorem Zf4 (x:AsV):∀u,u∈AsV.cells x→u.oneCell'=true:=fun u hu=>by
 have h:=ZkA x
 simp only[List.all_toArray]at h
 exact List.all_eq_true.1 h u hu
theorem Zjf (w:World) (A:Option Addr) (c:Nat) (l:List AsV) (hr:Zo AsV 10 AsV.cells w A l) (hl:l.length≤1000000):Calls prog 96 #[.slice A l.length c] w (ZuE l w):=by
 have HR:Hid (∀W:World,Kept [] w W→YG W 10 A l.length (l.map AsV.cells).flatten):=fun W hk=>ZhH (m:=10) (cells:=AsV.cells) (fun _=>rfl) (hr.kept hk)
 obtain⟨i0,hi,hz0,hz1,hz2⟩:=info_parts Zhv
 cases A with
 | none=>
  obtain rfl:l= []:=by
   rcases hr with h0 | ⟨b,o,h,_⟩
   ·exact h0
   ·cases h
  clear hr
  go_enter func96,ntmps96
  go_wp2_with fail
  exact bodyPost_ret (v:= .slice none 0 0) (Zj results96 (Zh rfl)) rfl ⟨_,rfl,World.ownsRow_nil _ _ _ _,Kept.refl _ _⟩
 | some ad=>
  clear hr
  have hown:(w.alloc (.cells #[] 63)).ownsRow w.heap.size 63 10 (.slice (some ⟨w.heap.size,0,none⟩) 0 0) 0 []:=⟨by simp,.inr ⟨_,0,#[],rfl,Nat.le_refl _,Zf rfl,Nat.le_refl _,by unfold maxLen;omega,rfl,rfl⟩⟩
  have h1c:∀u,u∈(l.map AsV.cells).flatten→u.oneCell'=true:=fun u hu=>by
   obtain⟨r,hr,hu⟩:=List.mem_flatten.1 hu
   obtain⟨x,_,rfl⟩:=List.mem_map.1 hr
   exact Zf4 x u hu
  have hs:=HR.out (w.alloc (.cells #[] 63)) (Kept.alloc _ _ _)
  have hA:0+l.length≤maxLen:=by unfold maxLen;omega
  have hB:(0+l.length)*128≤140737488355328:=by omega
  go_enter func96,ntmps96
  go_wp2_with (at_builtin;refine Zt _ rfl (.tmp 5) (.tmp 6) 39 rfl w.heap.size 63 i0 _ 10 128 underlying39 hi hz0 hz1 hz2 rfl (by decide) _ 0 [] rfl hown (some ad) l.length c _ rfl hs h1c hA hB (by simp) ?_;intro v' w' ho hg _)
  refine bodyPost_ret (Zj results96 (Zh rfl)) rfl ⟨_,rfl,?_,?_⟩
  ·rw[Nat.zero_add,List.nil_append]at ho
   exact ho
  ·exact(Kept.alloc [] w _).grown hg (fun q h=>by cases h;exact Nat.le_refl _)
theorem ZeF (w:World) (R mr:Nat) (v:Zp) (t:Tab) (h:WhV) (x:ExV) (e i:Nat) (y:Zx) (p:Zd) (hR:Qo w R mr v t h) (h9:x.kind≠9) (he:x.ent=(e:Int)) (hy:t.ents[e]? =some y) (h4:y.kind=4) (hp:y.params[i]? =some p):
 Calls prog 97 #[.pointer (some ⟨R,0,none⟩),.agg x.cells.toArray,.int .i64 i] w (ZE (.int .i64 (ofP t p.sub)) w):=by
 have HOF:=hh (fun(W:World) (hk:Kept [] w W)=>Zpc W R mr v t h p.sub (hR.kept hk))
 have hil:=(List.getElem?_eq_some_iff.1 hy).1
 obtain⟨y',b,o,hy',ha,hat,_⟩:=Zb5 hR.tab hil
 obtain rfl:y'=y:=by rw[hy]at hy';exact(Option.some.inj hy').symm
 have q1:=hR.tab.el
 have h2:(e:Int) < (t.ents.length:Int):=by omega
 have hpl:=hR.tab.pl y' (List.mem_of_getElem? hy)
 have hpr:=hR.tab.ps y' (List.mem_of_getElem? hy)
 have hil2:=(List.getElem?_eq_some_iff.1 hp).1
 have h5:(i:Int) < (y'.params.length:Int):=by omega
 obtain⟨pb,po,hpa,hpc⟩:∃pb po,y'.pa=some ⟨pb,po,none⟩∧w.rangeAt pb (po+i*13) p.cells:=by
  rcases hpr with h0 | ⟨b,o,h1,hc⟩
  ·rw[h0]at hil2;simp at hil2
  ·exact⟨b,o,h1,hc i p hp⟩
 haveI ip:Ye w pb (po+i*13) p:=⟨hpc⟩
 haveI bR:=hR.is
 have h9':(x.kind == 9)=false:=by simp[h9]
 have h0':(0:Int)≤(e:Int):=by omega
 clear hR hy hy' h9 hpr hpc
 go_enter func97,ntmps97
 go_wp2_with fail
 go_region
 go_wp2_with fail
 refine nxt (HOF.out _ kp) fun w1 p_w1=>?_;have hz_w1:=szk w w1
 go_wp2_with fail
 exact Za rfl (Zj results97 (Zh rfl)) kp
end
end Go.Proofs.YtfaecpkocgcofaaGreatDoor
