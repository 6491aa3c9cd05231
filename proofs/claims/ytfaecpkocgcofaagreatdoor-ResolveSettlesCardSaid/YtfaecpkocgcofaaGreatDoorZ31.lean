/- Lemmas for ResolveSettles, printed small: N16. -/
import Derived.Test.YtfaecpkocgcofaaGreatDoorZ30
set_option linter.all false
set_option maxRecDepth 100000
set_option maxHeartbeats 8000000
open Go.Proofs.Tryz
namespace Go.Proofs.YtfaecpkocgcofaaGreatDoor
section
open Go.RowKit
theorem ExD.mem_al {X:List Nat} {w:World} {x:ExV} {a:AsV} (h:ExD X w x) (ha:a∈x.al):ExD X w a.2.2.2:=by
 obtain⟨n,h⟩:=h
 cases n with
 | zero=>exact(h w (Kept.refl _ _)).elim
 | succ n=>exact⟨n,fun w' hk=>(h w' hk).2.2.2.1 a ha⟩
@[go_sem] theorem Ztg (R:Nat):kfV none R= .nilFunc:=rfl
@[go_sem] theorem Ztf (f R:Nat):kfV (some f) R= .func (.func f) #[.pointer (some ⟨R,0,none⟩)] #[]:=rfl
@[go_sem] theorem ZrR (w:World) (f:Nat) (a b:Array Value):Sem.run prog (binOp .neq 145 (.func (.func f) a b) .nilFunc) w= .ok (.bool true) w:=by kernel_rfl
@[go_sem] theorem ZrQ (w:World):Sem.run prog (binOp .neq 145 .nilFunc .nilFunc) w= .ok (.bool false) w:=by kernel_rfl
structure ZsZ (R mr:Nat) (v:Zp) (t:Tab) (h:WhV) (M:Nat→ExV→List MeV) (ok:Nat→ExV→Prop):Prop where
 zero:∀x,¬ok 0 x
 ls:∀n x y,ok (n+1) x→y∈x.ls→ok n y
 al:∀n x a,ok (n+1) x→a∈x.al→ok n a.2.2.2
 ch:∀n x a,ok (n+1) x→a∈x.al→a.2.1= []
 len:∀n x,ok (n+1) x→x.ls.length≤61∧x.al.length≤61
 bd:∀n x m,ok (n+1) x→m∈M (n+1) x→0≤m.n∧m.n≤2
 ml:∀n x,ok (n+1) x→(M (n+1) x).length≤1000000
 no:∀n x,ok (n+1) x→Zd2 x.kind=none→M (n+1) x= []
 kind:∀n f d Y W,ok (n+1) d.x.er→Zd2 d.x.kind=some f→Qo W R mr v t h→NdT Y W d→NdS M n d→(∀q,q∈Y→q < W.heap.size)→
  Calls prog f #[.pointer (some ⟨R,0,none⟩),.pointer (some ⟨d.p,0,none⟩)] W (Zc1 Y (M (n+1) d.x.er) W)
theorem ZnD (R mr:Nat) (v:Zp) (t:Tab) (h:WhV) (M:Nat→ExV→List MeV) (ok:Nat→ExV→Prop) (hC:ZsZ R mr v t h M ok):
 ∀(n:Nat) (X:List Nat) (w:World) (x:ExV),ok n x.er→Qo w R mr v t h→ExD X w x→(∀q,q∈X→q < w.heap.size)→
 Calls prog 31 #[.pointer (some ⟨R,0,none⟩),.agg x.cells.toArray] w (Zrf M X n x.er w):=by
 intro n
 induction n with
 | zero=>exact fun X w x h0=>absurd h0 (hC.zero _)
 | succ n ih=>
 intro X w x hok hR hx hX
 have HX:=hh hX
 have HXX:=hh hx
 have HRR:=hh hR
 have hlen:=hC.len n x.er hok
 rw[ExV.er_ls,ExV.er_al,List.length_map,List.length_map]at hlen
 have hl1:=hlen.1
 have hl2:=hlen.2
 have HIL:Hid (∀W Y y,Kept [] w W→y∈x.ls→(∀q,q∈Y→q∈X∨w.heap.size≤q)→(∀q,q∈Y→q < W.heap.size)→Calls prog 31 #[.pointer (some ⟨R,0,none⟩),.agg y.cells.toArray] W (Zrf M Y n y.er W)):=fun W Y y hk hy hY hYs=>
  ih Y W y (hC.ls n x.er y.er hok (by rw[ExV.er_ls];exact List.mem_map.2 ⟨y,hy,rfl⟩)) (hR.kept hk) ((hx.later hk hY).mem_ls hy) hYs
 have HIA:Hid (∀W Y a,Kept [] w W→a∈x.al→(∀q,q∈Y→q∈X∨w.heap.size≤q)→(∀q,q∈Y→q < W.heap.size)→Calls prog 31 #[.pointer (some ⟨R,0,none⟩),.agg a.2.2.2.cells.toArray] W (Zrf M Y n a.2.2.2.er W)):=fun W Y a hk ha hY hYs=>
  ih Y W a.2.2.2 (hC.al n x.er a.er hok (by rw[ExV.er_al];exact List.mem_map.2 ⟨a,ha,rfl⟩)) (hR.kept hk) ((hx.later hk hY).mem_al ha) hYs
 have HCH:Hid (∀a,a∈x.al→a.2.1= []):=fun a ha=>by
  have:=hC.ch n x.er a.er hok (by rw[ExV.er_al];exact List.mem_map.2 ⟨a,ha,rfl⟩)
  have h1:a.2.1.map ChV.er= []:=this
  simpa using h1
 have HKD:Hid (∀f d Y W,d.x=x→Zd2 d.x.kind=some f→Kept [] w W→NdT Y W d→NdS M n d→(∀q,q∈Y→q < W.heap.size)→
  Calls prog f #[.pointer (some ⟨R,0,none⟩),.pointer (some ⟨d.p,0,none⟩)] W (Zc1 Y (M (n+1) x.er) W)):=fun f d Y W hd hf hk hT hS hY=>by
  have:=hC.kind n f d Y W (by rw[hd];exact hok) hf (hR.kept hk) hT hS hY
  rwa [hd]at this
 have HMN:Hid (Zd2 x.kind=none→M (n+1) x.er= []):=fun h=>hC.no n x.er hok (by rw[ExV.er_kind];exact h)
 have HBD:Hid (∀m,m∈M (n+1) x.er→0≤m.n∧m.n≤2):=fun m hm=>hC.bd n x.er m hok hm
 have HML:Hid ((M (n+1) x.er).length≤1000000):=hC.ml n x.er hok
 obtain⟨n0,hn0⟩:=hx
 have hin:=hn0 w (Kept.refl _ _)
 cases n0 with
 | zero=>exact hin.elim
 | succ n0=>
 have HRL:=hh hin.1
 have HRA:=hh hin.2.2.1
 haveI bR:=hR.is
 haveI kR:JS w mr R:=⟨hR.map⟩
 obtain⟨i0,hi,hz0,hz1,hz2⟩:=info_parts Zng
 obtain⟨i1,hi1,hy0,hy1,hy2⟩:=info_parts Zol
 clear hok hR hX hlen ih hC hn0 hin
 go_enter func31,ntmps31
 go_upto_region 3 with(fail)
 refine Zm ?_
 intro w0 hw0
 obtain⟨B,hBe⟩:∃B,B=w.heap.size+1:=⟨_,rfl⟩
 have hz0':w0.heap.size=w.heap.size+2:=by rw[hw0];simp
 haveI p_w0:Zb w0 w:=⟨by rw[hw0];exact kp⟩
 haveI b0:Zc w0 w.heap.size 41 x.cells.toArray:=by rw[hw0];infer_instance
 have HB0:Hid (w0.heap[B]? =some (.cells (ndC x (.slice none 0 0) (.slice none 0 0) (.slice none 0 0) (.slice none 0 0)) 143 (0,0))):=by rw[Hid,hw0,hBe];exact Zc.has
 have HBX:Hid (∀q,q∈X→q < B):=fun q hq=>by have:=HX.out q hq;omega
 rw[show w.heap.size+1=B from hBe.symm]
 have hB1:w.heap.size < B:=by omega
 have hB2:B < w0.heap.size:=by omega
 clear hw0 hBe hz0'
 generalize x.la=LA at*
 go_loopw [23] (fun s23 wr=>∃(k:Nat) (u:Value) (ds:List NdV),s23= .int .i64 k∧k≤x.ls.length∧wr.heap[B]? =some (.cells (ndC x (.slice none 0 0) u (.slice none 0 0) (.slice none 0 0)) 143 (0,0))∧ZbT wr w0.heap.size u (ds.map NdV.p)∧
  ds.map (fun y=>y.x.er)=(x.ls.take k).map ExV.er∧(∀y,y∈ds→NdM M n y∧NdD (Qd u (B::X)) wr y)∧Kept [B] w0 wr) (fun s23 _=>x.ls.length - (intOf s23).toNat)
 case atStart=>exact⟨0,_,[],rfl,Nat.zero_le _,HB0.out,ZbT.nil _ _,rfl,fun y hy=>by simp at hy,Kept.refl _ _⟩
 case round=>
  obtain⟨k,u,ds,rfl,hk,hb,ho,he,hd,hkr⟩:=hrel
  have HO:=hh ho
  have HE:=hh he
  have HD:=hh hd
  have HKR:=hh hkr
  haveI bN:Zc wr B 143 (ndC x (.slice none 0 0) u (.slice none 0 0) (.slice none 0 0)):=⟨hb⟩
  have HKW:Hid (Kept [] w wr):=Kept.trans0 (a:=w) (b:=w0) kp hkr (by omega)
  haveI p_wr:Zb wr w:=⟨HKW.out⟩
  haveI bx:Zc wr w.heap.size 41 x.cells.toArray:=⟨(hkr.block w.heap.size (by omega) (by simp;omega)).trans b0.has⟩
  have hdl:ds.length≤61:=by
   have h1:=congrArg List.length he
   simp only[List.length_map,List.length_take]at h1
   omega
  clear hb ho he hd hkr
  obtain⟨w3,rfl⟩:∃w3:World,w3=wr:=⟨_,rfl⟩
  by_cases hlt:k < x.ls.length
  ·obtain⟨y,hy⟩:∃y,x.ls[k]? =some y:=⟨_,List.getElem?_eq_getElem hlt⟩
   obtain⟨lb,lo,rfl,hlr⟩:=HRL.out.some_ hy
   haveI iy:Q1 w lb (lo+k*9) y:=⟨hlr k y hy⟩
   have HYM:Hid (y∈x.ls):=List.mem_of_getElem? hy
   have HTK:Hid ((x.ls.take (k+1)).map ExV.er=(x.ls.take k).map ExV.er++ [y.er]):=by
    obtain⟨h1,rfl⟩:=List.getElem?_eq_some_iff.1 hy
    rw[Hid,List.take_succ_eq_append_getElem h1,List.map_append];rfl
   clear hlr hy
   have HY0:Hid (∀q,q∈Qd u (B::X)→q∈X∨w.heap.size≤q):=fun q hq=>(Zl.1 hq).elim (fun h=> .inr (by have:=(HO.out.lt q h).1;omega)) (fun h=>(List.mem_cons.1 h).elim (fun h=> .inr (by omega)) .inl)
   have HY1:Hid (∀q,q∈Qd u (B::X)→q < w3.heap.size):=fun q hq=>(Zl.1 hq).elim (fun h=>(HO.out.lt q h).2) (fun h=>by
    have h1:=HKR.out.size
    rcases List.mem_cons.1 h with h | h
    ·omega
    ·have:=HBX.out q h;omega)
   go_upto_region 5 with(fail)
   refine Q2 [(0,27,(.pointer (some ⟨B,0,none⟩)))] [(1,⟨28,[],false,.eq (.pointer (some ⟨B,0,none⟩))⟩),(2,⟨29,[28],false,.eq (.pointer (some ⟨B,0,none⟩))⟩),(3,⟨30,[29],false,.eq (.pointer (some ⟨B,10,none⟩))⟩),(4,⟨31,[30],false,.eq u⟩),(5,⟨32,[],false,.eq (.pointer (some ⟨R,0,none⟩))⟩),(6,⟨33,[],false,.eq (.agg y.cells.toArray)⟩),(7,⟨34,[32,33],false,.nd M (Qd u (B::X)) n y.er⟩),(8,⟨35,[34],false,.oc M (Qd u (B::X)) n y.er⟩)] [9,10,11,12] (by kernel_rfl) (by kernel_rfl) ⟨rfl,by kernel_rfl⟩ (by kernel_rfl) (fun _ _ _ _ _ h=>h) (by repeat(first | exact trivial | refine And.intro rfl ?_)) ?_
   apply Exists.intro
   refine⟨fun vs=>?_,?_⟩
   ·simp only[List.map_cons,List.map_nil,Q5,Jj,Act.put,List.setIfInBounds_toArray,List.set_cons_zero,List.set_cons_succ]
    exact rfl
   refine⟨⟨?_,?_,?_,?_,?_,?_,?_,?_,trivial⟩,?_⟩<;>intro vs Z w9 hk hZ hg
   all_goals
    simp only[ZW,List.flatMap_cons,List.flatMap_nil,List.getElem?_cons_zero,List.getElem?_cons_succ,Option.toList_some,List.cons_append,List.nil_append]
    haveI p_w9:Zb w9 _:=⟨hk⟩
    have hz_w9:=hk.size
    have HZ:=hh hZ
    clear hk hZ
    (try simp only[List.map_cons,List.map_nil,ZG,Zi,Z8,SZ.eq_p,SZ.ex_p,SZ.wx_p,SZ.new_p,SZ.nd_p,SZ.oc_p,Nat.reduceEqDiff,reduceIte,and_true]at hg)
   ·clear hg
    go_wp2_with fail
    exact⟨kp,rfl,Z,.inl ⟨rfl,rfl⟩,rfl⟩
   ·obtain e28:=hg
    (try simp only[e28])
    go_wp2_with fail
    exact⟨kp,rfl,Z,.inl ⟨rfl,rfl⟩,rfl⟩
   ·obtain e29:=hg
    (try simp only[e29])
    go_wp2_with fail
    exact⟨kp,rfl,Z,.inl ⟨rfl,rfl⟩,rfl⟩
   ·obtain e30:=hg
    (try simp only[e30])
    go_wp2_with fail
    exact⟨kp,rfl,Z,.inl ⟨rfl,rfl⟩,rfl⟩
   ·clear hg
    go_wp2_with fail
    exact⟨kp,rfl,Z,.inl ⟨rfl,rfl⟩,rfl⟩
   ·clear hg
    go_wp2_with fail
    exact⟨kp,rfl,Z,.inl ⟨rfl,rfl⟩,rfl⟩
   ·obtain⟨e32,e33⟩:=hg
    (try simp only[e32,e33])
    go_wp2_with fail
    refine(HIL.out w9 (Qd u (B::X)++Z) y kp HYM.out (fun q hq=>(List.mem_append.1 hq).elim (HY0.out q) (fun h=> .inr (Nat.le_trans (Kept.size (X:=[]) kp) (HZ.out q h).1))) (fun q hq=>(List.mem_append.1 hq).elim (fun h=>Nat.lt_of_lt_of_le (HY1.out q h) (Kept.size (X:=[]) kp)) (fun h=>(HZ.out q h).2))).mono ?_
    rintro e w8 ⟨d,rfl,hde,hdm,hdd,hk8⟩
    go_wp2_with fail
    exact⟨hk8,rfl,Z,.inl ⟨rfl,rfl⟩,d,rfl,hde,hdm,hdd⟩
   ·obtain⟨d34,e34,f34,g34,h34⟩:=hg
    simp only[e34]
    go_wp2_with fail
    exact⟨kp,rfl,Z,.inl ⟨rfl,rfl⟩,_,d34,rfl,Zf rfl,f34,g34,h34.kept (Kept.alloc _ _ _)⟩
   obtain⟨e28,e29,e30,e31,e32,e33,⟨d34,e34,f34,g34,h34⟩,⟨B35,d35,e35,b35,f35,g35,h35⟩⟩:=hg
   simp only[e28,e29,e30,e31,e32,e33,e34,e35]
   clear e28 e29 e30 e31 e32 e33 e34 e35 f34 g34 h34
   haveI bN9:Zc w9 B 143 (ndC x (.slice none 0 0) u (.slice none 0 0) (.slice none 0 0)):=inferInstance
   have HO9:=hh (HO.out.keep (X:=[]) (w':=w9) kp (fun _ _=>by simp))
   have hA:(ds.map NdV.p).length+1≤maxLen:=by rw[List.length_map];unfold maxLen;omega
   have hB:((ds.map NdV.p).length+1)*8≤140737488355328:=by rw[List.length_map];omega
   have hC:w0.heap.size≤w9.heap.size:=Nat.le_trans HKR.out.size (Kept.size (X:=[]) kp)
   have hBl:B < w9.heap.size:=by omega
   have hcell:∀j v,([.pointer (some ⟨d35.p,0,none⟩)]:List Value)[j]? =some v→w9.cell? ((⟨B35,0,none⟩:Addr).add j)=some v:=fun j v hj=>by
    rw[Addr.add_mid,Nat.zero_add,cell_of_row _ _ _ _ _ _ b35]
    simpa using hj
   have h1c:∀v,v∈([.pointer (some ⟨d35.p,0,none⟩)]:List Value)→v.oneCell'=true:=fun v hv=>by
    obtain rfl:v= .pointer (some ⟨d35.p,0,none⟩):=by simpa using hv
    rfl
   have HF:=hh f35
   have HG:=hh g35
   have HH:=hh h35
   have HNE:Hid (∀q,u.ownBlock=some q→B < q):=fun q hq=>by have:=(HO.out.lt q hq).1;omega
   clear b35 f35 g35 h35
   go_wp2_with (at_builtin;refine wpList_append_own_at _ rfl (.tmp 31) (.tmp 35) 120 rfl w0.heap.size 105 i0 (.pointer none) 1 8 underlying120 hi hz0 hz1 hz2 rfl (by decide) u (ds.map NdV.p).length ((ds.map NdV.p).map fun p=> .pointer (some ⟨p,0,none⟩)) rfl HO9.out ⟨B35,0,none⟩ 1 1 [.pointer (some ⟨d35.p,0,none⟩)] rfl rfl hcell h1c hA hB hC ?_;intro v6 w6 ho6 hg6 _ hat6;obtain⟨A6,c6,rfl⟩:=Zq ho6;have HO6:=hh ho6;have HG6:=hh hg6;have HA6:=hh hat6;haveI bN6:Zc w6 B 143 (ndC x (.slice none 0 0) u (.slice none 0 0) (.slice none 0 0)):=⟨(hg6.block B hBl (fun e=>by have:=HNE.out B e.symm;omega)).trans bN9.has⟩;clear ho6 hg6 hat6)
   have HGB:Hid (w3.grownBy w6 u.ownBlock):=Kept.grownBy' (a:=w3) kp HG6.out
   have HAB:Hid ((Value.slice A6 ((ds.map NdV.p).length+1) c6).ownBlock=u.ownBlock∨∃b,(Value.slice A6 ((ds.map NdV.p).length+1) c6).ownBlock=some b∧w3.heap.size≤b):=HA6.out.imp (fun h=>h) (fun h=>⟨_,h,Kept.size (X:=[]) (w:=w3) kp⟩)
   have hkF:Kept [B] w6 (w6.setCell ⟨B,10,none⟩ (.slice A6 ((ds.map NdV.p).length+1) c6)):=Kept.setCell _ _ _ (by simp)
   have HKR6:Hid (Kept [B] w0 (w6.setCell ⟨B,10,none⟩ (.slice A6 ((ds.map NdV.p).length+1) c6))):=by
    refine Kept.trans ?_ hkF
    have h1:=HGB.out
    exact⟨h1.os.trans HKR.out.os,h1.tape.trans HKR.out.tape,h1.output.trans HKR.out.output,Nat.le_trans HKR.out.size h1.size,fun i hi hx=>(h1.block i (Nat.lt_of_lt_of_le hi HKR.out.size) (fun e=>by have:=(HO.out.lt i e.symm).1;omega)).trans (HKR.out.block i hi hx)⟩
   have HB6:Hid ((w6.setCell ⟨B,10,none⟩ (.slice A6 ((ds.map NdV.p).length+1) c6)).heap[B]? =some (.cells (ndC x (.slice none 0 0) (.slice A6 ((ds.map NdV.p).length+1) c6) (.slice none 0 0) (.slice none 0 0)) 143 (0,0))):=heap_setCell_same _ _ _ _ _ _ bN6.has
   have HOF:Hid (ZbT (w6.setCell ⟨B,10,none⟩ (.slice A6 ((ds.map NdV.p).length+1) c6)) w0.heap.size (.slice A6 ((ds.map NdV.p).length+1) c6) ((ds++ [d35]).map NdV.p)):=by
    have h1:w6.ownsRow w0.heap.size 105 1 (.slice A6 ((ds.map NdV.p).length+1) c6) ((ds.map NdV.p).length+1) (((ds.map NdV.p).map fun p=> .pointer (some ⟨p,0,none⟩))++ [.pointer (some ⟨d35.p,0,none⟩)]):=HO6.out
    have h2:ZbT w6 w0.heap.size (.slice A6 ((ds.map NdV.p).length+1) c6) ((ds++ [d35]).map NdV.p):=by
     unfold ZbT
     rw[List.map_append,List.map_append,List.length_append]
     exact h1
    exact h2.keep hkF (fun q hq hm=>by have:=(h2.lt q hq).1;simp at hm;omega)
   have HEF:Hid ((ds++ [d35]).map (fun y=>y.x.er)=(x.ls.take (k+1)).map ExV.er):=by
    rw[Hid,HTK.out,List.map_append,HE.out]
    simp only[List.map_cons,List.map_nil,HF.out]
   have HDF:Hid (∀y,y∈ds++ [d35]→NdM M n y∧NdD (Qd (.slice A6 ((ds.map NdV.p).length+1) c6) (B::X)) (w6.setCell ⟨B,10,none⟩ (.slice A6 ((ds.map NdV.p).length+1) c6)) y):=by
    intro y' hy'
    have hY:∀q,q∈ [B]→q∈Qd (.slice A6 ((ds.map NdV.p).length+1) c6) (B::X):=fun q hq=>Zl.2 (.inr (by simp at hq;simp[hq]))
    rcases List.mem_append.1 hy' with h1 | h1
    ·exact⟨(HD.out y' h1).1,((HD.out y' h1).2.grow HGB.out HAB.out).less hkF hY⟩
    ·obtain rfl:y'=d35:=by simpa using h1
     have h2:NdD (Qd u (B::X)) w9 y':=HH.out.sub (fun q hq=>List.mem_append.2 (.inl hq))
     exact⟨HG.out,(h2.grow HG6.out (HA6.out.imp (fun h=>h) (fun h=>⟨_,h,Nat.le_refl _⟩))).less hkF hY⟩
   clear HO6 HG6 HA6 HH hcell
   go_roundw
   case rel=>exact⟨k+1,_,ds++ [d35],by go_num,by omega,by rw[←List.length_map (f:=NdV.p)];exact HB6.out,by rw[←List.length_map (f:=NdV.p)];exact HOF.out,HEF.out,by rw[←List.length_map (f:=NdV.p)];exact HDF.out,by rw[←List.length_map (f:=NdV.p)];exact HKR6.out⟩
   case measure=>simp[intOf];omega
  ·obtain rfl:k=x.ls.length:=by omega
   obtain⟨PA,pc,rfl,hpt⟩:=HO.out.st (X:=B::X) (fun q hq=>by
    rcases List.mem_cons.1 hq with h | h
    ·omega
    ·have:=HBX.out q h;omega)
   have HPT:=hh hpt
   have HPE:Hid (ds.map (fun y=>y.x.er)=x.ls.map ExV.er):=by rw[Hid,HE.out,List.take_length]
   have HPD:Hid (∀y,y∈ds→NdM M n y∧NdD (B::X) w3 y):=fun y hy=>⟨(HD.out y hy).1,(HD.out y hy).2.sub (fun q hq=>Zl.2 (.inr hq))⟩
   have hB3:B < w3.heap.size:=Nat.lt_of_lt_of_le hB2 HKR.out.size
   clear HO HE HD HIL hpt HB0 HRL
   go_upto_region 8 with(fail)
   generalize x.aa=AA at*
   rw[List.length_map]at*
   go_loopw [43] (fun s43 wr=>∃(k:Nat) (u2 u3:Value) (qs:List NdV),s43= .int .i64 k∧k≤x.al.length∧wr.heap[B]? =some (.cells (ndC x (.slice none 0 0) (.slice PA ds.length pc) u2 u3) 143 (0,0))∧ZbT wr w3.heap.size u2 (qs.map NdV.p)∧Zgk wr w3.heap.size u3 k∧
    (∀g,u2.ownBlock=some g→u3.ownBlock≠some g)∧qs.map (fun y=>y.x.er)=(x.al.take k).map (fun a=>a.2.2.2.er)∧(∀y,y∈qs→NdM M n y∧NdD (Qd u2 (Qd u3 (B::X))) wr y)∧Kept [B] w3 wr) (fun s43 _=>x.al.length - (intOf s43).toNat)
   case atStart=>exact⟨0,_,_,[],rfl,Nat.zero_le _,bN.has,ZbT.nil _ _,Zgk.nil _ _,fun g hg=>by simp[Value.ownBlock]at hg,rfl,fun y hy=>by simp at hy,Kept.refl _ _⟩
   case round=>
    obtain⟨k,u2,u3,qs,rfl,hk,hb,ho,hoc,hdj,he,hd,hkr⟩:=hrel
    have HO:=hh ho
    have HOC:=hh hoc
    have HDJ:=hh hdj
    have HE:=hh he
    have HD:=hh hd
    have HKR4:=hh hkr
    haveI bN4:Zc wr B 143 (ndC x (.slice none 0 0) (.slice PA ds.length pc) u2 u3):=⟨hb⟩
    have HK4:Hid (Kept [] w wr):=Kept.trans0 (a:=w) (b:=w3) kp hkr (by omega)
    haveI p_w4:Zb wr w:=⟨HK4.out⟩
    haveI b4:Zc wr w.heap.size 41 x.cells.toArray:=⟨(hkr.block w.heap.size (by omega) (by simp;omega)).trans bx.has⟩
    have hql:qs.length≤61:=by
     have h1:=congrArg List.length he
     simp only[List.length_map,List.length_take]at h1
     omega
    clear hb ho hoc hdj he hd hkr bN
    obtain⟨w4,rfl⟩:∃w4:World,w4=wr:=⟨_,rfl⟩
    by_cases hlt:k < x.al.length
    ·obtain⟨a,ha⟩:∃a,x.al[k]? =some a:=⟨_,List.getElem?_eq_getElem hlt⟩
     obtain⟨ab,ao,rfl,har⟩:=HRA.out.some_ ha
     haveI ia:QH w ab (ao+k*10) a:=⟨har k a ha⟩
     have HAM:Hid (a∈x.al):=List.mem_of_getElem? ha
     have HAC:Hid (a.2.1.length=0):=by rw[Hid,HCH.out a HAM.out];rfl
     have HTK:Hid ((x.al.take (k+1)).map (fun a=>a.2.2.2.er)=(x.al.take k).map (fun a=>a.2.2.2.er)++ [a.2.2.2.er]):=by
      obtain⟨h1,rfl⟩:=List.getElem?_eq_some_iff.1 ha
      rw[Hid,List.take_succ_eq_append_getElem h1,List.map_append];rfl
     have HY0:Hid (∀q,q∈Qd u2 (Qd u3 (B::X))→q∈X∨w.heap.size≤q):=fun q hq=>(Zl.1 hq).elim (fun h=> .inr (by have:=(HO.out.lt q h).1;omega)) (fun h=>(Zl.1 h).elim (fun h=> .inr (by have:=(HOC.out.lt q h).1;omega)) (fun h=>(List.mem_cons.1 h).elim (fun h=> .inr (by omega)) .inl))
     have HY1:Hid (∀q,q∈Qd u2 (Qd u3 (B::X))→q < w4.heap.size):=fun q hq=>(Zl.1 hq).elim (fun h=>(HO.out.lt q h).2) (fun h=>(Zl.1 h).elim (fun h=>(HOC.out.lt q h).2) (fun h=>by
      have h1:=HKR4.out.size
      rcases List.mem_cons.1 h with h | h
      ·omega
      ·have:=HBX.out q h;omega))
     clear har ha
     go_upto_region 10 with(fail)
     refine Q2 [(0,47,(.pointer (some ⟨B,0,none⟩)))] [(1,⟨48,[],false,.eq (.pointer (some ⟨B,0,none⟩))⟩),(2,⟨49,[48],false,.eq (.pointer (some ⟨B,0,none⟩))⟩),(3,⟨50,[49],false,.eq (.pointer (some ⟨B,11,none⟩))⟩),(4,⟨51,[50],false,.eq u2⟩),(5,⟨52,[],false,.eq (.pointer (some ⟨R,0,none⟩))⟩),(6,⟨53,[],false,.eq (.pointer (some ⟨w4.heap.size,1,none⟩))⟩),(7,⟨54,[53],false,.eq (.agg a.2.2.2.cells.toArray)⟩),(8,⟨55,[52,54],false,.nd M (Qd u2 (Qd u3 (B::X))) n a.2.2.2.er⟩),(9,⟨56,[55],false,.oc M (Qd u2 (Qd u3 (B::X))) n a.2.2.2.er⟩)] [10,11,12,13] (by kernel_rfl) (by kernel_rfl) ⟨rfl,by kernel_rfl⟩ (by kernel_rfl) (fun _ _ _ _ _ h=>h) (by repeat(first | exact trivial | refine And.intro rfl ?_)) ?_
     apply Exists.intro
     refine⟨fun vs=>?_,?_⟩
     ·simp only[List.map_cons,List.map_nil,Q5,Jj,Act.put,List.setIfInBounds_toArray,List.set_cons_zero,List.set_cons_succ]
      exact rfl
     refine⟨⟨?_,?_,?_,?_,?_,?_,?_,?_,?_,trivial⟩,?_⟩<;>intro vs Z w9 hk hZ hg
     all_goals
      simp only[ZW,List.flatMap_cons,List.flatMap_nil,List.getElem?_cons_zero,List.getElem?_cons_succ,Option.toList_some,List.cons_append,List.nil_append]
      haveI p_w9:Zb w9 _:=⟨hk⟩
      have hz_w9:=hk.size
      have HZ:=hh hZ
      clear hk hZ
      (try simp only[List.map_cons,List.map_nil,ZG,Zi,Z8,SZ.eq_p,SZ.ex_p,SZ.wx_p,SZ.new_p,SZ.nd_p,SZ.oc_p,Nat.reduceEqDiff,reduceIte,and_true]at hg)
     ·clear hg
      go_wp2_with fail
      exact⟨kp,rfl,Z,.inl ⟨rfl,rfl⟩,rfl⟩
     ·obtain e48:=hg
      (try simp only[e48])
      go_wp2_with fail
      exact⟨kp,rfl,Z,.inl ⟨rfl,rfl⟩,rfl⟩
     ·obtain e49:=hg
      (try simp only[e49])
      go_wp2_with fail
      exact⟨kp,rfl,Z,.inl ⟨rfl,rfl⟩,rfl⟩
     ·obtain e50:=hg
      (try simp only[e50])
      go_wp2_with fail
      exact⟨kp,rfl,Z,.inl ⟨rfl,rfl⟩,rfl⟩
     ·clear hg
      go_wp2_with fail
      exact⟨kp,rfl,Z,.inl ⟨rfl,rfl⟩,rfl⟩
     ·clear hg
      go_wp2_with fail
      exact⟨kp,rfl,Z,.inl ⟨rfl,rfl⟩,rfl⟩
     ·obtain e53:=hg
      (try simp only[e53])
      go_wp2_with fail
      exact⟨kp,rfl,Z,.inl ⟨rfl,rfl⟩,rfl⟩
     ·obtain⟨e52,e54⟩:=hg
      (try simp only[e52,e54])
      go_wp2_with fail
      refine(HIA.out w9 (Qd u2 (Qd u3 (B::X))++Z) a kp HAM.out (fun q hq=>(List.mem_append.1 hq).elim (HY0.out q) (fun h=> .inr (Nat.le_trans (Kept.size (X:=[]) kp) (HZ.out q h).1))) (fun q hq=>(List.mem_append.1 hq).elim (fun h=>Nat.lt_of_lt_of_le (HY1.out q h) (Kept.size (X:=[]) kp)) (fun h=>(HZ.out q h).2))).mono ?_
      rintro e w8 ⟨d,rfl,hde,hdm,hdd,hk8⟩
      go_wp2_with fail
      exact⟨hk8,rfl,Z,.inl ⟨rfl,rfl⟩,d,rfl,hde,hdm,hdd⟩
     ·obtain⟨d55,e55,f55,g55,h55⟩:=hg
      simp only[e55]
      go_wp2_with fail
      exact⟨kp,rfl,Z,.inl ⟨rfl,rfl⟩,_,d55,rfl,Zf rfl,f55,g55,h55.kept (Kept.alloc _ _ _)⟩
     obtain⟨e48,e49,e50,e51,e52,e53,e54,⟨d55,e55,f55,g55,h55⟩,⟨B56,d56,e56,b56,f56,g56,h56⟩⟩:=hg
     simp only[e48,e49,e50,e51,e52,e53,e54,e55,e56]
     clear e48 e49 e50 e51 e52 e53 e54 e55 e56 f55 g55 h55
     haveI bN9:Zc w9 B 143 (ndC x (.slice none 0 0) (.slice PA ds.length pc) u2 u3):=inferInstance
     have HO9:=hh (HO.out.keep (X:=[]) (w':=w9) kp (fun _ _=>by simp))
     have hA:(qs.map NdV.p).length+1≤maxLen:=by rw[List.length_map];unfold maxLen;omega
     have hB:((qs.map NdV.p).length+1)*8≤140737488355328:=by rw[List.length_map];omega
     have hC:w3.heap.size≤w9.heap.size:=Nat.le_trans HKR4.out.size (Kept.size (X:=[]) kp)
     have hBl:B < w9.heap.size:=by omega
     have hcell:∀j v,([.pointer (some ⟨d56.p,0,none⟩)]:List Value)[j]? =some v→w9.cell? ((⟨B56,0,none⟩:Addr).add j)=some v:=fun j v hj=>by
      rw[Addr.add_mid,Nat.zero_add,cell_of_row _ _ _ _ _ _ b56]
      simpa using hj
     have h1c:∀v,v∈([.pointer (some ⟨d56.p,0,none⟩)]:List Value)→v.oneCell'=true:=fun v hv=>by
      obtain rfl:v= .pointer (some ⟨d56.p,0,none⟩):=by simpa using hv
      rfl
     have HF:=hh f56
     have HG:=hh g56
     have HH:=hh h56
     have HNE:Hid (∀q,u2.ownBlock=some q→B < q):=fun q hq=>by have:=(HO.out.lt q hq).1;omega
     haveI bA9:Zc w9 w4.heap.size 63 (AsV.cells a).toArray:=inferInstance
     have hNA:Hid (∀q,u2.ownBlock=some q→q < w4.heap.size):=fun q hq=>(HO.out.lt q hq).2
     have hA9:w4.heap.size < w9.heap.size:=(Array.getElem?_eq_some_iff.1 bA9.has).1
     clear b56 f56 g56 h56
     go_upto_region 11 with(at_builtin;refine wpList_append_own_at _ rfl (.tmp 51) (.tmp 56) 120 rfl w3.heap.size 105 i0 (.pointer none) 1 8 underlying120 hi hz0 hz1 hz2 rfl (by decide) u2 (qs.map NdV.p).length ((qs.map NdV.p).map fun p=> .pointer (some ⟨p,0,none⟩)) rfl HO9.out ⟨B56,0,none⟩ 1 1 [.pointer (some ⟨d56.p,0,none⟩)] rfl rfl hcell h1c hA hB hC ?_;intro v6 w6 ho6 hg6 _ hat6;obtain⟨A6,c6,rfl⟩:=Zq ho6;have HO6:=hh ho6;have HG6:=hh hg6;have HA6:=hh hat6;haveI bN6:Zc w6 B 143 (ndC x (.slice none 0 0) (.slice PA ds.length pc) u2 u3):=⟨(hg6.block B hBl (fun e=>by have:=HNE.out B e.symm;omega)).trans bN9.has⟩;haveI bA6:Zc w6 w4.heap.size 63 (AsV.cells a).toArray:=⟨(hg6.block w4.heap.size hA9 (fun e=>by have:=hNA.out _ e.symm;omega)).trans bA9.has⟩;clear ho6 hg6 hat6)
     have HGB:Hid (w4.grownBy w6 u2.ownBlock):=Kept.grownBy' (a:=w4) kp HG6.out
     have HAB:Hid ((Value.slice A6 ((qs.map NdV.p).length+1) c6).ownBlock=u2.ownBlock∨∃b,(Value.slice A6 ((qs.map NdV.p).length+1) c6).ownBlock=some b∧w4.heap.size≤b):=HA6.out.imp (fun h=>h) (fun h=>⟨_,h,Kept.size (X:=[]) (w:=w4) kp⟩)
     have HA9:Hid (w4.heap.size≤w9.heap.size):=Kept.size (X:=[]) kp
     refine Zm ?_
     intro w7 hw7
     rw[←List.length_map (f:=NdV.p)]at hw7
     have hkF:Kept [B] w6 w7:=by rw[hw7];exact Kept.setCell _ _ _ (by simp)
     have HKR7:Hid (Kept [B] w3 w7):=by
      refine Kept.trans ?_ hkF
      have h1:=HGB.out
      exact⟨h1.os.trans HKR4.out.os,h1.tape.trans HKR4.out.tape,h1.output.trans HKR4.out.output,Nat.le_trans HKR4.out.size h1.size,fun i hi hx=>(h1.block i (Nat.lt_of_lt_of_le hi HKR4.out.size) (fun e=>by have:=(HO.out.lt i e.symm).1;omega)).trans (HKR4.out.block i hi hx)⟩
     have HK7:Hid (Kept [] w w7):=Kept.trans0 (a:=w) (b:=w3) kp HKR7.out (by omega)
     haveI p_w7:Zb w7 w:=⟨HK7.out⟩
     haveI bN7:Zc w7 B 143 (ndC x (.slice none 0 0) (.slice PA ds.length pc) (.slice A6 ((qs.map NdV.p).length+1) c6) u3):=⟨by rw[hw7];exact heap_setCell_same _ _ _ _ _ _ bN6.has⟩
     haveI bA7:Zc w7 w4.heap.size 63 (AsV.cells a).toArray:=⟨(hkF.block _ (Array.getElem?_eq_some_iff.1 bA6.has).1 (by have:=HKR4.out.size;simp;omega)).trans bA6.has⟩
     have hb7:B < w7.heap.size:=(Array.getElem?_eq_some_iff.1 bN7.has).1
     have HOF:Hid (ZbT w7 w3.heap.size (.slice A6 ((qs.map NdV.p).length+1) c6) ((qs++ [d56]).map NdV.p)):=by
      have h1:w6.ownsRow w3.heap.size 105 1 (.slice A6 ((qs.map NdV.p).length+1) c6) ((qs.map NdV.p).length+1) (((qs.map NdV.p).map fun p=> .pointer (some ⟨p,0,none⟩))++ [.pointer (some ⟨d56.p,0,none⟩)]):=HO6.out
      have h2:ZbT w6 w3.heap.size (.slice A6 ((qs.map NdV.p).length+1) c6) ((qs++ [d56]).map NdV.p):=by
       unfold ZbT
       rw[List.map_append,List.map_append,List.length_append]
       exact h1
      exact h2.keep hkF (fun q hq hm=>by have:=(h2.lt q hq).1;simp at hm;omega)
     have HOC7:Hid (Zgk w7 w3.heap.size u3 k):=by
      have h1:Zgk w6 w3.heap.size u3 k:=HOC.out.keep (X:=match u2.ownBlock with | some g=>[g] | none=>[]) (Kept.of_grown HGB.out (fun q hq _=>by rw[hq];simp)) (fun q hq hm=>by
       cases h:u2.ownBlock with
       | none=>rw[h]at hm;simp at hm
       | some g=>
        rw[h]at hm
        obtain rfl:q=g:=by simpa using hm
        exact HDJ.out q h hq)
      exact h1.keep hkF (fun q hq hm=>by have:=(h1.lt q hq).1;simp at hm;omega)
     have HDJ7:Hid (∀g,(Value.slice A6 ((qs.map NdV.p).length+1) c6).ownBlock=some g→u3.ownBlock≠some g):=fun g hg h3=>by
      have:=(HOC.out.lt g h3).2
      rcases HAB.out with h | ⟨b,h,hle⟩
      ·exact HDJ.out g (h▸hg) h3
      ·rw[h]at hg;cases hg;omega
     have HEF:Hid ((qs++ [d56]).map (fun y=>y.x.er)=(x.al.take (k+1)).map (fun a=>a.2.2.2.er)):=by
      rw[Hid,HTK.out,List.map_append,HE.out]
      simp only[List.map_cons,List.map_nil,HF.out]
     have HDF:Hid (∀y,y∈qs++ [d56]→NdM M n y∧NdD (Qd (.slice A6 ((qs.map NdV.p).length+1) c6) (Qd u3 (B::X))) w7 y):=by
      intro y' hy'
      have hY:∀q,q∈ [B]→q∈Qd (.slice A6 ((qs.map NdV.p).length+1) c6) (Qd u3 (B::X)):=fun q hq=>Zl.2 (.inr (Zl.2 (.inr (by simp at hq;simp[hq]))))
      rcases List.mem_append.1 hy' with h1 | h1
      ·exact⟨(HD.out y' h1).1,((HD.out y' h1).2.grow HGB.out HAB.out).less hkF hY⟩
      ·obtain rfl:y'=d56:=by simpa using h1
       have h2:NdD (Qd u2 (Qd u3 (B::X))) w9 y':=HH.out.sub (fun q hq=>List.mem_append.2 (.inl hq))
       exact⟨HG.out,(h2.grow HG6.out (HA6.out.imp (fun h=>h) (fun h=>⟨_,h,Nat.le_refl _⟩))).less hkF hY⟩
     have hql7:(qs++ [d56]).length≤62:=by simp;omega
     generalize hV6:(Value.slice A6 ((qs.map NdV.p).length+1) c6)=v6 at*
     generalize qs++ [d56]=qs7 at*
     have hs37:w3.heap.size≤w7.heap.size:=HKR7.out.size
     clear hw7 hkF HO6 HG6 HA6 HH HG HF hcell HGB HAB HO HO9 HOC HDJ HD HE HK4 p_w4 bN4 b4 bN9 bA9 bN6 bA6 hBl hC hA9 hNA HNE HY0 HY1 HKR4 p_w9 HTK HA9 hV6 h1c hA hB HAM HZ hz_w9
     go_upto_region 13 with(fail)
     rw[HAC.out]
     go_loopw [10,63] (fun s10 s63 wr=>s63= .int .i64 0∧s10= .slice none 0 0∧wr=w7) (fun _ _ _=>0)
     case atStart=>exact⟨rfl,rfl,rfl⟩
     case round=>
      obtain⟨rfl,rfl,hw⟩:=hrel
      replace hw:=hw.symm
      subst hw
      obtain⟨A3,c3,e3⟩:=Zq HOC7.out
      obtain rfl:=e3
      have hA:k+1≤maxLen:=by unfold maxLen;omega
      have hB:(k+1)*24≤140737488355328:=by omega
      have hC:w3.heap.size≤(w7.alloc (.cells #[.slice none 0 0] 147)).heap.size:=by simp;omega
      have hcell:∀j v,([.slice none 0 0]:List Value)[j]? =some v→(w7.alloc (.cells #[.slice none 0 0] 147)).cell? ((⟨w7.heap.size,0,none⟩:Addr).add j)=some v:=fun j v hj=>by
       rw[Addr.add_mid,Nat.zero_add,cell_of_row _ _ _ _ _ _ (Zf rfl)]
       simpa using hj
      have h1c:∀v,v∈([.slice none 0 0]:List Value)→v.oneCell'=true:=fun v hv=>by
       obtain rfl:v= .slice none 0 0:=by simpa using hv
       rfl
      have HO9:Hid ((w7.alloc (.cells #[.slice none 0 0] 147)).ownsRow w3.heap.size 147 1 (.slice A3 k c3) k (List.replicate k (.slice none 0 0))):=(HOC7.out.keep (X:=[]) (Kept.alloc _ _ _) (fun _ _=>by simp))
      have HNE:Hid (∀q,(Value.slice A3 k c3).ownBlock=some q→B < q∧q < w7.heap.size):=fun q hq=>by have:=HOC7.out.lt q hq;omega
      go_wp2_with (at_builtin;refine wpList_append_own_at _ rfl (.tmp 90) (.tmp 92) 141 rfl w3.heap.size 147 i1 (.slice none 0 0) 1 24 underlying141 hi1 hy0 hy1 hy2 rfl (by decide) (.slice A3 k c3) k (List.replicate k (.slice none 0 0)) rfl HO9.out ⟨w7.heap.size,0,none⟩ 1 1 [.slice none 0 0] rfl rfl hcell h1c hA hB hC ?_;intro v8 w8 ho8 hg8 _ hat8;obtain⟨A8,c8,rfl⟩:=Zq ho8;have HO8:=hh ho8;have HG8:=hh hg8;have HA8:=hh hat8;haveI bN8:Zc w8 B 143 (ndC x (.slice none 0 0) (.slice PA ds.length pc) v6 (.slice A3 k c3)):=⟨(hg8.block B (by simp;omega) (fun e=>by have:=(HNE.out B e.symm).1;omega)).trans (Zr bN7.has hb7)⟩;clear ho8 hg8 hat8)
      have HGB8:Hid (w7.grownBy w8 (Value.slice A3 k c3).ownBlock):=Kept.grownBy' (a:=w7) (Kept.alloc _ _ _) HG8.out
      have HAB8:Hid ((Value.slice A8 (k+1) c8).ownBlock=(Value.slice A3 k c3).ownBlock∨∃b,(Value.slice A8 (k+1) c8).ownBlock=some b∧w7.heap.size≤b):=HA8.out.imp (fun h=>h) (fun h=>⟨_,h,by simp⟩)
      obtain⟨w10,hw10⟩:∃w10,w10=w8.setCell ⟨B,12,none⟩ (.slice A8 (k+1) c8):=⟨_,rfl⟩
      rw[←hw10]
      have hkF:Kept [B] w8 w10:=by rw[hw10];exact Kept.setCell _ _ _ (by simp)
      have hb10:w10.heap[B]? =some (.cells (ndC x (.slice none 0 0) (.slice PA ds.length pc) v6 (.slice A8 (k+1) c8)) 143 (0,0)):=by rw[hw10];exact heap_setCell_same _ _ _ _ _ _ bN8.has
      have HKR10:Kept [B] w3 w10:=by
       refine Kept.trans ?_ hkF
       have h1:=HGB8.out
       exact⟨h1.os.trans HKR7.out.os,h1.tape.trans HKR7.out.tape,h1.output.trans HKR7.out.output,Nat.le_trans HKR7.out.size h1.size,fun i hi hx=>(h1.block i (Nat.lt_of_lt_of_le hi HKR7.out.size) (fun e=>by have:=(HOC7.out.lt i e.symm).1;omega)).trans (HKR7.out.block i hi hx)⟩
      have hOP:ZbT w10 w3.heap.size v6 (qs7.map NdV.p):=by
       have h1:ZbT w8 w3.heap.size v6 (qs7.map NdV.p):=HOF.out.keep (X:=match(Value.slice A3 k c3).ownBlock with | some g=>[g] | none=>[]) (Kept.of_grown HGB8.out (fun q hq _=>by rw[hq];simp)) (fun q hq hm=>by
        cases h:(Value.slice A3 k c3).ownBlock with
        | none=>rw[h]at hm;simp at hm
        | some g=>
         rw[h]at hm
         obtain rfl:q=g:=by simpa using hm
         exact HDJ7.out q hq h)
       exact h1.keep hkF (fun q hq hm=>by have:=(h1.lt q hq).1;simp at hm;omega)
      have hOC:Zgk w10 w3.heap.size (.slice A8 (k+1) c8) (k+1):=by
       have h1:Zgk w8 w3.heap.size (.slice A8 (k+1) c8) (k+1):=by
        unfold Zgk
        rw[List.replicate_succ']
        exact HO8.out
       exact h1.keep hkF (fun q hq hm=>by have:=(h1.lt q hq).1;simp at hm;omega)
      have hDJ:∀g,v6.ownBlock=some g→(Value.slice A8 (k+1) c8).ownBlock≠some g:=fun g hg h3=>by
       have:=(HOF.out.lt g hg).2
       rcases HAB8.out with h | ⟨b,h,hle⟩
       ·exact HDJ7.out g hg (h▸h3)
       ·rw[h]at h3;cases h3;omega
      have hsw:∀(u v:Value) (Z:List Nat) q,q∈Qd u (Qd v Z)→q∈Qd v (Qd u Z):=fun u v Z q hq=>(Zl.1 hq).elim (fun h=>Zl.2 (.inr (Zl.2 (.inl h)))) (fun h=>(Zl.1 h).elim (fun h=>Zl.2 (.inl h)) (fun h=>Zl.2 (.inr (Zl.2 (.inr h)))))
      have hDF:∀y,y∈qs7→NdM M n y∧NdD (Qd v6 (Qd (.slice A8 (k+1) c8) (B::X))) w10 y:=fun y hy=>by
       have h1:=(HDF.out y hy).2.sub (hsw _ _ _)
       have h2:=(h1.grow HGB8.out HAB8.out).sub (hsw _ _ _)
       exact⟨(HDF.out y hy).1,h2.less hkF (fun q hq=>Zl.2 (.inr (Zl.2 (.inr (by simp at hq;simp[hq])))))⟩
      exact⟨⟨k+1,v6,_,qs7,by go_num,by omega,hb10,hOP,hOC,hDJ,HEF.out,hDF,HKR10⟩,by simp[intOf];omega⟩
    ·obtain rfl:k=x.al.length:=by omega
     obtain⟨QA,qc,rfl,hqt⟩:=HO.out.st (X:=B::X) (fun q hq=>by
      rcases List.mem_cons.1 hq with h | h
      ·omega
      ·have:=HBX.out q h;omega)
     obtain⟨CA,cc,rfl,hct⟩:=HOC.out.st (X:=B::X) (fun q hq=>by
      rcases List.mem_cons.1 hq with h | h
      ·omega
      ·have:=HBX.out q h;omega)
     rw[List.length_map]at*
     have HQT:=hh hqt
     have HCT:=hh hct
     have HPT4:Hid (St (B::X) w4 (fun w'=>Ji w' PA (ds.map NdV.p))):=fun w' hk'=>HPT.out w' ((HKR4.out.mono (by simp)).trans hk')
     have HPD4:Hid (∀y,y∈ds→NdM M n y∧NdD (B::X) w4 y):=fun y hy=>⟨(HPD.out y hy).1,(HPD.out y hy).2.less HKR4.out (by simp)⟩
     have HQE:Hid (qs.map (fun y=>y.x.er)=x.al.map (fun a=>a.2.2.2.er)):=by rw[Hid,HE.out,List.take_length]
     have HQD:Hid (∀y,y∈qs→NdM M n y∧NdD (B::X) w4 y):=fun y hy=>⟨(HD.out y hy).1,(HD.out y hy).2.sub (fun q hq=>Zl.2 (.inr (Zl.2 (.inr hq))))⟩
     have HXB:Hid (∀q,q∈B::X→q < w4.heap.size):=fun q hq=>by
      have h1:=HKR4.out.size
      rcases List.mem_cons.1 hq with h | h
      ·omega
      ·have:=HBX.out q h;omega
     have HX4:Hid (ExD (B::X) w4 x):=HXX.out.later HK4.out (fun q hq=>(List.mem_cons.1 hq).elim (fun h=> .inr (by omega)) .inl)
     have hB4:w.heap.size≤B:=by omega
     have hdl4:ds.length≤1000000000:=by
      have h1:=congrArg List.length HPE.out
      simp only[List.length_map]at h1
      omega
     clear hqt hct HPT HPD HE HD HIA HO HOC HDJ HRA HXX
     have HFIN:Hid (∀W ma mc ms,Kept [B] w4 W→W.heap[B]? =some (.cells (ndC x (.slice ma ms.length mc) (.slice PA ds.length pc) (.slice QA qs.length qc) (.slice CA x.al.length cc)) 143 (0,0))→St X W (fun w'=>Zo MeV 12 MeV.cells w' ma ms)→MsD X W ms→(∀m,m∈ms→0≤m.n∧m.n≤2)→ms.length≤1000000→
      NdD X W (.mk B x ma mc ms PA pc ds QA qc qs CA (List.replicate x.al.length []) cc)):=fun W ma mc ms hk hb h3 h4 h5 h6=>by
      have hsub:∀{w'},Kept X W w'→Kept (B::X) w4 w':=fun hk'=>(hk.mono (by simp)).trans (hk'.mono (fun q hq=>List.mem_cons_of_mem _ hq))
      have hb2:W.heap[(NdV.mk B x ma mc ms PA pc ds QA qc qs CA (List.replicate x.al.length []) cc).p]? =some (.cells (NdV.mk B x ma mc ms PA pc ds QA qc qs CA (List.replicate x.al.length []) cc).cells.toArray 143 (0,0)):=by
       rw[NdV.cells_ndC]
       show W.heap[B]? =some (.cells (ndC x (.slice ma ms.length mc) (.slice PA ds.length pc) (.slice QA qs.length qc) (.slice CA (List.replicate x.al.length ([]:List (List NdV))).length cc)) 143 (0,0))
       rw[List.length_replicate]
       exact hb
      refine NdD.make (fun w' hk'=>hk'.obj hb2 (fun hm=>?_)) (ExD.sub (X:=B::X) (HX4.out.less hk (by simp)) (fun q hq=>List.mem_cons_of_mem _ hq)) h3 h4 h5 h6 (fun w' hk'=>HPT4.out w' (hsub hk')) (fun y hy=>NdD.sub (X:=B::X) ((HPD4.out y hy).2.less hk (by simp)) (fun q hq=>List.mem_cons_of_mem _ hq)) hdl4
       (fun w' hk'=>HQT.out w' (hsub hk')) (fun y hy=>NdD.sub (X:=B::X) ((HQD.out y hy).2.less hk (by simp)) (fun q hq=>List.mem_cons_of_mem _ hq)) (show qs.length≤1000000000 by omega) (fun w' hk'=>HCT.out w' (hsub hk')) (fun l hl k hk2 y hy=>?_) (by simp[NdV.chs];omega)
      ·have h1:B < B:=HBX.out B hm
       omega
      ·have:l= []:=by
        have h1:l∈List.replicate x.al.length ([]:List (List NdV)):=hl
        simpa using(List.mem_replicate.1 h1).2
       rw[this]at hk2
       simp at hk2
     have HNS:Hid (∀ma mc ms,NdS M n (.mk B x ma mc ms PA pc ds QA qc qs CA (List.replicate x.al.length []) cc)):=fun ma mc ms=>by
      refine⟨?_,fun y hy=>(HPD4.out y hy).1,?_,fun y hy=>(HQD.out y hy).1,?_,fun l hl k hk2 y hy=>?_⟩
      ·show ds.map (fun y=>y.x.er)=x.er.ls
       rw[HPE.out,ExV.er_ls]
      ·show qs.map (fun y=>y.x.er)=x.er.al.map (fun a=>a.2.2.2)
       rw[HQE.out,ExV.er_al,List.map_map];rfl
      ·show(List.replicate x.al.length []).map _=x.er.al.map _
       rw[ExV.er_al,List.map_map,List.map_replicate]
       apply List.ext_getElem
       ·simp
       ·intro i h1 h2
        simp only[List.getElem_replicate,List.getElem_map,Function.comp]
        have:(x.al[i]'(by simpa using h2)).2.1= []:=HCH.out _ (List.getElem_mem _)
        simp[AsV.er,this]
      ·have:l= []:=by
        have h1:l∈List.replicate x.al.length ([]:List (List NdV)):=hl
        simpa using(List.mem_replicate.1 h1).2
       rw[this]at hk2
       simp at hk2
     cases hkf:Zd2 x.kind with
     | none=>
      have HMN2:Hid (M (n+1) x.er= []):=HMN.out hkf
      clear HKD HMN
      go_wp2_with fail
      go_region
      go_wp2_with fail
      go_ret
      refine⟨.mk B x none 0 [] PA pc ds QA qc qs CA (List.replicate x.al.length []) cc,rfl,rfl,⟨?_,HNS.out none 0 []⟩,HFIN.out _ none 0 [] (Kept.drew _ _) bN4.has (fun w' _=> .inl rfl) (fun m hm=>by simp at hm) (fun m hm=>by simp at hm) (by simp),HK4.out.drew'⟩
      show []=M (n+1) x.er
      rw[HMN2.out]
     | some f=>
      have eg:=Zg4 hkf
      have HKF:Hid (∀W,Kept [] w4 W→Calls prog f #[.pointer (some ⟨R,0,none⟩),.pointer (some ⟨B,0,none⟩)] W (Zc1 (B::X) (M (n+1) x.er) W)):=fun W hk=>by
       have hkB:Kept [B] w4 W:=hk.mono (by simp)
       have hnd:NdD (B::X) W (.mk B x none 0 [] PA pc ds QA qc qs CA (List.replicate x.al.length []) cc)→True:=fun _=>trivial
       refine HKD.out f (.mk B x none 0 [] PA pc ds QA qc qs CA (List.replicate x.al.length []) cc) (B::X) W rfl hkf (HK4.out.trans hk) ⟨?_,HX4.out.kept hk,fun hy=>(HPD4.out _ hy).2.kept hk,fun hy=>(HQD.out _ hy).2.kept hk,fun hl hk2 hy=>?_⟩ (HNS.out none 0 []) (fun q hq=>Nat.lt_of_lt_of_le (HXB.out q hq) hk.size)
       ·exact(HFIN.out W none 0 [] hkB (hk.obj bN4.has (by simp)) (fun w' _=> .inl rfl) (fun m hm=>by simp at hm) (fun m hm=>by simp at hm) (by simp)).sub (by simp)
       ·rename_i l k y
        have:l= []:=by
         have h1:l∈List.replicate x.al.length ([]:List (List NdV)):=hl
         simpa using(List.mem_replicate.1 h1).2
        rw[this]at hk2
        simp at hk2
      clear HKD HMN
      go_wp2_with fail
      go_region
      go_wp2_with fail
      refine(HKF.out _ kp).mono ?_
      rintro e w11 ⟨vr,ms,rfl,ho,hme,hmd,hk11⟩
      obtain⟨MA,mc,rfl⟩:=Zq ho
      have HO:=hh ho
      have HME:=hh hme
      have HMD:=hh hmd
      have HK11:Hid (Kept [] w4 w11):=Kept.trans (Kept.drew _ _) hk11
      haveI bN11:Zc w11 B 143 (ndC x (.slice none 0 0) (.slice PA ds.length pc) (.slice QA qs.length qc) (.slice CA x.al.length cc)):=⟨HK11.out.obj bN4.has (by simp)⟩
      clear ho hme hmd hk11
      go_wp2_with fail
      go_ret
      have hkF:Kept [B] w11 (w11.setCell ⟨B,9,none⟩ (.slice MA ms.length mc)):=Kept.setCell _ _ _ (by simp)
      have hs4:=HKR4.out.size
      have hbB:B < w4.drew.heap.size:=by show B < w4.heap.size;omega
      have hO2:Zbf (w11.setCell ⟨B,9,none⟩ (.slice MA ms.length mc)) w4.drew.heap.size (.slice MA ms.length mc) ms:=HO.out.keep hkF (fun q hq hm=>by have:=(HO.out.lt q hq).1;simp at hm;omega)
      refine⟨.mk B x MA mc ms PA pc ds QA qc qs CA (List.replicate x.al.length []) cc,rfl,rfl,⟨?_,HNS.out MA mc ms⟩,HFIN.out _ MA mc ms ((HK11.out.mono (by simp)).trans hkF) (heap_setCell_same _ _ _ _ _ _ bN11.has) (fun w' hk'=>?_) (fun m hm=>?_) (fun m hm=>?_) ?_,?_⟩
      ·exact HME.out
      ·obtain⟨A',c',e,_,_,_,hr⟩:=(hO2.keep hk' (fun q hq hm=>by have:=(hO2.lt q hq).1;have:=HBX.out q hm;omega)).rows
       cases e
       exact hr
      ·exact((HMD.out m hm).less hkF (fun q hq=>Zl.2 (.inr (by simp at hq;simp[hq])))).sub (fun q hq=>Zl.2 (.inr (List.mem_cons_of_mem _ hq)))
      ·have h1:m.er∈M (n+1) x.er:=by rw[←HME.out];exact List.mem_map.2 ⟨m,hm,rfl⟩
       have:=HBD.out m.er h1
       exact this
      ·have h1:=HML.out
       rw[←HME.out,List.length_map]at h1
       exact h1
      ·exact Kept.trans0 (a:=w) (b:=w11) (HK4.out.trans HK11.out) hkF (by omega)
end
end Go.Proofs.YtfaecpkocgcofaaGreatDoor
