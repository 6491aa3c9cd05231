/- Lemmas for ResolveSettles, printed small: N28. -/
import Derived.Test.YtfaecpkocgcofaaGreatDoorZ39
set_option linter.all false
set_option maxRecDepth 100000
set_option maxHeartbeats 8000000
open Go.Proofs.Tryz
namespace Go.Proofs.YtfaecpkocgcofaaGreatDoor
section
open Go.RowKit
def JL (S:ExV→Int→ExV×Int) (t:Tab) (n:Nat) (G:Nat→Int) (x:ExV):ExV×Int:=
 let p:=YR t n x
 let q:=Z5 (fun _ y=>if p.2 then(y,0)else S y p.1) 0 x.ls
 if q.2≠0 then(x.setL none 0 q.1,q.2)
 else
  let r:=Z5 (fun i z=>if z.kind=0 then(z,0)else S z (G i)) 0 (x.al.map (·.2.2.2))
  ((x.setL none 0 q.1).setA none 0 (r.1.map asE),r.2)
@[go_sem] theorem Ztx (x:ExV) (A:Option Addr) (c:Nat) (ls:List ExV):(x.setL A c ls).la=A:=rfl
@[go_sem] theorem Ztw (x:ExV) (A:Option Addr) (c:Nat) (ls:List ExV):(x.setL A c ls).lc=c:=rfl
@[go_sem] theorem Ztv (x:ExV) (A:Option Addr) (c:Nat) (ls:List ExV):(x.setL A c ls).ls=ls:=rfl
@[go_sem] theorem ZtA (x:ExV) (A:Option Addr) (c:Nat) (ls:List ExV):(x.setL A c ls).aa=x.aa:=rfl
@[go_sem] theorem Ztz (x:ExV) (A:Option Addr) (c:Nat) (ls:List ExV):(x.setL A c ls).ac=x.ac:=rfl
@[go_sem] theorem Zty (x:ExV) (A:Option Addr) (c:Nat) (ls:List ExV):(x.setL A c ls).al=x.al:=rfl
@[go_sem] theorem ZtD (x:ExV) (A:Option Addr) (c:Nat) (al:List AsV):(x.setA A c al).aa=A:=rfl
@[go_sem] theorem ZtC (x:ExV) (A:Option Addr) (c:Nat) (al:List AsV):(x.setA A c al).ac=c:=rfl
@[go_sem] theorem ZtB (x:ExV) (A:Option Addr) (c:Nat) (al:List AsV):(x.setA A c al).al=al:=rfl
theorem ExK.z {X Z Z':List Nat} {w w':World} {n:Nat} {x:ExV} (h:ExK (X++Z) w n x) (hk:Kept [] w w') (hz:∀q,q∈Z'→q∈Z∨w.heap.size≤q):ExK (X++Z') w' n x:=h.later hk (fun q hq=>by
 rcases List.mem_append.1 hq with h1 | h1
 ·exact .inl (List.mem_append.2 (.inl h1))
 ·exact(hz q h1).imp (fun h=>List.mem_append.2 (.inr h)) (fun h=>h))
def SZ.sx (X:List Nat) (m:Nat) (r:ExV×Int):SZ:=⟨fun Z v w=>∃z:ExV,v= .tuple #[.agg z.cells.toArray,.int .i64 r.2]∧z.er=r.1∧ExK (X++Z) w m z,fun _ _ _ _ _ ⟨x,h1,h2,h3⟩ hk _ hz=>⟨x,h1,h2,h3.z hk hz⟩⟩
theorem SZ.sx_p (X:List Nat) (m:Nat) (r:ExV×Int) (Z:List Nat) (v:Value) (w:World):(SZ.sx X m r).p Z v w=∃z:ExV,v= .tuple #[.agg z.cells.toArray,.int .i64 r.2]∧z.er=r.1∧ExK (X++Z) w m z:=rfl
def SZ.kx (X:List Nat) (m:Nat) (μ:ExV):SZ:=⟨fun Z v w=>∃z:ExV,v= .agg z.cells.toArray∧z.er=μ∧ExK (X++Z) w m z,fun _ _ _ _ _ ⟨x,h1,h2,h3⟩ hk _ hz=>⟨x,h1,h2,h3.z hk hz⟩⟩
theorem SZ.kx_p (X:List Nat) (m:Nat) (μ:ExV) (Z:List Nat) (v:Value) (w:World):(SZ.kx X m μ).p Z v w=∃z:ExV,v= .agg z.cells.toArray∧z.er=μ∧ExK (X++Z) w m z:=rfl
theorem ExK.setL {X:List Nat} {w:World} {m:Nat} {x:ExV} {A:Option Addr} {ls:List ExV} (c:Nat) (h:ExK X w (m+1) x) (hr:Zf9 X w A ls) (hl:ls.length≤140737488355328) (hd:∀y,y∈ls→ExK X w m y):ExK X w (m+1) (x.setL A c ls):=fun w' hk=>by
 have h1:=h w' hk
 exact⟨hr w' hk,fun y hy=>hd y hy w' hk,h1.2.2.1,h1.2.2.2.1,hl,h1.2.2.2.2.2⟩
theorem ExK.setA {X:List Nat} {w:World} {m:Nat} {x:ExV} {A:Option Addr} {al:List AsV} (c:Nat) (h:ExK X w (m+1) x) (hr:St X w (fun w'=>Zo AsV 10 AsV.cells w' A al)) (hl:al.length≤140737488355328) (hc:∀a,a∈al→a.2.1= []) (hd:∀a,a∈al→ExK X w m a.2.2.2):ExK X w (m+1) (x.setA A c al):=fun w' hk=>by
 have h1:=h w' hk
 refine⟨h1.1,h1.2.1,hr w' hk,fun a ha=>hd a ha w' hk,h1.2.2.2.2.1,hl,h1.2.2.2.2.2.2.1,h1.2.2.2.2.2.2.2.1,fun a ha=>?_⟩
 rw[hc a ha]
 exact⟨.inl rfl,by simp,fun q hq=>by simp at hq⟩
theorem Zml.rowsA {X:List Nat} {w:World} {base:Nat} {v:Value} {l:List AsV} (h:Zml w base v l) (hX:∀q,q∈X→q < base):∃A c,v= .slice A l.length c∧St X w (fun w'=>Zo AsV 10 AsV.cells w' A l):=by
 obtain⟨A,c,rfl,_,_,_,_⟩:=h.rows
 refine⟨A,c,rfl,fun w' hk=>?_⟩
 obtain⟨A',c',e,_,_,_,hr⟩:=(h.keep hk (fun k hk2 hm=>by have:=hX k hm;have:=(h.lt k hk2).1;omega)).rows
 cases e
 exact hr
theorem Zps {l:List AsV} (h:∀a,a∈l→a.2.1= []):l.map AsV.er=(l.map fun a=>a.2.2.2.er).map asE:=by
 rw[List.map_map]
 refine List.map_congr_left fun a ha=>?_
 show((none,a.2.1.map ChV.er,0,a.2.2.2.er):AsV)=(none,[],0,a.2.2.2.er)
 rw[h a ha]
 rfl
theorem ZhR (t:Tab) (n:Nat) (x:ExV):YR t n x.er=YR t n x:=by rw[YR,YR,ExV.er_kind,ExV.er_ent,ExV.er_t,ExV.er_oper,ExV.er_ls,Zqf]
theorem Zk0 (X:List Nat) (w:World) (R mr:Nat) (v:Zp) (t:Tab) (h:WhV) (n m:Nat) (x:ExV) (S:ExV→Int→ExV×Int) (G:Nat→Int) (hR:Qo w R mr v t h) (hmn:m+1≤n) (hx:ExK X w (m+1) x)
 (hX:∀q,q∈X→q < w.heap.size) (hk:x.ls.length < 100) (h8:x.kind≠8) (h9:x.kind≠9) (h10:x.kind≠10) (h13:x.kind≠13) (h14:x.kind≠14) (hal:x.al.length≤5000) (hch:∀a,a∈x.al→a.2.1= [])
 (hG:∀(W:World) (y:ExV) (i:Nat),Kept [] w W→y.kind=x.kind→y.ent=x.ent→i < x.al.length→Calls prog 97 #[.pointer (some ⟨R,0,none⟩),.agg y.cells.toArray,.int .i64 i] W (ZE (.int .i64 (G i)) W))
 (hS:∀(W:World) (Y:List Nat) (y:ExV) (k:Int),Kept [] w W→(∀q,q∈Y→q∈X∨w.heap.size≤q)→(∀q,q∈Y→q < W.heap.size)→(y∈x.ls∨∃a,a∈x.al∧y=a.2.2.2)→ExK Y W m y→Calls prog 46 #[.pointer (some ⟨R,0,none⟩),.agg y.cells.toArray,.int .i64 k] W (ZaU Y m (S y.er k) W)):
 Calls prog 50 #[.pointer (some ⟨R,0,none⟩),.agg x.cells.toArray] w (ZaU X (m+1) (JL S t n G x.er) w):=by
 have HX:=hh hx
 have HXS:=hh hX
 have HG:=hh hG
 have HS:=hh hS
 have HCH:=hh hch
 have hin:=hx.in
 have HE:=hh (fun(W:World) (hk':Kept [] w W)=>ZfN W R mr v t h n x (hR.kept hk') (hin.1.kept hk') (fun y hy=>((hin.2.1 y hy).kept hk').mono (by omega)) hk h8 h10 h13 h14)
 have HCX:=hh (fun(W:World) (hk':Kept [] w W)=>Zje W x.la x.lc x.ls (hin.1.kept hk') (by omega))
 have HCA:=hh (fun(W:World) (hk':Kept [] w W)=>Zjf W x.aa x.ac x.al (hin.2.2.1.kept hk') (by omega))
 clear hR hx hX hG hS hch hin h8 h10 h13 h14
 go_enter func50,ntmps50
 go_wp2_with fail
 refine(HE.out _ kp).mono ?_
 rintro e w1 ⟨N,rfl,hN,hrow,hk1⟩
 haveI p_w1:Zb w1 _:=⟨hk1⟩
 have HROW:=hh hrow
 have hN1:w.heap.size+1 < N:=by have h:=hN;simp at h;omega
 have hs1:w.heap.size+1 < w1.heap.size:=by have h:=hk1.size;simp at h;omega
 have hNl:N < w1.heap.size:=(Array.getElem?_eq_some_iff.1 hrow).1
 clear hrow hk1
 go_wp2_with fail
 refine(HCX.out _ kp).mono ?_
 rintro e w2 ⟨v2,rfl,ho2,hk2⟩
 haveI p_w2:Zb w2 _:=⟨hk2⟩
 have HROW2:=hh (hk2.obj HROW.out (by simp))
 obtain⟨A,c,rfl,_,_,hAc,hra⟩:=ho2.rows
 have HO2:=hh ho2
 clear ho2 hk2 hra
 go_wp2_with fail
 generalize hpt:YR t n x=pt at*
 have HL0:Hid (∀y,y∈x.ls→ExK X w m y):=fun y hy w' hk=>(HX.out w' hk).2.1 y hy
 have hAl:∀k,k < x.ls.length→∃g o,A=some ⟨g,o,none⟩:=fun k hlt=>by
  rcases HO2.out.2 with⟨h1,h2⟩ | ⟨g,cap,cur,h1,_⟩
  ·omega
  ·cases h1;exact⟨_,_,rfl⟩
 obtain⟨XB,hXB1,hXB2,hXB3⟩:∃XB:List Nat,(∀q,q∈XB→q∈X∨w.heap.size≤q)∧(∀q,q∈XB→q < w.heap.size+2)∧(∀q,q∈w.heap.size::(w.heap.size+1)::X→q∈XB):=
  ⟨w.heap.size::(w.heap.size+1)::X,fun q hq=>by simp at hq;rcases hq with h | h | h;exact .inr (by omega);exact .inr (by omega);exact .inl h,fun q hq=>by simp at hq;rcases hq with h | h | h;omega;omega;have:=HXS.out q h;omega,fun q hq=>hq⟩
 generalize hF:(fun(_:Nat) (y:ExV)=>if pt.2 then(y,(0:Int))else S y pt.1)=F at*
 have HF:Hid (∀i y,F i y=if pt.2 then(y,(0:Int))else S y pt.1):=fun i y=>by rw[←hF]
 have HINS:Hid (∀a e,Z5 F 0 (x.ls.map ExV.er)=(a,e)→e≠0→JL S t n G x.er=(x.er.setL none 0 a,e)):=fun a e h1 h2=>by
  unfold JL
  simp only[ZhR,ExV.er_ls,hpt,hF,h1]
  rw[if_pos h2]
 go_loopw [25] (fun s25 wr=>∃(k:Nat) (zs:List ExV),s25= .int .i64 k∧k≤x.ls.length∧zs.length=x.ls.length∧Jy wr w1.heap.size (.slice A x.ls.length c) zs∧zs.drop k=x.ls.drop k∧
  Z5 F 0 ((x.ls.map ExV.er).take k)=((zs.take k).map ExV.er,0)∧(∀z,z∈zs→ExK (Qd (.slice A x.ls.length c) XB) wr m z)∧
  wr.heap[w.heap.size]? =some (.cells (x.setL A c x.ls).cells.toArray 41 (0,0))∧wr.heap[w.heap.size+1]? =some (.cells Zg.cells.toArray 41 (0,0))∧
  wr.heap[N]? =some (.cells (rpP x.ls.length (ZgQ pt)).toArray 171 (0,0))∧Kept [] w wr) (fun s25 _=>x.ls.length - (intOf s25).toNat)
 case atStart=>
  have hk3:Kept [w.heap.size] w2 (w2.setCell ⟨w.heap.size,4,none⟩ (.slice A x.ls.length c)):=Kept.setCell _ _ _ (by simp)
  have hk03:Kept [] w (w2.setCell ⟨w.heap.size,4,none⟩ (.slice A x.ls.length c)):=kp
  refine⟨0,x.ls,rfl,Nat.zero_le _,rfl,HO2.out.keep hk3 (fun q hq=>?_),rfl,rfl,fun z hz=>?_,Zc.has,Zc.has,hk3.obj HROW2.out (by simp;omega),hk03⟩
  ·have:=(HO2.out.lt q hq).1
   simp
   omega
  ·refine(HL0.out z hz).later hk03 (fun q hq=>?_)
   rcases Zl.1 hq with h1 | h1
   ·have:=(HO2.out.lt q h1).1
    exact .inr (by omega)
   ·exact hXB1 q h1
 case round=>
  obtain⟨k,zs,rfl,hkl,hzl,ho,hd,hp,hz,hbx,hbr,hrw,hkr⟩:=hrel
  have HO:=hh ho
  have HD:=hh hd
  have HP:=hh hp
  have HZK:=hh hz
  have HRW:=hh hrw
  haveI bX:Zc wr w.heap.size 41 (x.setL A c x.ls).cells.toArray:=⟨hbx⟩
  haveI bR2:Zc wr (w.heap.size+1) 41 Zg.cells.toArray:=⟨hbr⟩
  have HKR:=hh hkr
  clear ho hd hp hz hrw hbx hbr hkr
  by_cases hlt:k < x.ls.length
  ·obtain⟨y,hy⟩:∃y,zs[k]? =some y:=⟨_,List.getElem?_eq_getElem (by omega)⟩
   have hyl:x.ls[k]? =some y:=by
    have h1:(zs.drop k)[0]? =some y:=by rw[List.getElem?_drop];exact hy
    rw[HD.out,List.getElem?_drop]at h1
    exact h1
   obtain⟨g,hrows,rfl⟩:∃g,Zo ExV 9 ExV.cells wr (some ⟨g,0,none⟩) zs∧A=some ⟨g,0,none⟩:=by
    obtain⟨A',c',e,_,_,_,hr⟩:=HO.out.rows
    rcases HO.out.2 with⟨h1,h2⟩ | ⟨g,cap,cur,h1,_⟩
    ·omega
    ·injection h1 with e1 _ _
     injection e with e2 _ _
     subst e1
     subst e2
     exact⟨g,hr,rfl⟩
   have hgl:=HO.out.lt g rfl
   haveI iy:Q1 wr g (k*9) y:=by
    rcases hrows with h0 | ⟨b,o,h1,hc⟩
    ·rw[h0]at hzl;simp at hzl;omega
    ·cases h1
     have h2:=hc k y hy
     rw[Nat.zero_add]at h2
     exact⟨h2⟩
   clear hrows
   have HY:=hh hy
   have HYL:=hh hyl
   have hlt':(k:Int) < (x.ls.length:Int):=by omega
   haveI bp:Zc wr N 171 (rpP x.ls.length (ZgQ pt)).toArray:=⟨HRW.out⟩
   have hcb:∀ob,(wr.alloc ob).cell? ⟨N,k*2+1,none⟩=some (.bool pt.2):=fun ob=>by
    refine(Kept.alloc [] wr ob).cell ?_ (by simp)
    rw[cell_of_row _ _ _ _ _ _ HRW.out,List.getElem?_toArray]
    exact ZaM (m:=2) (List.replicate x.ls.length (ZgQ pt)) (fun r hr=>by rw[List.eq_of_mem_replicate hr];rfl) k (ZgQ pt) (by rw[List.getElem?_replicate,if_pos hlt]) 1 _ rfl
   have hct:∀ob,(wr.alloc ob).cell? ⟨N,k*2,none⟩=some (.int .i64 pt.1):=fun ob=>by
    refine(Kept.alloc [] wr ob).cell ?_ (by simp)
    rw[cell_of_row _ _ _ _ _ _ HRW.out,List.getElem?_toArray]
    exact ZaM (m:=2) (List.replicate x.ls.length (ZgQ pt)) (fun r hr=>by rw[List.eq_of_mem_replicate hr];rfl) k (ZgQ pt) (by rw[List.getElem?_replicate,if_pos hlt]) 0 _ rfl
   clear hy hyl hAl HL0
   cases hb:pt.2 with
   | true=>
    rw[hb]at hcb
    go_wp2_with fail
    have hfk:F k y.er=(y.er,0):=by rw[HF.out,hb];rfl
    have hpn:=Jm HP.out (show(x.ls.map ExV.er)[k]? =some y.er by rw[List.getElem?_map,HYL.out];rfl) (by rw[hfk])
    go_roundw
    case rel=>
     refine⟨k+1,zs,by go_num,by omega,hzl,HO.out.keep (Kept.alloc [] _ _) (fun _ _=>by simp),?_,?_,fun z hz=>(HZK.out z hz).kept (Kept.alloc _ _ _),Zc.has,Zc.has,(Kept.alloc [] _ _).obj HRW.out (by simp),HKR.out.trans (Kept.alloc _ _ _)⟩
     ·rw[←List.drop_drop,HD.out,List.drop_drop]
     ·rw[hpn,hfk,List.take_succ_eq_append_getElem (by omega),List.map_append]
      have e:zs[k]'(by omega)=y:=by have:=HY.out;rw[List.getElem?_eq_getElem (by omega)]at this;exact Option.some.inj this
      rw[e]
      rfl
    case measure=>simp[intOf];omega
   | false=>
    rw[hb]at hcb
    have hfk:F k y.er=S y.er pt.1:=by rw[HF.out,hb];rfl
    have HHK:=hh (HZK.out y (List.mem_of_getElem? HY.out))
    go_wp2_with fail
    refine ZH [(0,36,(.pointer (some ⟨R,0,none⟩))),(2,38,(.slice (some ⟨N,0,none⟩) x.ls.length x.ls.length)),(3,39,(.int .i64 k))] [(1,⟨37,[],false,.eq (.agg y.cells.toArray)⟩),(4,⟨40,[],false,.eq (.pointer (some ⟨N,k*2,none⟩))⟩),(5,⟨41,[40],false,.eq (.pointer (some ⟨N,k*2,none⟩))⟩),(6,⟨42,[41],false,.eq (.int .i64 pt.1)⟩),(7,⟨43,[37,42],false,.sx (g::XB) m (S y.er pt.1)⟩),(8,⟨35,[43],false,.sx (g::XB) m (S y.er pt.1)⟩),(9,⟨44,[35],false,.kx (g::XB) m (S y.er pt.1).1⟩),(11,⟨9,[],true,.new Zg.cells.toArray 41⟩)] 10 ⟨45,[35],false,.eq (.int .i64 (S y.er pt.1).2)⟩ 12 [13] (by kernel_rfl) (by kernel_rfl) ⟨rfl,by kernel_rfl⟩ (by kernel_rfl) (fun _ _ _ _ _ h=>h) (by repeat(first | exact trivial | refine And.intro rfl ?_)) (H:=[(1,⟨37,[],false,.eq (.agg y.cells.toArray)⟩),(4,⟨40,[],false,.eq (.pointer (some ⟨N,k*2,none⟩))⟩),(5,⟨41,[40],false,.eq (.pointer (some ⟨N,k*2,none⟩))⟩),(6,⟨42,[41],false,.eq (.int .i64 pt.1)⟩),(7,⟨43,[37,42],false,.sx (g::XB) m (S y.er pt.1)⟩),(8,⟨35,[43],false,.sx (g::XB) m (S y.er pt.1)⟩),(9,⟨44,[35],false,.kx (g::XB) m (S y.er pt.1).1⟩),(11,⟨9,[],true,.new Zg.cells.toArray 41⟩),(10,⟨45,[35],false,.eq (.int .i64 (S y.er pt.1).2)⟩)]) rfl ?_
    apply Exists.intro
    refine⟨fun vs=>?_,?_⟩
    ·simp only[List.map_cons,List.map_nil,Q5,Jj,Act.put,List.setIfInBounds_toArray,List.set_cons_zero,List.set_cons_succ]
     exact rfl
    refine⟨⟨?_,?_,?_,?_,?_,?_,?_,?_,?_,trivial⟩,?_,?_⟩<;>intro vs Z w4 hk hZ hg
    all_goals
     simp only[ZW,List.flatMap_cons,List.flatMap_nil,List.getElem?_cons_zero,List.getElem?_cons_succ,Option.toList_some,List.cons_append,List.nil_append]
     haveI p_w4:Zb w4 _:=⟨hk⟩
     have hz_w4:=hk.size
     have HZ:=hh hZ
     clear hk hZ
     (try simp only[List.map_cons,List.map_nil,ZG,Zi,Z8,SZ.eq_p,SZ.ex_p,SZ.wx_p,SZ.new_p,SZ.kx_p,SZ.sx_p,Nat.reduceEqDiff,reduceIte,and_true]at hg)
    ·clear hg
     go_wp2_with fail
     exact⟨kp,rfl,Z,.inl ⟨rfl,rfl⟩,rfl⟩
    ·clear hg
     go_wp2_with fail
     exact⟨kp,rfl,Z,.inl ⟨rfl,rfl⟩,rfl⟩
    ·obtain e40:=hg
     (try simp only[e40])
     go_wp2_with fail
     exact⟨kp,rfl,Z,.inl ⟨rfl,rfl⟩,rfl⟩
    ·obtain e41:=hg
     (try simp only[e41])
     have hc4:w4.cell? ⟨N,k*2,none⟩=some (.int .i64 pt.1):=(show Kept [] (wr.alloc (.cells y.cells.toArray 41)) w4 from kp).cell (hct _) (by simp)
     go_wp2_with fail
     exact⟨kp,rfl,Z,.inl ⟨rfl,rfl⟩,rfl⟩
    ·obtain⟨e37,e42⟩:=hg
     (try simp only[e37,e42])
     have hk4:Kept [] wr w4:=(Kept.alloc [] wr _).trans (show Kept [] (wr.alloc (.cells y.cells.toArray 41)) w4 from kp)
     have hrs:=HKR.out.size
     have hks:=hk4.size
     have hZ2:∀q,q∈Z→wr.heap.size≤q∧q < w4.heap.size:=fun q hq=>by have h:=HZ.out q hq;simp at h;omega
     go_wp2_with fail
     refine(HS.out w4 ((g::XB)++Z) y pt.1 (HKR.out.trans hk4) (fun q hq=>?_) (fun q hq=>?_) (.inl (List.mem_of_getElem? HYL.out)) (HHK.out.later hk4 (fun q hq=>?_))).mono ?_
     ·rcases List.mem_append.1 hq with h1 | h1
      ·rcases List.mem_cons.1 h1 with rfl | h2
       ·exact .inr (by omega)
       ·exact hXB1 q h2
      ·exact .inr (by have:=hZ2 q h1;omega)
     ·rcases List.mem_append.1 hq with h1 | h1
      ·rcases List.mem_cons.1 h1 with rfl | h2
       ·omega
       ·have:=hXB2 q h2;have:=(Array.getElem?_eq_some_iff.1 bR2.has).1;omega
      ·exact(hZ2 q h1).2
     ·rcases List.mem_append.1 hq with h1 | h1
      ·exact .inl h1
      ·exact .inr (hZ2 q h1).1
     rintro e w8 ⟨z,rfl,hz1,hz2,hk8⟩
     go_wp2_with fail
     exact⟨hk8,rfl,Z,.inl ⟨rfl,rfl⟩,z,rfl,hz1,hz2⟩
    ·obtain⟨z43,e43,f43,i43⟩:=hg
     simp only[e43]
     go_wp2_with fail
     exact⟨kp,rfl,Z,.inl ⟨rfl,rfl⟩,z43,rfl,f43,i43⟩
    ·obtain⟨z35,e35,f35,i35⟩:=hg
     simp only[e35]
     go_wp2_with fail
     exact⟨kp,rfl,Z,.inl ⟨rfl,rfl⟩,z35,rfl,f35,i35⟩
    ·clear hg
     go_wp2_with fail
     exact⟨kp,rfl,_::Z,.inr ⟨rfl,_,rfl,rfl,Nat.le_refl _,by simp⟩,_,rfl,List.mem_cons_self,Zf rfl⟩
    ·obtain⟨z35,e35,f35,i35⟩:=hg
     simp only[e35]
     go_wp2_with fail
     exact⟨kp,rfl,Z,.inl ⟨rfl,rfl⟩,rfl⟩
    obtain⟨e37,e40,e41,e42,⟨z43,e43,f43,i43⟩,⟨z35,e35,f35,i35⟩,⟨z44,e44,f44,i44⟩,⟨B9,e9,b9,h9'⟩,e45⟩:=hg
    simp only[e45]
    clear e45
    rotate_left
    obtain⟨e37,e40,e41,e42,⟨z43,e43,f43,i43⟩,⟨z35,e35,f35,i35⟩,⟨z44,e44,f44,i44⟩,⟨B9,e9,b9,h9'⟩⟩:=hg
    all_goals
     simp only[e37,e40,e41,e42,e43,e35,e44,e9]
     clear e37 e40 e41 e42 e43 f43 i43 f35 i35 e44 e9
     haveI bB9:Zc w4 B9 41 Zg.cells.toArray:=⟨h9'⟩
     have hk4:Kept [] wr w4:=(Kept.alloc [] wr _).trans (show Kept [] (wr.alloc (.cells y.cells.toArray 41)) w4 from kp)
     have hBz:=HZ.out B9 b9
     have hks:=hk4.size
     have hrs:=HKR.out.size
     have hBw:wr.heap.size < B9:=by have h:=hBz;simp at h;omega
     have hNw:N < wr.heap.size:=(Array.getElem?_eq_some_iff.1 HRW.out).1
     have hbw:w.heap.size+1 < wr.heap.size:=(Array.getElem?_eq_some_iff.1 bR2.has).1
     haveI ap1:Qf B9 w.heap.size:=⟨by omega⟩
     haveI ap2:Qf B9 (w.heap.size+1):=⟨by omega⟩
     have HO4:=hh ((HO.out.keep hk4 (fun _ _=>by simp)).keep (Kept.setRow (X:=[B9]) w4 B9 z44.cells.toArray (by simp)) (fun q hq=>by simp[Value.ownBlock]at hq;simp;omega))
     by_cases he:(S y.er pt.1).2=0
     ·have he':((S y.er pt.1).2 != 0)=false:=by simp[he]
      go_wp2_with (refine Zbv rfl (.tmp 54) (.tmp 53) rfl w1.heap.size _ zs HO4.out k (by omega) g rfl z44 rfl rfl ?_;intro w5 ho5 hg5;have HO5:=hh ho5;have HG5:=hh hg5;clear ho5 hg5)
      have HK45:Hid (Kept [B9,g] w4 w5):=(Kept.setRow (X:=[B9,g]) w4 B9 _ (by simp)).trans (Kept.of_grown (X:=[B9,g]) HG5.out (fun k hk _=>by cases hk;simp))
      have hpn:=Jm HP.out (show(x.ls.map ExV.er)[k]? =some y.er by rw[List.getElem?_map,HYL.out];rfl) (by rw[hfk];exact he)
      have hzk2:k < zs.length:=by omega
      go_roundw
      case rel=>
       refine⟨k+1,zs.set k z44,by go_num,by omega,by rw[List.length_set];exact hzl,HO5.out,?_,?_,fun z hz=>?_,HK45.out.obj (hk4.obj bX.has (by simp)) (by simp;omega),HK45.out.obj (hk4.obj bR2.has (by simp)) (by simp;omega),HK45.out.obj (hk4.obj HRW.out (by simp)) (by simp;omega),(((HKR.out.trans hk4).mono (Y:=[B9,g]) (by simp)).trans HK45.out).mono' (fun r hr hlr=>by simp at hr;omega)⟩
       ·rw[List.drop_set_of_lt (by omega),←List.drop_drop,HD.out,List.drop_drop]
       ·rw[hpn,hfk,List.take_succ_eq_append_getElem (by rw[List.length_set];omega),List.map_append,List.take_set_of_le (Nat.le_refl _),List.getElem_set_self,List.map_cons,List.map_nil,f44]
       ·rcases List.mem_or_eq_of_mem_set hz with h1 | rfl
        ·exact(((HZK.out z h1).later (Y:=B9::g::XB) hk4 (fun q hq=>by
          rcases List.mem_cons.1 hq with rfl | h2
          ·exact .inr (by omega)
          ·exact .inl h2)).less HK45.out (fun q hq=>by simp at hq⊢;rcases hq with h | h <;> simp[h])).sub (fun q hq=>List.mem_cons_of_mem _ hq)
        ·exact(i44.less HK45.out (fun q hq=>by
          simp at hq
          rcases hq with rfl | rfl
          ·exact List.mem_append.2 (.inr b9)
          ·exact List.mem_append.2 (.inl (by simp)))).sub (fun q hq=>List.mem_append.2 (.inl hq))
      case measure=>simp[intOf];omega
     ·have he':((S y.er pt.1).2 != 0)=true:=by simp[he]
      have hst:=Zcc HP.out (show(x.ls.map ExV.er)[k]? =some y.er by rw[List.getElem?_map,HYL.out];rfl) (by rw[hfk];exact he)
      rw[hfk]at hst
      have HIN2:=hh (HINS.out _ _ hst he)
      have hle:(zs.take k).map ExV.er++(x.ls.map ExV.er).drop k=zs.map ExV.er:=by
       rw[←List.map_drop,←HD.out,←List.map_append,List.take_append_drop]
      rw[hle]at HIN2
      have hce:(x.setL (some ⟨g,0,none⟩) c x.ls).cells=(x.setL (some ⟨g,0,none⟩) c zs).cells:=by simp[ExV.cells,ExV.setL,ExV.kind,ExV.oper,ExV.n,ExV.s,ExV.la,ExV.lc,ExV.ls,ExV.aa,ExV.ac,ExV.al,ExV.line,ExV.ent,ExV.t,hzl]
      go_wp2_with fail
      have hKF:∀cs1 cs2,Kept [B9,w.heap.size+1] w4 ((w4.setRow B9 cs1).setRow (w.heap.size+1) cs2):=fun cs1 cs2=>(Kept.setRow (X:=[B9,w.heap.size+1]) w4 B9 cs1 (by simp)).trans (Kept.setRow (X:=[B9,w.heap.size+1]) _ _ cs2 (by simp))
      have hxw:∀cs1 cs2,ExK X ((w4.setRow B9 cs1).setRow (w.heap.size+1) cs2) (m+1) (x.setL (some ⟨g,0,none⟩) c zs):=fun cs1 cs2=>by
       refine ExK.setL c ?_ ?_ (by omega) (fun z hz=>?_)
       ·exact((HX.out.later (Y:=B9::(w.heap.size+1)::X) (HKR.out.trans hk4) (fun q hq=>by
         simp at hq
         rcases hq with h | h | h
         ·exact .inr (by omega)
         ·exact .inr (by omega)
         ·exact .inl h)).less (hKF cs1 cs2) (fun q hq=>by simp at hq⊢;rcases hq with h | h <;> simp[h])).sub (fun q hq=>by simp[hq])
       ·have ho5:=(HO.out.keep hk4 (fun _ _=>by simp)).keep (hKF cs1 cs2) (fun q hq=>by simp[Value.ownBlock]at hq;simp;omega)
        obtain⟨A',c',e,hrx⟩:=ho5.rowsX (X:=X) (fun q hq=>by have:=HXS.out q hq;omega)
        injection e with e1 _ _
        rw[←e1]at hrx
        exact hrx
       ·exact(((HZK.out z hz).later (Y:=B9::g::XB) hk4 (fun q hq=>by
         rcases List.mem_cons.1 hq with rfl | h2
         ·exact .inr (by omega)
         ·exact .inl h2)).less (hKF cs1 cs2) (fun q hq=>by
          simp at hq
          rcases hq with rfl | rfl
          ·simp
          ·have:=hXB3 (w.heap.size+1) (by simp);simp[this])).sub (fun q hq=>by have:=hXB3 q (by simp[hq]);simp[this])
      refine bodyPost_ret (v:= .tuple #[.agg (x.setL (some ⟨g,0,none⟩) c zs).cells.toArray,.int .i64 (S y.er pt.1).2]) (Qm results50 (Z0 rfl inferInstance) (Zh rfl)) rfl ⟨x.setL (some ⟨g,0,none⟩) c zs,by rw[HIN2.out],by rw[HIN2.out,ExV.er_setL],hxw _ _,?_⟩
      exact((HKR.out.trans hk4).mono (by simp)).trans (hKF _ _) |>.mono' (fun r hr hlr=>by simp at hr;omega)
  ·obtain rfl:k=x.ls.length:=by omega
   have hdone:Z5 F 0 (x.ls.map ExV.er)=(zs.map ExV.er,0):=by
    have h:=HP.out
    rwa [List.take_of_length_le (by rw[List.length_map];omega),List.take_of_length_le (by omega)]at h
   have HDONE:=hh hdone
   go_wp2_with fail
   refine(HCA.out _ HKR.out).mono ?_
   rintro e w6 ⟨v6,rfl,ho6,hk6⟩
   haveI p_w6:Zb w6 wr:=⟨hk6⟩
   have HO6:Hid (Zml w6 wr.heap.size v6 x.al):=ho6
   obtain⟨A6,c6,rfl,_,_,hA6,_⟩:=HO6.out.rows
   have HK6:=hh (HKR.out.trans hk6)
   have HOX6:=hh (HO.out.keep hk6 (fun _ _=>by simp))
   have HZK6:Hid (∀z,z∈zs→ExK (Qd (.slice A6 x.al.length c6) (Qd (.slice A x.ls.length c) XB)) w6 m z):=fun z hz=>(HZK.out z hz).later hk6 (fun q hq=>by
    rcases Zl.1 hq with h1 | h1
    ·exact .inr (HO6.out.lt q h1).1
    ·exact .inl h1)
   clear ho6 hk6 hdone
   go_wp2_with fail
   generalize hF2:(fun(i:Nat) (z:ExV)=>if z.kind=0 then(z,(0:Int))else S z (G i))=F2 at*
   have HF2:Hid (∀i z,F2 i z=if z.kind=0 then(z,(0:Int))else S z (G i)):=fun i z=>by rw[←hF2]
   have HIN3:Hid (∀a e,Z5 F2 0 (x.al.map fun a=>a.2.2.2.er)=(a,e)→JL S t n G x.er=((x.er.setL none 0 (zs.map ExV.er)).setA none 0 (a.map asE),e)):=fun a e h1=>by
    unfold JL
    have e2:x.er.al.map (fun b:AsV=>b.2.2.2)=x.al.map fun a=>a.2.2.2.er:=by
     rw[ExV.er_al,List.map_map];rfl
    simp only[ZhR,ExV.er_ls,hpt,hF,HDONE.out,hF2,e2,h1]
    rw[if_neg (by simp)]
   have hbw5:w.heap.size+1 < wr.heap.size:=(Array.getElem?_eq_some_iff.1 bR2.has).1
   obtain⟨YB,hY1,hY2,hY3,HZY⟩:∃YB:List Nat,(∀q,q∈YB→q∈X∨w.heap.size≤q)∧(∀q,q∈YB→q < wr.heap.size)∧(∀q,q∈w.heap.size::(w.heap.size+1)::X→q∈YB)∧Hid (∀z,z∈zs→ExK (Qd (.slice A6 x.al.length c6) YB) w6 m z):=
    ⟨Qd (.slice A x.ls.length c) XB,fun q hq=>(Zl.1 hq).elim (fun h=> .inr (by have:=(HO.out.lt q h).1;omega)) (hXB1 q),fun q hq=>(Zl.1 hq).elim (fun h=>(HO.out.lt q h).2) (fun h=>by have:=hXB2 q h;omega),fun q hq=>Zl.2 (.inr (hXB3 q hq)),HZK6.out⟩
   have HGA:Hid (∀q,(Value.slice A x.ls.length c).ownBlock=some q→q < wr.heap.size):=fun q h=>(HO.out.lt q h).2
   clear HZK6 HO HD HP HZK HRW
   obtain⟨w5,rfl⟩:∃w5:World,w5=wr:=⟨_,rfl⟩
   go_loopw [63] (fun s63 wq=>∃(k:Nat) (bs:List AsV),s63= .int .i64 k∧k≤x.al.length∧bs.length=x.al.length∧Zml wq w5.heap.size (.slice A6 x.al.length c6) bs∧bs.drop k=x.al.drop k∧(∀a,a∈bs→a.2.1= [])∧
    Z5 F2 0 ((x.al.map fun a=>a.2.2.2.er).take k)=((bs.take k).map (fun a=>a.2.2.2.er),0)∧(∀a,a∈bs→ExK (Qd (.slice A6 x.al.length c6) YB) wq m a.2.2.2)∧
    wq.heap[w.heap.size]? =some (.cells ((x.setL A c x.ls).setA A6 c6 x.al).cells.toArray 41 (0,0))∧wq.heap[w.heap.size+1]? =some (.cells Zg.cells.toArray 41 (0,0))∧
    Jy wq w1.heap.size (.slice A x.ls.length c) zs∧(∀z,z∈zs→ExK (Qd (.slice A6 x.al.length c6) YB) wq m z)∧Kept [] w wq) (fun s63 _=>x.al.length - (intOf s63).toNat)
   case atStart=>
    have hk7:Kept [w.heap.size] w6 (w6.setCell ⟨w.heap.size,5,none⟩ (.slice A6 x.al.length c6)):=Kept.setCell _ _ _ (by simp)
    have hk07:Kept [] w (w6.setCell ⟨w.heap.size,5,none⟩ (.slice A6 x.al.length c6)):=((HK6.out.mono (by simp)).trans hk7).mono' (fun r hr hlr=>by simp at hr;omega)
    refine⟨0,x.al,rfl,Nat.zero_le _,rfl,HO6.out.keep hk7 (fun q hq=>?_),rfl,HCH.out,rfl,fun a ha=>?_,Zc.has,Zc.has,HOX6.out.keep hk7 (fun q hq=>?_),fun z hz=>?_,hk07⟩
    ·have:=(HO6.out.lt q hq).1
     simp
     omega
    ·refine ExK.later (X:=X) (w:=w) (fun w' hk=>(HX.out w' hk).2.2.2.1 a ha) hk07 (fun q hq=>?_)
     rcases Zl.1 hq with h1 | h1
     ·have:=(HO6.out.lt q h1).1
      exact .inr (by omega)
     ·exact hY1 q h1
    ·have:=(HOX6.out.lt q hq).1
     simp
     omega
    ·exact(HZY.out z hz).less hk7 (fun q hq=>by
      obtain rfl:q=w.heap.size:=by simpa using hq
      exact Zl.2 (.inr (hY3 _ (by simp))))
   case round=>
    obtain⟨k,bs,rfl,hkl2,hbl,hoa,hda,hca,hpa,hza,hbx,hbr,hox,hzx,hkr⟩:=hrel
    have HOA:=hh hoa
    have HDA:=hh hda
    have HCB:=hh hca
    have HPA:=hh hpa
    have HZA:=hh hza
    have HOXR:=hh hox
    have HZXR:=hh hzx
    clear bX bR2 HKR
    haveI bX:Zc wr w.heap.size 41 ((x.setL A c x.ls).setA A6 c6 x.al).cells.toArray:=⟨hbx⟩
    haveI bR2:Zc wr (w.heap.size+1) 41 Zg.cells.toArray:=⟨hbr⟩
    have HKR:=hh hkr
    clear hoa hda hca hpa hza hbx hbr hox hzx hkr
    by_cases hlt:k < x.al.length
    ·obtain⟨a,ha⟩:∃a,bs[k]? =some a:=⟨_,List.getElem?_eq_getElem (by omega)⟩
     have hal2:x.al[k]? =some a:=by
      have h1:(bs.drop k)[0]? =some a:=by rw[List.getElem?_drop];exact ha
      rw[HDA.out,List.getElem?_drop]at h1
      exact h1
     obtain⟨g6,hrows,rfl⟩:∃g6,Zo AsV 10 AsV.cells wr (some ⟨g6,0,none⟩) bs∧A6=some ⟨g6,0,none⟩:=by
      obtain⟨A',c',e,_,_,_,hr⟩:=HOA.out.rows
      rcases HOA.out.2 with⟨h1,h2⟩ | ⟨g,cap,cur,h1,_⟩
      ·omega
      ·injection h1 with e1 _ _
       injection e with e2 _ _
       subst e1
       subst e2
       exact⟨g,hr,rfl⟩
     have hg6:=HOA.out.lt g6 rfl
     haveI ia:QH wr g6 (k*10) a:=by
      rcases hrows with h0 | ⟨b,o,h1,hc⟩
      ·rw[h0]at hbl;simp at hbl;omega
      ·cases h1
       have h2:=hc k a ha
       rw[Nat.zero_add]at h2
       exact⟨h2⟩
     clear hrows
     have HAB:=hh ha
     have HAL:=hh hal2
     have hch0:a.2.1= []:=HCB.out a (List.mem_of_getElem? ha)
     clear ha hal2
     obtain⟨c1,c2,c3,y⟩:=a
     obtain rfl:c2= []:=hch0
     have hlt':(k:Int) < (x.al.length:Int):=by omega
     have HXY:Hid ((x.al.map fun a=>a.2.2.2.er)[k]? =some y.er):=by rw[Hid,List.getElem?_map,HAL.out];rfl
     go_upto_region 16 with fail
     refine Zm ?_
     intro w3 hw3
     haveI p_w3:Zb w3 wr:=⟨by rw[hw3];exact kp⟩
     have hb12:w3.heap[wr.heap.size]? =some (.cells (AsV.cells (c1,[],c3,y)).toArray 63 (0,0)):=by rw[hw3];exact Zc.has
     have hz3:w3.heap.size=wr.heap.size+1:=by rw[hw3];simp
     clear hw3
     obtain⟨D,hD⟩:∃D,D=wr.heap.size:=⟨_,rfl⟩
     rw[←hD]at hb12 hz3⊢
     have HDD:=hh hD
     clear hD
     haveI i12:Q1 w3 D 1 y:=⟨fun j u hu=>by
      rw[cell_of_row _ _ _ _ _ _ hb12,List.getElem?_toArray]
      rw[show 1+j=j+1 by omega]
      exact hu⟩
     have hc12:w3.cell? ⟨D,0,none⟩=some (.slice c1 0 c3):=(cell_of_row _ _ _ _ _ _ hb12).trans rfl
     have hk12:w3.cell? ⟨D,1,none⟩=some (.int .u8 y.kind):=(cell_of_row _ _ _ _ _ _ hb12).trans rfl
     have HB12:=hh hb12
     clear hb12
     clear ia
     have HYZ:=hh (HZA.out _ (List.mem_of_getElem? HAB.out))
     have hpo:∀a∈bs,a.2.1= []:=HCB.out
     by_cases hk0:y.kind=0
     ·have h0':(y.kind == 0)=true:=by simp[hk0]
      have hfk:F2 k y.er=(y.er,0):=by rw[HF2.out,if_pos (by rw[ExV.er_kind];exact hk0)]
      have hpn:=Jm HPA.out HXY.out (by rw[hfk])
      clear hpo
      go_wp2_with fail
      go_roundw
      case rel=>
       refine⟨k+1,bs,by go_num,by omega,hbl,HOA.out.keep (X:=[]) kp (fun _ _=>by simp),?_,HCB.out,?_,fun a ha=>(HZA.out a ha).kept kp,Zc.has,Zc.has,HOXR.out.keep (X:=[]) kp (fun _ _=>by simp),fun z hz=>(HZXR.out z hz).kept kp,HKR.out.trans kp⟩
       ·rw[←List.drop_drop,HDA.out,List.drop_drop]
       ·rw[hpn,hfk,List.take_succ_eq_append_getElem (by omega),List.map_append]
        have e:bs[k]'(by omega)=(c1,[],c3,y):=by have:=HAB.out;rw[List.getElem?_eq_getElem (by omega)]at this;exact Option.some.inj this
        rw[e]
        rfl
      case measure=>simp[intOf];omega
     ·have h0':(y.kind == 0)=false:=by simp[hk0]
      have hfk:F2 k y.er=S y.er (G k):=by rw[HF2.out,if_neg (by rw[ExV.er_kind];exact hk0)]
      go_wp2_with fail
      refine ZH [(0,82,(.pointer (some ⟨R,0,none⟩))),(3,85,(.pointer (some ⟨R,0,none⟩))),(5,87,(.int .i64 k))] [(1,⟨83,[],false,.eq (.pointer (some ⟨D,1,none⟩))⟩),(2,⟨84,[83],false,.eq (.agg y.cells.toArray)⟩),(4,⟨86,[],false,.eq (.agg ((x.setL A c x.ls).setA (some ⟨g6,0,none⟩) c6 x.al).cells.toArray)⟩),(6,⟨88,[86],false,.eq (.int .i64 (G k))⟩),(7,⟨89,[84,88],false,.sx (g6::YB) m (S y.er (G k))⟩),(8,⟨81,[89],false,.sx (g6::YB) m (S y.er (G k))⟩),(9,⟨90,[81],false,.kx (g6::YB) m (S y.er (G k)).1⟩),(11,⟨13,[],true,.new Zg.cells.toArray 41⟩)] 10 ⟨91,[81],false,.eq (.int .i64 (S y.er (G k)).2)⟩ 12 [13] (by kernel_rfl) (by kernel_rfl) ⟨rfl,by kernel_rfl⟩ (by kernel_rfl) (fun _ _ _ _ _ h=>h) (by repeat(first | exact trivial | refine And.intro rfl ?_)) (H:=[(1,⟨83,[],false,.eq (.pointer (some ⟨D,1,none⟩))⟩),(2,⟨84,[83],false,.eq (.agg y.cells.toArray)⟩),(4,⟨86,[],false,.eq (.agg ((x.setL A c x.ls).setA (some ⟨g6,0,none⟩) c6 x.al).cells.toArray)⟩),(6,⟨88,[86],false,.eq (.int .i64 (G k))⟩),(7,⟨89,[84,88],false,.sx (g6::YB) m (S y.er (G k))⟩),(8,⟨81,[89],false,.sx (g6::YB) m (S y.er (G k))⟩),(9,⟨90,[81],false,.kx (g6::YB) m (S y.er (G k)).1⟩),(11,⟨13,[],true,.new Zg.cells.toArray 41⟩),(10,⟨91,[81],false,.eq (.int .i64 (S y.er (G k)).2)⟩)]) rfl ?_
      apply Exists.intro
      refine⟨fun vs=>?_,?_⟩
      ·simp only[List.map_cons,List.map_nil,Q5,Jj,Act.put,List.setIfInBounds_toArray,List.set_cons_zero,List.set_cons_succ]
       exact rfl
      refine⟨⟨?_,?_,?_,?_,?_,?_,?_,?_,?_,trivial⟩,?_,?_⟩<;>intro vs Z w4 hk hZ hg
      all_goals
       simp only[ZW,List.flatMap_cons,List.flatMap_nil,List.getElem?_cons_zero,List.getElem?_cons_succ,Option.toList_some,List.cons_append,List.nil_append]
       haveI p_w4:Zb w4 _:=⟨hk⟩
       have hz_w4:=hk.size
       have HZ:=hh hZ
       clear hk hZ
       (try simp only[List.map_cons,List.map_nil,ZG,Zi,Z8,SZ.eq_p,SZ.ex_p,SZ.wx_p,SZ.new_p,SZ.kx_p,SZ.sx_p,Nat.reduceEqDiff,reduceIte,and_true]at hg)
      ·clear hg
       go_wp2_with fail
       exact⟨kp,rfl,Z,.inl ⟨rfl,rfl⟩,rfl⟩
      ·obtain e83:=hg
       (try simp only[e83])
       go_wp2_with fail
       exact⟨kp,rfl,Z,.inl ⟨rfl,rfl⟩,rfl⟩
      ·clear hg
       go_wp2_with fail
       exact⟨kp,rfl,Z,.inl ⟨rfl,rfl⟩,rfl⟩
      ·obtain e86:=hg
       (try simp only[e86])
       have hkw4:Kept [] w w4:=HKR.out.trans (p_w3.kept.trans (show Kept [] w3 w4 from kp))
       go_wp2_with fail
       refine(HG.out _ ((x.setL A c x.ls).setA (some ⟨g6,0,none⟩) c6 x.al) k hkw4 rfl rfl hlt).mono ?_
       rintro e w8 ⟨rfl,hk8⟩
       go_wp2_with fail
       exact⟨hk8,rfl,Z,.inl ⟨rfl,rfl⟩,rfl⟩
      ·obtain⟨e84,e88⟩:=hg
       (try simp only[e84,e88])
       have hk4:Kept [] wr w4:=p_w3.kept.trans (show Kept [] w3 w4 from kp)
       have hrs:=HKR.out.size
       have hks:=hk4.size
       have hdd:=HDD.out
       have hZ2:∀q,q∈Z→wr.heap.size≤q∧q < w4.heap.size:=fun q hq=>by have h:=HZ.out q hq;omega
       clear hdd
       go_wp2_with fail
       refine(HS.out w4 ((g6::YB)++Z) y (G k) (HKR.out.trans hk4) (fun q hq=>?_) (fun q hq=>?_) (.inr ⟨_,List.mem_of_getElem? HAL.out,rfl⟩) (HYZ.out.later hk4 (fun q hq=>?_))).mono ?_
       ·rcases List.mem_append.1 hq with h1 | h1
        ·rcases List.mem_cons.1 h1 with rfl | h2
         ·exact .inr (by omega)
         ·exact hY1 q h2
        ·exact .inr (by have:=hZ2 q h1;omega)
       ·rcases List.mem_append.1 hq with h1 | h1
        ·rcases List.mem_cons.1 h1 with rfl | h2
         ·omega
         ·have:=hY2 q h2;have:=hg6.1;have:=hg6.2;omega
        ·exact(hZ2 q h1).2
       ·rcases List.mem_append.1 hq with h1 | h1
        ·exact .inl h1
        ·exact .inr (hZ2 q h1).1
       rintro e w8 ⟨z,rfl,hz1,hz2,hk8⟩
       go_wp2_with fail
       exact⟨hk8,rfl,Z,.inl ⟨rfl,rfl⟩,z,rfl,hz1,hz2⟩
      ·obtain⟨z89,e89,f89,i89⟩:=hg
       simp only[e89]
       go_wp2_with fail
       exact⟨kp,rfl,Z,.inl ⟨rfl,rfl⟩,z89,rfl,f89,i89⟩
      ·obtain⟨z81,e81,f81,i81⟩:=hg
       simp only[e81]
       go_wp2_with fail
       exact⟨kp,rfl,Z,.inl ⟨rfl,rfl⟩,z81,rfl,f81,i81⟩
      ·clear hg
       go_wp2_with fail
       exact⟨kp,rfl,_::Z,.inr ⟨rfl,_,rfl,rfl,Nat.le_refl _,by simp⟩,_,rfl,List.mem_cons_self,Zf rfl⟩
      ·obtain⟨z81,e81,f81,i81⟩:=hg
       simp only[e81]
       go_wp2_with fail
       exact⟨kp,rfl,Z,.inl ⟨rfl,rfl⟩,rfl⟩
      obtain⟨e83,e84,e86,e88,⟨z89,e89,f89,i89⟩,⟨z81,e81,f81,i81⟩,⟨z90,e90,f90,i90⟩,⟨B9,e9,b9,h9'⟩,e91⟩:=hg
      simp only[e91]
      clear e91
      rotate_left
      obtain⟨e83,e84,e86,e88,⟨z89,e89,f89,i89⟩,⟨z81,e81,f81,i81⟩,⟨z90,e90,f90,i90⟩,⟨B9,e9,b9,h9'⟩⟩:=hg
      all_goals
       simp only[e83,e84,e86,e88,e89,e81,e90,e9]
       clear e83 e84 e86 e88 e89 f89 i89 f81 i81 e90 e9
       haveI bB9:Zc w4 B9 41 Zg.cells.toArray:=⟨h9'⟩
       have hk4:Kept [] wr w4:=p_w3.kept.trans (show Kept [] w3 w4 from kp)
       have hBz:=HZ.out B9 b9
       have hks:=hk4.size
       have hrs:=HKR.out.size
       have hdd:=HDD.out
       have hBw:wr.heap.size < B9:=by omega
       haveI ap1:Qf B9 w.heap.size:=⟨by omega⟩
       haveI ap2:Qf B9 (w.heap.size+1):=⟨by omega⟩
       have HDD2:=hh hdd
       clear hdd
       have HO4:=hh ((HOA.out.keep hk4 (fun _ _=>by simp)).keep (Kept.setRow (X:=[B9]) w4 B9 z90.cells.toArray (by simp)) (fun q hq=>by simp[Value.ownBlock]at hq;simp;omega))
       by_cases he:(S y.er (G k)).2=0
       ·have he':((S y.er (G k)).2 != 0)=false:=by simp[he]
        go_wp2_with (refine Zbx rfl (.tmp 101) (.tmp 99) rfl w5.heap.size _ bs HO4.out k (c1,[],c3,y) HAB.out g6 rfl z90 rfl rfl ?_;intro w7 ho5 hg5;have HO5:=hh ho5;have HG5:=hh hg5;clear ho5 hg5)
        have HK45:Hid (Kept [B9,g6] w4 w7):=(Kept.setRow (X:=[B9,g6]) w4 B9 _ (by simp)).trans (Kept.of_grown (X:=[B9,g6]) HG5.out (fun k hk _=>by cases hk;simp))
        have hpn:=Jm HPA.out HXY.out (by rw[hfk];exact he)
        have hbk2:k < bs.length:=by omega
        have HUP:Hid (∀z:ExV,ExK (Qd (.slice (some ⟨g6,0,none⟩) x.al.length c6) YB) wr m z→ExK (Qd (.slice (some ⟨g6,0,none⟩) x.al.length c6) YB) w7 m z):=fun z hz=>
         ((
          hz.later (Y:=B9::g6::YB) hk4 (fun q hq=>by
          rcases List.mem_cons.1 hq with rfl | h2
          ·exact .inr (by omega)
          ·exact .inl h2)).less HK45.out (fun q hq=>by simp at hq⊢;rcases hq with h | h <;> simp[h])).sub (fun q hq=>List.mem_cons_of_mem _ hq)
        go_roundw
        case rel=>
         refine⟨k+1,bs.set k (ZrO (c1,[],c3,y) z90),by go_num,by omega,by rw[List.length_set];exact hbl,HO5.out,?_,fun a ha=>?_,?_,fun a ha=>?_,HK45.out.obj (hk4.obj bX.has (by simp)) (by simp;omega),HK45.out.obj (hk4.obj bR2.has (by simp)) (by simp;omega),(HOXR.out.keep hk4 (fun _ _=>by simp)).keep HK45.out (fun q hq=>by have h1:=(HOXR.out.lt q hq).2;have h2:=HGA.out q hq;simp;omega),fun z hz=>HUP.out z (HZXR.out z hz),(((HKR.out.trans hk4).mono (Y:=[B9,g6]) (by simp)).trans HK45.out).mono' (fun r hr hlr=>by simp at hr;omega)⟩
         ·rw[List.drop_set_of_lt (by omega),←List.drop_drop,HDA.out,List.drop_drop]
         ·rcases List.mem_or_eq_of_mem_set ha with h1 | rfl
          ·exact HCB.out a h1
          ·rfl
         ·rw[hpn,hfk,List.take_succ_eq_append_getElem (by rw[List.length_set];omega),List.map_append,List.take_set_of_le (Nat.le_refl _),List.getElem_set_self,List.map_cons,List.map_nil,←f90]
          rfl
         ·rcases List.mem_or_eq_of_mem_set ha with h1 | rfl
          ·exact HUP.out _ (HZA.out a h1)
          ·exact(i90.less HK45.out (fun q hq=>by
            simp at hq
            rcases hq with rfl | rfl
            ·exact List.mem_append.2 (.inr b9)
            ·exact List.mem_append.2 (.inl (by simp)))).sub (fun q hq=>List.mem_append.2 (.inl hq))
        case measure=>simp[intOf];omega
       ·have he':((S y.er (G k)).2 != 0)=true:=by simp[he]
        have hst:=Zcc HPA.out HXY.out (by rw[hfk];exact he)
        rw[hfk]at hst
        have hle:(bs.take k).map (fun a=>a.2.2.2.er)++(x.al.map fun a=>a.2.2.2.er).drop k=bs.map fun a=>a.2.2.2.er:=by
         rw[←List.map_drop,←HDA.out,←List.map_append,List.take_append_drop]
        rw[hle]at hst
        have HIN4:=hh (HIN3.out _ _ hst)
        clear hst hle
        have hce:((x.setL A c x.ls).setA (some ⟨g6,0,none⟩) c6 x.al).cells=((x.setL A c zs).setA (some ⟨g6,0,none⟩) c6 bs).cells:=by simp[ExV.cells,ExV.setL,ExV.setA,ExV.kind,ExV.oper,ExV.n,ExV.s,ExV.la,ExV.lc,ExV.ls,ExV.aa,ExV.ac,ExV.al,ExV.line,ExV.ent,ExV.t,hzl,hbl]
        go_wp2_with fail
        have hKF:∀cs1 cs2,Kept [B9,w.heap.size+1] w4 ((w4.setRow B9 cs1).setRow (w.heap.size+1) cs2):=fun cs1 cs2=>(Kept.setRow (X:=[B9,w.heap.size+1]) w4 B9 cs1 (by simp)).trans (Kept.setRow (X:=[B9,w.heap.size+1]) _ _ cs2 (by simp))
        have hup:∀cs1 cs2 (z:ExV),ExK (Qd (.slice (some ⟨g6,0,none⟩) x.al.length c6) YB) wr m z→ExK X ((w4.setRow B9 cs1).setRow (w.heap.size+1) cs2) m z:=fun cs1 cs2 z hz=>
         ((
          hz.later (Y:=B9::g6::YB) hk4 (fun q hq=>by
          rcases List.mem_cons.1 hq with rfl | h2
          ·exact .inr (by omega)
          ·exact .inl h2)).less (hKF cs1 cs2) (fun q hq=>by
           simp at hq
           rcases hq with rfl | rfl
           ·simp
           ·have:=hY3 (w.heap.size+1) (by simp);simp[this])).sub (fun q hq=>by have:=hY3 q (by simp[hq]);simp[this])
        have hxw:∀cs1 cs2,ExK X ((w4.setRow B9 cs1).setRow (w.heap.size+1) cs2) (m+1) ((x.setL A c zs).setA (some ⟨g6,0,none⟩) c6 bs):=fun cs1 cs2=>by
         refine ExK.setA c6 (ExK.setL c ?_ ?_ (by omega) (fun z hz=>hup _ _ z (HZXR.out z hz))) ?_ (by omega) HCB.out (fun a ha=>hup _ _ _ (HZA.out a ha))
         ·exact((HX.out.later (Y:=B9::(w.heap.size+1)::X) (HKR.out.trans hk4) (fun q hq=>by
           simp at hq
           rcases hq with h | h | h
           ·exact .inr (by omega)
           ·exact .inr (by omega)
           ·exact .inl h)).less (hKF cs1 cs2) (fun q hq=>by simp at hq⊢;rcases hq with h | h <;> simp[h])).sub (fun q hq=>by simp[hq])
         ·have ho5:=(HOXR.out.keep hk4 (fun _ _=>by simp)).keep (hKF cs1 cs2) (fun q hq=>by have h1:=HOXR.out.lt q hq;simp;omega)
          obtain⟨A',c',e,hrx⟩:=ho5.rowsX (X:=X) (fun q hq=>by have:=HXS.out q hq;omega)
          injection e with e1 _ _
          rw[←e1]at hrx
          exact hrx
         ·have ho5:=(HOA.out.keep hk4 (fun _ _=>by simp)).keep (hKF cs1 cs2) (fun q hq=>by simp[Value.ownBlock]at hq;simp;omega)
          obtain⟨A',c',e,hrx⟩:=ho5.rowsA (X:=X) (fun q hq=>by have:=HXS.out q hq;omega)
          injection e with e1 _ _
          rw[←e1]at hrx
          exact hrx
        refine bodyPost_ret (v:= .tuple #[.agg ((x.setL A c zs).setA (some ⟨g6,0,none⟩) c6 bs).cells.toArray,.int .i64 (S y.er (G k)).2]) (Qm results50 (Z0 rfl inferInstance) (Zh rfl)) rfl ⟨(x.setL A c zs).setA (some ⟨g6,0,none⟩) c6 bs,by rw[HIN4.out],by rw[HIN4.out,ExV.er_setA,ExV.er_setL,Zps HCB.out],hxw _ _,?_⟩
        exact((HKR.out.trans hk4).mono (by simp)).trans (hKF _ _) |>.mono' (fun r hr hlr=>by simp at hr;omega)
    ·obtain rfl:k=x.al.length:=by omega
     have hdone:Z5 F2 0 (x.al.map fun a=>a.2.2.2.er)=(bs.map (fun a=>a.2.2.2.er),0):=by
      have h:=HPA.out
      rwa [List.take_of_length_le (by rw[List.length_map];omega),List.take_of_length_le (by omega)]at h
     have HIN4:=hh (HIN3.out _ _ hdone)
     have hce:((x.setL A c x.ls).setA A6 c6 x.al).cells=((x.setL A c zs).setA A6 c6 bs).cells:=by simp[ExV.cells,ExV.setL,ExV.setA,ExV.kind,ExV.oper,ExV.n,ExV.s,ExV.la,ExV.lc,ExV.ls,ExV.aa,ExV.ac,ExV.al,ExV.line,ExV.ent,ExV.t,hzl,hbl]
     clear hdone
     go_wp2_with fail
     have hKF:∀cs,Kept [w.heap.size+1] wr (wr.setRow (w.heap.size+1) cs):=fun cs=>Kept.setRow (X:=[w.heap.size+1]) wr _ cs (by simp)
     have hup:∀cs (z:ExV),ExK (Qd (.slice A6 x.al.length c6) YB) wr m z→ExK X (wr.setRow (w.heap.size+1) cs) m z:=fun cs z hz=>
      (hz.less (hKF cs) (fun q hq=>by
       obtain rfl:q=w.heap.size+1:=by simpa using hq
       exact Zl.2 (.inr (hY3 _ (by simp))))).sub (fun q hq=>Zl.2 (.inr (hY3 q (by simp[hq]))))
     have hrs:=HKR.out.size
     have hxw:∀cs,ExK X (wr.setRow (w.heap.size+1) cs) (m+1) ((x.setL A c zs).setA A6 c6 bs):=fun cs=>by
      refine ExK.setA c6 (ExK.setL c ?_ ?_ (by omega) (fun z hz=>hup _ z (HZXR.out z hz))) ?_ (by omega) HCB.out (fun a ha=>hup _ _ (HZA.out a ha))
      ·exact((HX.out.later (Y:=(w.heap.size+1)::X) HKR.out (fun q hq=>by
        rcases List.mem_cons.1 hq with rfl | h
        ·exact .inr (by omega)
        ·exact .inl h)).less (hKF cs) (by simp)).sub (fun q hq=>by simp[hq])
      ·have ho5:=HOXR.out.keep (hKF cs) (fun q hq=>by have h1:=HOXR.out.lt q hq;simp;omega)
       obtain⟨A',c',e,hrx⟩:=ho5.rowsX (X:=X) (fun q hq=>by have:=HXS.out q hq;omega)
       injection e with e1 _ _
       rw[←e1]at hrx
       exact hrx
      ·have ho5:=HOA.out.keep (hKF cs) (fun q hq=>by have h1:=HOA.out.lt q hq;simp;omega)
       obtain⟨A',c',e,hrx⟩:=ho5.rowsA (X:=X) (fun q hq=>by have:=HXS.out q hq;omega)
       injection e with e1 _ _
       rw[←e1]at hrx
       exact hrx
     refine bodyPost_ret (v:= .tuple #[.agg ((x.setL A c zs).setA A6 c6 bs).cells.toArray,.int .i64 0]) (Qm results50 (Z0 rfl inferInstance) (Zh rfl)) rfl ⟨(x.setL A c zs).setA A6 c6 bs,by rw[HIN4.out],by rw[HIN4.out,ExV.er_setA,ExV.er_setL,Zps HCB.out],hxw _,?_⟩
     exact(HKR.out.mono (by simp)).trans (hKF _) |>.mono' (fun r hr hlr=>by simp at hr;omega)
end
end Go.Proofs.YtfaecpkocgcofaaGreatDoor
