/- Lemmas for ResolveSettles, printed small: N32 N33 N34 L1 L2. -/
import Derived.Test.YtfaecpkocgcofaaGreatDoorZ41
import Derived.Great.BuildSlice
set_option linter.all false
set_option maxRecDepth 100000
set_option maxHeartbeats 8000000
open Go.Proofs.Tryz
namespace Go.Proofs.YtfaecpkocgcofaaGreatDoor
section
open Go.RowKit
def ZsY (K:Nat) (A B:Array Value) (p:Int→Bool) (w:World):Prop:=
 (∀args w,(callFunc K args).run prog w= .ok (.enter K args) w)∧∀W k,Kept [] w W→Calls prog K (A++ #[.int .i64 k]++B) W (ZE (.bool (p k)) W)
def Zuz (p:Int→Bool) (w:World) (e:Ending) (w':World):Prop:=∃K A B,e= .returned (.func (.func K) A B)∧ZsY K A B p w'∧Kept [] w w'
theorem Tryz.entersAcc1:∀args w,(callFunc 78 args).run prog w= .ok (.enter 78 args) w:=Go.Proofs.enters_of func78 (by kernel_rfl) rfl
theorem Tryz.entersExpr1:∀args w,(callFunc 36 args).run prog w= .ok (.enter 36 args) w:=Go.Proofs.enters_of func36 (by kernel_rfl) rfl
theorem ZoF (w:World) (k want:Int) (B:Nat) [Zc w B 3 #[.int .i64 want]]:Calls prog 78 (#[]++ #[.int .i64 k]++ #[.pointer (some ⟨B,0,none⟩)]) w (ZE (.bool (want == -5)) w):=by
 show Calls prog 78 #[.int .i64 k,.pointer (some ⟨B,0,none⟩)] w _
 go_enter func78,ntmps78
 go_wp2_with fail
 exact Za rfl (Zj results78 (Zh rfl)) kp
theorem Zhz (w:World) (R mr:Nat) (v:Zp) (t:Tab) (h:WhV) (want:Int) (hR:Qo w R mr v t h):Calls prog 34 #[.pointer (some ⟨R,0,none⟩),.int .i64 want] w (Zuz (ZsQ t h want) w):=by
 by_cases h2:want= -2
 ·subst h2
  go_enter func34,ntmps34
  go_wp2_with fail
  exact bodyPost_ret (Zj results34 (Zh rfl)) rfl ⟨_,_,_,rfl,⟨Tryz.entersWhole,fun W k hk=>ZeV W R mr v t h k (hR.kept (Kept.trans kp hk))⟩,kp⟩
 by_cases h3:want= -3
 ·subst h3
  go_enter func34,ntmps34
  go_wp2_with fail
  exact bodyPost_ret (Zj results34 (Zh rfl)) rfl ⟨_,_,_,rfl,⟨Tryz.entersDiscrete,fun W k hk=>Zbo W R mr v t h k (hR.kept (Kept.trans kp hk))⟩,kp⟩
 by_cases h4:want= -4
 ·subst h4
  go_enter func34,ntmps34
  go_wp2_with fail
  exact bodyPost_ret (Zj results34 (Zh rfl)) rfl ⟨_,_,_,rfl,⟨Tryz.entersBoolean,fun W k hk=>ZcG W R mr v t h k (hR.kept (Kept.trans kp hk))⟩,kp⟩
 have HP:Hid (ZsQ t h want=fun _=>want == -5):=by rw[Hid,ZsQ,if_neg h2,if_neg h3,if_neg h4]
 have g2:(want == -2)=false:=by simpa using h2
 have g3:(want == -3)=false:=by simpa using h3
 have g4:(want == -4)=false:=by simpa using h4
 clear h2 h3 h4 hR
 go_enter func34,ntmps34
 go_wp2_with fail
 refine bodyPost_ret (Zj results34 (Zh rfl)) rfl ⟨_,_,_,rfl,⟨Tryz.entersAcc1,fun W k hk=>?_⟩,kp⟩
 haveI b:Zc W w.heap.size 3 #[.int .i64 want]:=⟨hk.obj Zc.has (by simp)⟩
 rw[HP.out]
 exact ZoF W k want w.heap.size
theorem Zlg (w:World) (m:MeV) (C K:Nat) (A B:Array Value) (p:Int→Bool) [Zc w C 110 #[.func (.func K) A B]] (hM:ZsY K A B p w):Calls prog 36 (#[]++ #[.agg m.cells.toArray]++ #[.pointer (some ⟨C,0,none⟩)]) w (ZE (.bool (p m.t)) w):=by
 have HM:=hh (fun W (hk:Kept [] w W)=>hM.2 W m.t hk)
 have HE:=hh hM.1
 clear hM
 show Calls prog 36 #[.agg m.cells.toArray,.pointer (some ⟨C,0,none⟩)] w _
 go_enter func36,ntmps36
 have eg:=HE.out
 go_wp2_with fail
 refine nxt (HM.out _ kp) fun w1 p_w1=>?_;have hz_w1:=szk w w1
 go_wp2_with fail
 exact Za rfl (Zj results36 (Zh rfl)) kp
theorem Zkw (p:Int→Bool):∀(ms:List MeV) (acc:Int×ExV),((ms.map MeV.er).foldl (JE p) (acc.1,acc.2.er))=((ms.foldl (JE p) acc).1,(ms.foldl (JE p) acc).2.er)
 | [],_=>rfl
 | m::ms,acc=>by
  rw[List.map_cons,List.foldl_cons,List.foldl_cons,←Zkw p ms]
  congr 1
  unfold JE
  have e:m.er.t=m.t:=rfl
  rw[e]
  split <;> rfl
theorem Znl (p:Int→Bool) (ms:List MeV):QS p (ms.map MeV.er)=((QS p ms).1,(QS p ms).2.er):=by
 have:=Zkw p ms (0,Zg)
 rw[YD]at this
 exact this
theorem ZhQ (p:Int→Bool):∀(ms:List MeV) (acc:Int×ExV),(ms.foldl (JE p) acc).2=acc.2∨∃m,m∈ms∧(ms.foldl (JE p) acc).2=m.e
 | [],_=> .inl rfl
 | m::ms,acc=>by
  rw[List.foldl_cons]
  rcases ZhQ p ms (JE p acc m)with h | ⟨m',h1,h2⟩
  ·unfold JE at h⊢
   split at h
   ·rename_i hp
    rw[if_pos hp]
    exact .inr ⟨m,by simp,h⟩
   ·rename_i hp
    rw[if_neg hp]
    exact .inl h
  ·exact .inr ⟨m',by simp[h1],h2⟩
theorem ZiR {p:Int→Bool} {ms:List MeV} {k:Nat} {m:MeV} (hm:ms[k]? =some m):QS p (ms.take (k+1))=JE p (QS p (ms.take k)) m:=by
 obtain⟨h,rfl⟩:=List.getElem?_eq_some_iff.1 hm
 rw[List.take_succ_eq_append_getElem h,QS,QS,List.foldl_append]
 rfl
theorem Zkx (p:Int→Bool):∀(ms:List MeV) (acc:Int×ExV),(∀m,m∈ms→0≤m.n∧m.n≤2)→0≤acc.1→0≤(ms.foldl (JE p) acc).1∧(ms.foldl (JE p) acc).1≤acc.1+2*ms.length
 | [],acc,_,h=>⟨h,by simp⟩
 | m::ms,acc,hm,h=>by
  rw[List.foldl_cons]
  have h1:=hm m (by simp)
  have h2:0≤(JE p acc m).1∧(JE p acc m).1≤acc.1+2:=by
   unfold JE
   split
   ·simp only;omega
   ·omega
  have h3:=Zkx p ms (JE p acc m) (fun m' hm'=>hm m' (by simp[hm'])) h2.1
  simp only[List.length_cons]
  omega
theorem Znm {p:Int→Bool} {ms:List MeV} (hm:∀m,m∈ms→0≤m.n∧m.n≤2):0≤(QS p ms).1∧(QS p ms).1≤2*ms.length:=by
 have:=Zkx p ms (0,Zg) hm (by decide)
 simpa [QS]using this
theorem Znk (X:List Nat) (w:World) (R mr:Nat) (v:Zp) (t:Tab) (h:WhV) (n m:Nat) (d:NdV) (K:Nat) (A B:Array Value) (p:Int→Bool) (hR:Qo w R mr v t h) (hmn:m+1≤n) (hd:NdD X w d) (hX:∀q,q∈X→q < w.heap.size)
 (eg:∀args w,(callFunc K args).run prog w= .ok (.enter K args) w) (hM:∀W (μ:MeV),Kept [] w W→Calls prog K (A++ #[.agg μ.cells.toArray]++B) W (ZE (.bool (p μ.t)) W))
 (hs:JF (QS p (d.ms.map MeV.er)).1=0→ZbI t (m+1) (QS p (d.ms.map MeV.er)).2):
 Calls prog 35 #[.pointer (some ⟨R,0,none⟩),.pointer (some ⟨d.p,0,none⟩),.func (.func K) A B] w (ZaU X (m+1) (Qq t n (m+1) (QS p (d.ms.map MeV.er)).1 (QS p (d.ms.map MeV.er)).2 (-1)) w):=by
 have HXS:=hh hX
 have HMC:=hh hM
 obtain⟨n0,hn0⟩:=hd.here
 haveI bd:=hn0.is
 have HMR:=hh hn0.2.2.1
 have HB:=hh hn0.2.2.2.1
 have q1:=hn0.2.2.2.2.1
 have hD:ExD X w (QS p d.ms).2:=by
  rcases ZhQ p d.ms (0,Zg)with h1 | ⟨μ,h1,h2⟩
  ·rw[QS,h1];exact ZaX _ _
  ·rw[QS,h2];exact hd.me h1
 rw[Znl]at hs⊢
 simp only at hs⊢
 have HC:=hh (fun(W:World) (Y:List Nat) (hk:Kept [] w W) (hY:∀q,q∈Y→q∈X∨w.heap.size≤q) (hYs:∀q,q∈Y→q < W.heap.size)=>Zdt Y W R mr v t h n m (QS p d.ms).1 (QS p d.ms).2 (-1) (hR.kept hk) hmn (fun hv=>ZdJ (hs hv)) (hD.later hk hY) hYs)
 clear hR hd hX hM hs hD hn0
 go_enter func35,ntmps35
 go_wp2_with fail
 refine Zm ?_
 intro w0 hw0
 haveI p_w0:Zb w0 w:=⟨by rw[hw0];exact kp⟩
 have HB0:Hid (w0.heap[w.heap.size]? =some (.cells Zg.cells.toArray 41 (0,0))):=by rw[Hid,hw0];exact Zc.has
 have HB1:Hid (w0.heap[w.heap.size+1]? =some (.cells Zg.cells.toArray 41 (0,0))):=by rw[Hid,hw0];exact Zc.has
 have hz0:w0.heap.size=w.heap.size+2:=by rw[hw0];simp
 clear hw0
 generalize d.ma=MA at*
 go_loopw [8,17] (fun s8 s17 wr=>∃k:Nat,s17= .int .i64 k∧k≤d.ms.length∧s8= .int .i64 (QS p (d.ms.take k)).1∧wr.heap[w.heap.size]? =some (.cells Zg.cells.toArray 41 (0,0))∧wr.heap[w.heap.size+1]? =some (.cells (QS p (d.ms.take k)).2.cells.toArray 41 (0,0))∧Kept [w.heap.size+1] w0 wr) (fun _ s17 _=>d.ms.length - (intOf s17).toNat)
 case atStart=>exact⟨0,rfl,Nat.zero_le _,rfl,HB0.out,HB1.out,Kept.refl _ _⟩
 case round=>
  obtain⟨k,rfl,hk,rfl,hb0,hb1,hkr⟩:=hrel
  have HKR:=hh hkr
  haveI bo:Zc wr w.heap.size 41 Zg.cells.toArray:=⟨hb0⟩
  haveI bo1:Zc wr (w.heap.size+1) 41 (QS p (d.ms.take k)).2.cells.toArray:=⟨hb1⟩
  have HKW:Hid (Kept [] w wr):=Kept.trans0 (a:=w) (b:=w0) kp hkr (by omega)
  haveI p_wr:Zb wr w:=⟨HKW.out⟩
  clear hb0 hb1 hkr
  obtain⟨wo,rfl⟩:∃wo:World,wo=wr:=⟨_,rfl⟩
  by_cases hlt:k < d.ms.length
  ·obtain⟨μ,hm⟩:∃μ,d.ms[k]? =some μ:=⟨_,List.getElem?_eq_getElem hlt⟩
   obtain⟨b,o,rfl,hr⟩:=HMR.out.some_ hm
   haveI ie:Zbt wo b (o+k*12) μ:=⟨fun j u hu=>HKW.out.cell (hr k μ hm j u hu) (by simp)⟩
   have HST:=hh (ZiR (p:=p) hm)
   have HMN:=hh (HB.out μ (List.mem_of_getElem? hm)).2
   clear hr hm
   have HAB:=hh (Znm (p:=p) (ms:=d.ms.take k) (fun m' hm'=>(HB.out m' (List.mem_of_mem_take hm')).2))
   have hlk:(d.ms.take k).length≤d.ms.length:=by rw[List.length_take];omega
   generalize QS p (d.ms.take k)=acc at*
   go_wp2_with fail
   refine nxt (HMC.out _ μ kp) fun w5 p_w5=>?_;have hz_w5:=szk w w5
   have HKR5:Hid (Kept [w.heap.size+1] w0 w5):=Kept.trans (HKR.out.alloc' _) (Zb.kept.mono (by simp))
   cases hp:p μ.t
   ·have HN:Hid (QS p (d.ms.take (k+1))=acc):=by rw[Hid,HST.out,JE,hp];rfl
    go_wp2_with fail
    go_roundw
    case rel=>exact⟨k+1,by go_num,by omega,by rw[HN.out],Zc.has,by rw[HN.out];exact Zc.has,HKR5.out⟩
    case measure=>simp[intOf];omega
   ·have HN:Hid (QS p (d.ms.take (k+1))=(acc.1+μ.n,μ.e)):=by rw[Hid,HST.out,JE,hp];rfl
    have ha1:=HAB.out.1
    have ha2:=HAB.out.2
    have hm1:=HMN.out.1
    have hm2:=HMN.out.2
    go_wp2_with fail
    go_roundw
    case rel=>exact⟨k+1,by go_num,by omega,by rw[HN.out],Zc.has,by rw[HN.out];exact Zc.has,HKR5.out.trans (Kept.setRow _ _ _ (by simp))⟩
    case measure=>simp[intOf];omega
  ·obtain rfl:k=d.ms.length:=by omega
   have HEK:Hid (d.ms.take d.ms.length=d.ms):=List.take_length
   rw[HEK.out]at*
   go_wp2_with fail
   refine(HC.out _ (w.heap.size::X) kp (fun q hq=>by rcases List.mem_cons.1 hq with rfl | h;exact .inr (by omega);exact .inl h) (fun q hq=>by have hz:=HKR.out.size;rcases List.mem_cons.1 hq with rfl | h;omega;have:=HXS.out q h;omega)).mono ?_
   rintro e w6 ⟨z,rfl,hz,hzk,hk6⟩
   haveI p_w6:Zb w6 _:=⟨hk6⟩
   have HZ:=hh hz
   have HZK:=hh hzk
   clear hz hzk hk6
   generalize Qq t n (m+1) (QS p d.ms).1 (QS p d.ms).2.er (-1)=r at*
   go_wp2_with fail
   exact bodyPost_ret (v:= .tuple #[.agg z.cells.toArray,.int .i64 r.2]) (Qm results35 (Z0 rfl inferInstance) (Zh rfl)) rfl ⟨z,rfl,HZ.out,(HZK.out.less (Y:=[w.heap.size]) (Kept.setRow _ _ _ (by simp)) (by simp)).sub (fun q hq=>by simp[hq]),kp⟩
theorem Zk7 (x:ExV) (n:Nat):Q0 x.er n=Q0 x n:=by
 rw[Q0,Q0,ExV.er_ls,List.length_map]
 cases x.ls with
 | nil=>rfl
 | cons y r=>rw[List.map_cons,List.headD_cons,List.headD_cons,YZ,YZ,ExV.er_kind]
theorem Zc9:∀l:List AsV,ZP (l.map AsV.er)=ZP l
 | []=>rfl
 | [a]=>rfl
 | a::b::r=>by
  have e:Zjv b.er a.er=Zjv b a:=by
   have h1:b.er.2.1.length=b.2.1.length:=List.length_map _
   have h2:a.er.2.1.length=a.2.1.length:=List.length_map _
   rw[Zjv,Zjv,h1,h2]
  have ih:=Zc9 (b::r)
  rw[List.map_cons,List.map_cons,ZP,ZP,e]
  rw[List.map_cons]at ih
  rw[ih]
theorem Zl6 {a:AsV} (h:a.2.1= []):Zjm a=false:=by rw[Zjm,h];rfl
theorem Zoy {l:List AsV} (h:∀a,a∈l→a.2.1= []):ZbE (l.map AsV.er)=ZbE l:=by
 have e1:l.any Zjm=false:=by
  rw[List.any_eq_false]
  intro a ha
  rw[Zl6 (h a ha)]
  simp
 have e2:(l.map AsV.er).any Zjm=false:=by
  rw[List.any_eq_false]
  intro b hb
  obtain⟨a,ha,rfl⟩:=List.mem_map.1 hb
  rw[Zl6 (by show a.2.1.map ChV.er= [];rw[h a ha];rfl)]
  simp
 rw[ZbE,ZbE,List.length_map,Zc9,e1,e2]
theorem Znx (x:ExV):ZdT (Z3 x.er)=ZdT (Z3 x):=by
 have e:(Z3 x.er).al.length=(Z3 x).al.length:=by
  show(if x.er.kind=7∨x.er.kind=9 then []else x.er.al).length=(if x.kind=7∨x.kind=9 then []else x.al).length
  rw[ExV.er_kind,ExV.er_al]
  split
  ·rfl
  ·rw[List.length_map]
 have e1:(Z3 x.er).oper=(Z3 x).oper:=by show(if x.er.kind=11∨x.er.kind=12 then 0 else x.er.oper)=_;rw[ExV.er_kind,ExV.er_oper];rfl
 have e2:(Z3 x.er).n=(Z3 x).n:=by show(if x.er.kind=1 then 0 else x.er.n)=_;rw[ExV.er_kind,ExV.er_n];rfl
 have e3:(Z3 x.er).s=(Z3 x).s:=by show(if x.er.kind=3∨x.er.kind=4∨x.er.kind=6 then⟨#[]⟩else x.er.s)=_;rw[ExV.er_kind,ExV.er_s];rfl
 rw[ZdT,ZdT,e,e1,e2,e3]
theorem Zr7 {assoc:List AsV→Bool} {x:ExV} (hk:x.kind=1∨x.kind=3∨x.kind=7∨x.kind=12) (h:∀a,a∈x.al→a.2.1= []):okP assoc x.er=okP assoc x:=by
 unfold okP
 rw[ExV.er_kind,Zk7,ExV.er_al,Zoy h,ExV.er_ls,List.length_map,ExV.er_n,ExV.er_s,ExV.er_oper]
 rcases hk with e | e | e | e <;> rw[e] <;> rfl
theorem ZsN (a:AsV):asX a.er=(asX a).map ExV.er:=by
 show((a.2.1.map ChV.er).map fun c=>c.2.2.2).flatten++ [a.2.2.2.er]=_
 rw[asX,List.map_append,List.map_flatten,List.map_map,List.map_map]
 rfl
theorem ZpK (x:ExV):Za2 x.er=(Za2 x).map ExV.er:=by
 rw[Za2,Za2,ExV.er_ls,ExV.er_al,List.map_append,List.map_flatten,List.map_map,List.map_map]
 congr 2
 refine List.map_congr_left fun a _=>?_
 exact ZsN a
theorem Zid {F G:Int→ExV→Bool×Int}:∀(A:List ExV) (l:Int),(∀l y,y∈A→F l y.er=G l y)→Z1 F (A.map ExV.er) l=Z1 G A l
 | [],_,_=>rfl
 | y::A,l,h=>by
  rw[List.map_cons,Z1,Z1,h l y (by simp),Zid A _ (fun l y hy=>h l y (by simp[hy]))]
theorem ZkM (t:Tab) (h:WhV) (assoc:List AsV→Bool):∀(n k:Nat) (d l:Int) (x:ExV),YW t h k x.er→Jo assoc n d l x.er=Jo assoc n d l x
 | 0,_,_,_,_,_=>rfl
 | n+1,0,_,_,_,hx=>hx.elim
 | n+1,k+1,d,l,x,hx=>by
  have hk:=hx.1
  rw[ExV.er_kind]at hk
  have hch:∀a,a∈x.al→a.2.1= []:=fun a ha=>by
   have h1:=(hx.2.2.2.1 a.er (by rw[ExV.er_al];exact List.mem_map.2 ⟨a,ha,rfl⟩)).1
   have h2:a.2.1.map ChV.er= []:=h1
   simpa using h2
  have e:Z1 (fun l y=>Jo assoc n (d+1) l y) ((Za2 x).map ExV.er) (l - 1)=Z1 (fun l y=>Jo assoc n (d+1) l y) (Za2 x) (l - 1):=Zid _ _ (fun l y hy=>by
   refine ZkM t h assoc n k (d+1) l y ?_
   rw[Za2,List.mem_append]at hy
   rcases hy with hy | hy
   ·exact hx.2.2.1 _ (by rw[ExV.er_ls];exact List.mem_map.2 ⟨y,hy,rfl⟩)
   ·obtain⟨L,hL,hyL⟩:=List.mem_flatten.1 hy
    obtain⟨a,ha,rfl⟩:=List.mem_map.1 hL
    rw[asX,hch a ha]at hyL
    obtain rfl:y=a.2.2.2:=by simpa using hyL
    exact(hx.2.2.2.1 a.er (by rw[ExV.er_al];exact List.mem_map.2 ⟨a,ha,rfl⟩)).2)
  rw[Jo,Jo,ZZ,ZZ,Zr7 hk hch,Znx,ZpK,e]
theorem ZlQ {t:Tab} {h:WhV} {k:Nat} {x:ExV} (hx:YW t h k x.er) (n:Nat):QT t h n [x.er]=QT t h n [x]:=by
 have e1:QK ZV x.er=QK ZV x:=by rw[QK,QK,ZkM t h ZV _ k _ _ x hx]
 have e2:YQ t h n x.er=YQ t h n x:=Zgq t h n x
 show(if(!QK ZV x.er || false)=true then(2:Int)else if(YQ t h n x.er || false)=true then 80 else 0)=(if(!QK ZV x || false)=true then(2:Int)else if(YQ t h n x || false)=true then 80 else 0)
 rw[e1,e2]
theorem ZsY.kept {K:Nat} {A B:Array Value} {p:Int→Bool} {w w':World} (h:ZsY K A B p w) (hk:Kept [] w w'):ZsY K A B p w':=⟨h.1,fun W k hk2=>h.2 W k (hk.trans hk2)⟩
theorem ZoN (X:List Nat) (w:World) (v:Zp) (t:Tab) (h:WhV) (m:Nat) (x:ExV) (want:Int) (hT:Zw w v t) (hW:ZmB w h) (hTab:Zf8 w) (hdef:∀y,y∈t.ents→∀q,q∈y.params→q.d.kind=0) (hx:ExD X w x) (hX:∀q,q∈X→q < w.heap.size)
 (hok:YW t h (m+1) x.er) (hsel:Zby (m+1) x.er) (hst:JF (Zcs t h (Qu t h (m+1) x.er) want).1=0→ZbI t (m+1) (Zcs t h (Qu t h (m+1) x.er) want).2):
 Calls prog 10 #[.agg (v.cells t),.agg h.cells.toArray,.agg x.cells.toArray,.int .i64 want] w (ZaU X (m+1) (Yd t h (m+1) x.er want) w):=by
 have HX:=hh hx
 have HXS:=hh hX
 have HAT:=hh (fun W (hk:Kept [] w W)=>ZsK W v t h (hT.kept hk) (hW.kept hk))
 have HTW:=hh hTab
 have HOK:=hh hok
 have HSEL:=hh (ZdV hsel)
 have HST:=hh hst
 have HDEF:=hh hdef
 have HE:Hid (Yd t h (m+1) x.er want=if QT t h (m+1) [x]≠0 then(Zg,QT t h (m+1) [x])else Qq t (m+1) (m+1) (Zcs t h (Qu t h (m+1) x.er) want).1 (Zcs t h (Qu t h (m+1) x.er) want).2 (if 0≤want then want else -1)):=by
  rw[Hid,Yd,ZlQ hok]
 clear hx hX hT hW hTab hok hsel hst hdef
 unfold Zp.cells WhV.cells
 go_enter func10,ntmps10
 go_wp2_with fail
 refine(HAT.out _ kp).mono ?_
 rintro e w1 ⟨R,mr,rfl,hres,_,hk1⟩
 haveI p_w1:Zb w1 _:=⟨hk1⟩
 have HRES:=hh hres
 have hs1:w.heap.size+4≤w1.heap.size:=by have h:=hk1.size;simp at h;omega
 have HK1:Hid (Kept [] w w1):=kp
 haveI b6:Zc w1 (w.heap.size+1+1) 41 x.cells.toArray:=inferInstance
 haveI b8:Zc w1 (w.heap.size+1+1+1) 41 Zg.cells.toArray:=⟨hk1.obj Zc.has (by simp)⟩
 clear hres hk1 p_w1 HAT
 haveI p_w1:Zb w1 w:=⟨HK1.out⟩
 have HCK:=hh (fun(W:World) (b:Nat) (hk:Kept [] w1 W) (hb:W.heap[b]? =some (.cells x.cells.toArray 41 (0,0)))=>ZlP R mr v t h (m+1) W (some ⟨b,0,none⟩) 1 [x] (fun y hy=>by obtain rfl:=List.mem_singleton.1 hy;exact HSEL.out) (HRES.out.kept hk) (YJ (by simpa using hb) ExV.len) (by simp) (fun y hy=>by obtain rfl:=List.mem_singleton.1 hy;exact(HX.out.kept (HK1.out.trans hk)).imp fun _ h=>h.sub (by simp)) (HTW.out.kept (HK1.out.trans hk)))
 generalize QT t h (m+1) [x]=c at*
 go_wp2_with fail
 refine(HCK.out _ _ kp (Zf rfl)).mono ?_
 rintro e w2 ⟨rfl,hk2⟩
 haveI p_w2:Zb w2 _:=⟨hk2⟩
 have hs2:w.heap.size+4≤w2.heap.size:=Nat.le_trans hs1 (Kept.size (X:=[]) kp)
 clear hk2 HCK
 by_cases hc:c=0
 ·have hc':(c != 0)=false:=by simp[hc]
  have hex:Yd t h (m+1) x.er want=Qq t (m+1) (m+1) (Zcs t h (Qu t h (m+1) x.er) want).1 (Zcs t h (Qu t h (m+1) x.er) want).2 (if 0≤want then want else -1):=by rw[HE.out,if_neg (by simp[hc])]
  have HEX:=hh hex
  clear HE hex
  go_wp2_with fail
  refine(ZnD R mr v t h (Qu t h) (YW t h) (Zt1 R mr v t h HDEF.out) (m+1) ((w.heap.size+1+1+1)::X) _ x HOK.out (HRES.out.kept kp) (HX.out.later kp (fun q hq=>by rcases List.mem_cons.1 hq with rfl | h;exact .inr (by omega);exact .inl h)) (fun q hq=>by rcases List.mem_cons.1 hq with rfl | h;omega;have:=HXS.out q h;omega)).mono ?_
  rintro e w3 ⟨d,rfl,hde,hdm,hdd,hk3⟩
  haveI p_w3:Zb w3 w2:=⟨hk3⟩
  have hms:d.ms.map MeV.er=Qu t h (m+1) x.er:=by rw[hdm.ms,hde]
  have hk9:d.x.kind≠9:=by
   have h1:=HOK.out.kind
   rw[←hde,ExV.er_kind]at h1
   omega
  have HDD:=hh hdd
  have hs3:w.heap.size+4≤w3.heap.size:=Nat.le_trans hs2 hk3.size
  have HR3:Hid (Qo w3 R mr v t h):=HRES.out.kept kp
  clear hde hdm hdd hk3
  have HYS:Hid (∀W q,Kept [] w3 W→q∈(w.heap.size+1+1+1)::X→q < W.heap.size):=fun W q hk hq=>by
   have:=hk.size
   rcases List.mem_cons.1 hq with rfl | h
   ·omega
   ·have:=HXS.out q h;omega
  rw[←hms]at HEX HST
  by_cases hw:0≤want
  ·have hgot:Zcs t h (d.ms.map MeV.er) want=QR t h (d.ms.map MeV.er) want false:=by rw[Zcs,if_pos hw]
   rw[hgot]at HEX HST
   rw[if_pos hw]at HEX
   have HWY:=hh (fun(W:World) (hk:Kept [] w3 W)=>ZdA ((w.heap.size+1+1+1)::X) W R mr v t h d want false (HR3.out.kept hk) (HDD.out.kept hk) (.inl hk9))
   clear hgot hms
   generalize QR t h (d.ms.map MeV.er) want false=g at*
   go_wp2_with fail
   refine(HWY.out _ kp).mono ?_
   rintro e w4 ⟨z,rfl,hze,hzd,hk4⟩
   haveI p_w4:Zb w4 w3:=⟨hk4⟩
   have HCH:Hid (∀W,Kept [] w4 W→Calls prog 33 #[.pointer (some ⟨R,0,none⟩),.int .i64 g.1,.agg z.cells.toArray,.int .i64 want] W (ZaU ((w.heap.size+1+1+1)::X) (m+1) (Yd t h (m+1) x.er want) W)):=fun W hk=>by
    rw[HEX.out,←hze]
    exact Zdt _ W R mr v t h (m+1) m g.1 z want (HR3.out.kept (hk4.trans hk)) (Nat.le_refl _) (fun hv=>ZdJ (by rw[hze];exact HST.out hv)) (hzd.kept hk) (fun q hq=>HYS.out W q (hk4.trans hk) hq)
   clear hze hzd hk4 HWY HEX HST
   generalize Yd t h (m+1) x.er want=r at*
   go_wp2_with fail
   refine(HCH.out _ kp).mono ?_
   rintro e w6 ⟨z6,rfl,hz6,hzk6,hk6⟩
   haveI p_w6:Zb w6 _:=⟨hk6⟩
   have HZ6:=hh hz6
   have HZK6:=hh hzk6
   clear hz6 hzk6 hk6 HCH
   go_wp2_with fail
   exact bodyPost_ret (v:= .tuple #[.agg z6.cells.toArray,.int .i64 r.2]) (Qm results10 (Z0 rfl inferInstance) (Zh rfl)) rfl ⟨z6,rfl,HZ6.out,(HZK6.out.less (Y:=[w.heap.size+1+1+1]) (Kept.setRow _ _ _ (by simp)) (by simp)).sub (fun q hq=>by simp[hq]),kp⟩
  ·have hgot:Zcs t h (d.ms.map MeV.er) want=QS (ZsQ t h want) (d.ms.map MeV.er):=by rw[Zcs,if_neg hw]
   rw[hgot]at HEX HST
   rw[if_neg hw]at HEX
   have HAC:=hh (fun(W:World) (hk:Kept [] w3 W)=>Zhz W R mr v t h want (HR3.out.kept hk))
   clear hgot hms
   go_wp2_with fail
   refine(HAC.out _ kp).mono ?_
   rintro e w4 ⟨K,A,B,rfl,hmy,hk4⟩
   haveI p_w4:Zb w4 w3:=⟨hk4⟩
   have HMY:=hh hmy
   have HKP:=hh hk4
   clear hmy hk4 HAC
   have HCH:Hid (∀W C,Kept [] w4 W→W.heap[C]? =some (.cells #[.func (.func K) A B] 110 (0,0))→Calls prog 35 #[.pointer (some ⟨R,0,none⟩),.pointer (some ⟨d.p,0,none⟩),.func (.func 36) #[] #[.pointer (some ⟨C,0,none⟩)]] W (ZaU ((w.heap.size+1+1+1)::X) (m+1) (Yd t h (m+1) x.er want) W)):=fun W C hk hC=>by
    rw[HEX.out]
    exact Znk _ W R mr v t h (m+1) m d _ _ _ _ (HR3.out.kept (HKP.out.trans hk)) (Nat.le_refl _) (HDD.out.kept (HKP.out.trans hk)) (fun q hq=>HYS.out W q (HKP.out.trans hk) hq) Tryz.entersExpr1 (fun W2 μ hk2=>by
     haveI bC:Zc W2 C 110 #[.func (.func K) A B]:=⟨hk2.obj hC (by simp)⟩
     exact Zlg W2 μ C K A B _ (HMY.out.kept (hk.trans hk2))) HST.out
   clear HEX HST HMY HKP
   generalize Yd t h (m+1) x.er want=r at*
   go_wp2_with fail
   refine(HCH.out _ _ kp Zc.has).mono ?_
   rintro e w6 ⟨z6,rfl,hz6,hzk6,hk6⟩
   haveI p_w6:Zb w6 _:=⟨hk6⟩
   have HZ6:=hh hz6
   have HZK6:=hh hzk6
   clear hz6 hzk6 hk6 HCH
   go_wp2_with fail
   exact bodyPost_ret (v:= .tuple #[.agg z6.cells.toArray,.int .i64 r.2]) (Qm results10 (Z0 rfl inferInstance) (Zh rfl)) rfl ⟨z6,rfl,HZ6.out,(HZK6.out.less (Y:=[w.heap.size+1+1+1]) (Kept.setRow _ _ _ (by simp)) (by simp)).sub (fun q hq=>by simp[hq]),kp⟩
 ·have hc':(c != 0)=true:=by simp[hc]
  have HO:=hh (show Yd t h (m+1) x.er want=(Zg,c) by rw[HE.out,if_pos hc])
  clear HE
  go_wp2_with fail
  refine bodyPost_ret (v:= .tuple #[.agg Zg.cells.toArray,.int .i64 c]) (Qm results10 (Z0 rfl inferInstance) (Zh rfl)) rfl ⟨Zg,by rw[HO.out],by rw[HO.out];exact YD,(ZbU X _).mono (by omega),kp⟩
def Zqm:Array Value:=#[.slice none 0 0,.slice none 0 0,.slice none 0 0,.slice none 0 0,.slice none 0 0]
theorem ZC {α:Type} {P:Program} (cells:α→List Value) (m:Nat) (hm:∀r,(cells r).length=m) (h0:0 < m) (l:List α) {ops:Array Oper} {rest:List Oper} {o:Oper} {a:Act} {w:World} {Q:Exit→Act→World→Prop}
 (hg:o.guard=none) (t e:TypeId) (len:Nat) (parts:Array (Nat×Operand)) (ho:o.op= .buildSlice t len parts) (ie:TypeInfo) (hu:P.underlying t=some (.slice e)) (hie:P.info? e=some ie) (hz:(ie.zero).isSome=true) (hs:ie.size=m)
 (hlen:len=l.length) (hpos:0 < len) (hsmall:len*m≤2 ^ 24)
 (hp:parts.toList.map (fun x=>(x.1,a.eval x.2))=((l.map fun r=>Value.agg (cells r).toArray).zipIdx 0).map fun x=>(x.2,x.1))
 (h:∀k,k=w.heap.size→wpList P ops Q rest (a.put o.dst (.slice (some ⟨k,0,none⟩) len len)) (w.alloc (.cells (l.map cells).flatten.toArray e))):wpList P ops Q (o::rest) a w:=by
 obtain⟨z,hzz⟩:=Option.isSome_iff_exists.1 hz
 refine Go.wpList_buildSlice hg t e len parts ho (l.map cells).flatten.toArray ie z hu hie hzz (by rw[hs];omega) ?_ ?_ (h _ rfl)
 ·rw[hs]
  exact Nat.ne_of_gt (Nat.mul_pos hpos h0)
 ·rw[Array.toList_map]
  rw[show parts.toList.map (fun x:Nat×Operand=>(x.1,a.eval x.2))=_ from hp,hs]
  have:=Great.fill_whole h0 (l.map fun r=>Value.agg (cells r).toArray) ((Array.range (len*m)).map (z.cells[· % z.cells.size]!)) (fun v hv=>by obtain⟨r,_,rfl⟩:=List.mem_map.1 hv;simp[Value.cells,hm]) (by simp[hlen])
  rw[this]
  congr 2
  rw[List.flatMap_map,←List.flatMap_def]
  simp[Value.cells]
theorem Y7 {P:Program} (vs:List Value) (h1:∀v∈vs,v.cells= #[v]) {ops:Array Oper} {rest:List Oper} {o:Oper} {a:Act} {w:World} {Q:Exit→Act→World→Prop}
 (hg:o.guard=none) (t e:TypeId) (len:Nat) (parts:Array (Nat×Operand)) (ho:o.op= .buildSlice t len parts) (ie:TypeInfo) (hu:P.underlying t=some (.slice e)) (hie:P.info? e=some ie) (hz:(ie.zero).isSome=true) (hs:ie.size=1)
 (hlen:len=vs.length) (hpos:0 < len) (hsmall:len≤2 ^ 24)
 (hp:parts.toList.map (fun x=>(x.1,a.eval x.2))=(vs.zipIdx 0).map fun x=>(x.2,x.1))
 (h:∀k,k=w.heap.size→wpList P ops Q rest (a.put o.dst (.slice (some ⟨k,0,none⟩) len len)) (w.alloc (.cells vs.toArray e))):wpList P ops Q (o::rest) a w:=by
 obtain⟨z,hzz⟩:=Option.isSome_iff_exists.1 hz
 refine Go.wpList_buildSlice hg t e len parts ho vs.toArray ie z hu hie hzz (by rw[hs];omega) (by rw[hs];omega) ?_ (h _ rfl)
 rw[Array.toList_map]
 rw[show parts.toList.map (fun x:Nat×Operand=>(x.1,a.eval x.2))=_ from hp,hs]
 exact Great.fill_flat vs _ h1 (by simp[hlen])
def ZK (k:Int) (n:ByteArray):Zx:={Yu with kind:=k,name:=n,t:=-1,sub:=-1,of_:=-1,body:=true,final:=-1,unit:=-1}
def ZuB (x:Zx) (w:World) (e:Ending) (w':World):Prop:=e= .returned (.agg x.cells.toArray)∧Kept [] w w'
theorem Zfg {w:World} {B:Nat} {x:Zx} {tmps:Array Value} (h4:tmps.getD 4 undef= .pointer (some ⟨B,0,none⟩)) (hr:w.rangeAt B 0 x.cells):
 (results Tryz.f28 tmps).run prog w= .ok (.agg x.cells.toArray) w:=by
 simp only[Array.getD_eq_getD_getElem?]at h4
 simp[results,results28,h4,asAddr,Sem.run_bind,run_loadVar_mid w B 0 95 x.cells _ hr underlying95 rfl (Tryz.infoEnt x)]
theorem Zcg (w:World) (k:Int) (n:ByteArray):Calls prog 28 #[.int .u8 k,.string n] w (ZuB (ZK k n) w):=by
 go_enter func28,ntmps28
 go_wp2_with (refine ZY rfl 95 (.tmp 4) (.tmp 7) rfl _ (ZK k n).cells.toArray w.heap.size rfl rfl rfl (Tryz.infoEnt _) rfl (Zx.one _) ?_)
 refine bodyPost_ret (Zfg (x:=ZK k n) rfl (Zx.range (Zf (o:= .cells (ZK k n).cells.toArray 95) rfl))) rfl ?_
 exact⟨rfl,Kept.alloc _ _ _⟩
def Qx (k:Int) (n:ByteArray) (first:Int) (la:Option Addr) (lc:Nat) (lits:List ByteArray):TyV:=
 ⟨k,n,-1,first,la,lc,lits,-1,-1,-1,⟨#[]⟩,false,0,none,0,[],-1,0,false,-1,0,0⟩
def Zuu (y:TyV) (w:World) (e:Ending) (w':World):Prop:=e= .returned (.agg y.cells.toArray)∧Kept [] w w'
theorem TyV.range {w:World} {b:Nat} {x:TyV} (h:w.heap[b]? =some (.cells x.cells.toArray 86 (0,0))):w.rangeAt b 0 x.cells:=fun j u hu=>by
 rw[Nat.zero_add,cell_of_row _ _ _ _ _ _ h]
 simpa using hu
structure KpS (n:Nat) (w w':World):Prop where
 os:w'.os=w.os
 tape:w'.tape=w.tape
 output:w'.output=w.output
 size:w.heap.size≤w'.heap.size
 block:∀k o,w.heap[k]? =some o→(k < n∨∃c ty fr,o= .cells c ty fr∧ty≠95∧ty≠30)→w'.heap[k]? =some o
theorem KpS.refl (n:Nat) (w:World):KpS n w w:=⟨rfl,rfl,rfl,Nat.le_refl _,fun _ _ h _=>h⟩
theorem KpS.trans {n:Nat} {a b c:World} (h:KpS n a b) (k:KpS n b c):KpS n a c:=
 ⟨k.os.trans h.os,k.tape.trans h.tape,k.output.trans h.output,Nat.le_trans h.size k.size,fun i o hi hx=>k.block i o (h.block i o hi hx) hx⟩
theorem KpS.of_kept {n:Nat} {a b:World} (h:Kept [] a b):KpS n a b:=⟨h.os,h.tape,h.output,h.size,fun i o hi _=>h.obj hi (by simp)⟩
theorem KpS.of_grown {n:Nat} {a b:World} {row:Option Nat} (h:a.grownBy b row) (hr:∀k,row=some k→k < a.heap.size→n≤k∧∃c fr,a.heap[k]? =some (.cells c 95 fr)):KpS n a b:=
 ⟨h.os,h.tape,h.output,h.size,fun i o hi hx=>(h.block i (Array.getElem?_eq_some_iff.1 hi).1 (fun e=>by
  obtain⟨h1,c,fr,h2⟩:=hr i e.symm (Array.getElem?_eq_some_iff.1 hi).1
  rcases hx with hx | ⟨c',ty,fr',rfl,h3,_⟩
  ·omega
  ·rw[hi]at h2
   simp only[Option.some.injEq,Obj.cells.injEq]at h2
   exact h3 h2.2.1)).trans hi⟩
theorem KpS.setCell {n:Nat} (W:World) (a:Addr) (v:Value) {c:Array Value} {ty:TypeId} {fr:Nat×Nat} (hB:W.heap[a.block]? =some (.cells c ty fr)) (hn:n≤a.block) (hty:ty=95∨ty=30):KpS n W (W.setCell a v):=
 ⟨rfl,rfl,rfl,by simp,fun k o hk hx=>(heap_setCell_other W a k v (by
  rintro rfl
  rcases hx with hx | ⟨c',ty',fr',rfl,h1,h2⟩
  ·omega
  ·rw[hB]at hk
   simp only[Option.some.injEq,Obj.cells.injEq]at hk
   obtain⟨_,rfl,_⟩:=hk
   rcases hty with h | h
   ·exact h1 h
   ·exact h2 h)).trans hk⟩
theorem KpS.kept {n:Nat} {w w0 W:World} (h0:Kept [] w w0) (h:KpS n w0 W) (hn:w.heap.size≤n):Kept [] w W:=
 ⟨h.os.trans h0.os,h.tape.trans h0.tape,h.output.trans h0.output,Nat.le_trans h0.size h.size,fun k hk _=>by
  obtain⟨o,ho⟩:∃o,w.heap[k]? =some o:=⟨_,Array.getElem?_eq_getElem hk⟩
  rw[ho]
  exact h.block k o (h0.obj ho (by simp)) (.inl (by omega))⟩
theorem KpS.mono {m n:Nat} {w W:World} (h:KpS n w W) (hm:m≤n):KpS m w W:=
 ⟨h.os,h.tape,h.output,h.size,fun k o hk hx=>h.block k o hk (hx.imp_left (fun h=>by omega))⟩
theorem Qj {W:World} {base e size n:Nat} {v:Value} {xs:List Value} (h:W.ownsRow base e size v n xs) {k:Nat} (hk:v.ownBlock=some k):∃c,W.heap[k]? =some (.cells c e (0,0)):=by
 rcases h.2 with⟨rfl,hn⟩ | ⟨g,cap,cur,rfl,hb,hg,rest⟩
 ·cases hk
 ·cases hk
  exact⟨_,hg⟩
structure ZrA (w:World) (n B:Nat) (v:Zp) (t:Tab):Prop where
 box:w.heap[B]? =some (.cells (v.cells t) 30 (0,0))
 own:w.ownsRow n 95 22 (.slice v.ea t.ents.length v.ec) t.ents.length (t.ents.map Zx.cells).flatten
 hn:n≤B
theorem Zog:(prog.info? 95).map (fun i=>(i.zero,i.size,i.bytes))=some (some (.agg Yu.cells.toArray),22,176):=by kernel_rfl
def Zbj (k:Int) (n:ByteArray) (ty sub val:Int) (pa:Option Addr) (pc:Nat) (ps:List Zd):Zx:={ZK k n with t:=ty,sub:=sub,value:=val,pa:=pa,pc:=pc,params:=ps}
def J5 (kl:Nat):List TyV:=[Qx 1 ⟨#[]⟩ (-1) none 0 [],Qx 2 ⟨#[73,110,116,101,103,101,114]⟩ 0 none 0 [],Qx 3 ⟨#[66,111,111,108,101,97,110]⟩ 1 (some ⟨kl,0,none⟩) 2 [⟨#[70,97,108,115,101]⟩,⟨#[84,114,117,101]⟩],Qx 2 ⟨#[84,105,109,101]⟩ 2 none 0 []]
def Yh:List ZL:=[⟨1,-2147483648,2147483647⟩,⟨2,0,1⟩,⟨3,0,2147483647⟩,⟨1,0,2147483647⟩,⟨1,1,2147483647⟩]
def ZcW (m:Int):Zd:=⟨⟨#[88]⟩,m,0,Zg,-1⟩
def ZuN:Zx:=Zbj 1 ⟨#[83,116,97,110,100,97,114,100]⟩ (-1) (-1) 0 none 0 []
def ZrN:List Zx:=[{ZuN with owner:=-1},Zbj 5 ⟨#[73,110,116,101,103,101,114]⟩ 1 0 0 none 0 [],
 Zbj 5 ⟨#[66,111,111,108,101,97,110]⟩ 2 1 0 none 0 [],
 Zbj 10 ⟨#[70,97,108,115,101]⟩ 2 (-1) 0 none 0 [],
 Zbj 10 ⟨#[84,114,117,101]⟩ 2 (-1) 1 none 0 [],
 Zbj 5 ⟨#[84,105,109,101]⟩ 3 2 0 none 0 [],
 Zbj 6 ⟨#[78,97,116,117,114,97,108]⟩ 1 3 0 none 0 [],
 Zbj 6 ⟨#[80,111,115,105,116,105,118,101]⟩ 1 4 0 none 0 [],
 Zbj 11 ⟨#[67,111,110,115,116,114,97,105,110,116,95,69,114,114,111,114]⟩ (-1) (-1) 1 none 0 [],
 Zbj 11 ⟨#[80,114,111,103,114,97,109,95,69,114,114,111,114]⟩ (-1) (-1) 2 none 0 [],
 Zbj 11 ⟨#[84,97,115,107,105,110,103,95,69,114,114,111,114]⟩ (-1) (-1) 3 none 0 [],
 Zbj 11 ⟨#[69,110,100,95,69,114,114,111,114]⟩ (-1) (-1) 4 none 0 []]
def ZuP (k1:Nat):Zx:=Zbj 3 ⟨#[80,117,116]⟩ (-1) (-1) 0 (some ⟨k1,0,none⟩) 1 [ZcW 1]
def Zu0 (k2:Nat):Zx:=Zbj 3 ⟨#[71,101,116]⟩ (-1) (-1) 0 (some ⟨k2,0,none⟩) 1 [ZcW 2]
def Zpw:Zx:=Zbj 4 ⟨#[67,108,111,99,107]⟩ 3 2 0 none 0 []
def Qy (k1 k2:Nat):List Zx:=ZrN++ [ZuP k1,Zu0 k2,Zpw]
def ZrM (kl k1 k2:Nat):Tab:=⟨J5 kl,Yh,Qy k1 k2⟩
structure ZcJ (w:World) (v:Zp) (kl k1 k2:Nat):Prop where
 ty:∃kt,v.ta=some ⟨kt,0,none⟩∧v.tc=4∧w.heap[kt]? =some (.cells ((J5 kl).map TyV.cells).flatten.toArray 86 (0,0))
 sb:∃ks,v.sa=some ⟨ks,0,none⟩∧v.sc=5∧w.heap[ks]? =some (.cells (Yh.map ZL.cells).flatten.toArray 88 (0,0))
 lit:w.heap[kl]? =some (.cells #[.string ⟨#[70,97,108,115,101]⟩,.string ⟨#[84,114,117,101]⟩] 9 (0,0))
 p1:w.heap[k1]? =some (.cells ([ZcW 1].map Zd.cells).flatten.toArray 98 (0,0))
 p2:w.heap[k2]? =some (.cells ([ZcW 2].map Zd.cells).flatten.toArray 98 (0,0))
theorem ZcJ.kps {n:Nat} {w w':World} {v:Zp} {kl k1 k2:Nat} (h:ZcJ w v kl k1 k2) (hk:KpS n w w'):ZcJ w' v kl k1 k2:=by
 obtain⟨⟨kt,h1,h2,h3⟩,⟨ks,h4,h5,h6⟩,h7,h8,h9⟩:=h
 exact⟨⟨kt,h1,h2,hk.block _ _ h3 (.inr ⟨_,_,_,rfl,by decide,by decide⟩)⟩,⟨ks,h4,h5,hk.block _ _ h6 (.inr ⟨_,_,_,rfl,by decide,by decide⟩)⟩,hk.block _ _ h7 (.inr ⟨_,_,_,rfl,by decide,by decide⟩),hk.block _ _ h8 (.inr ⟨_,_,_,rfl,by decide,by decide⟩),hk.block _ _ h9 (.inr ⟨_,_,_,rfl,by decide,by decide⟩)⟩
theorem ZcJ.ents {w:World} {v:Zp} {kl k1 k2:Nat} (h:ZcJ w v kl k1 k2) (ea:Option Addr) (ec:Nat):ZcJ w {v with ea:=ea,ec:=ec} kl k1 k2:=⟨h.ty,h.sb,h.lit,h.p1,h.p2⟩
theorem Znn:(prog.info? 98).map (fun i=>(i.zero.isSome,i.size,i.bytes))=some (true,13,144):=by kernel_rfl
theorem ZjY:(prog.info? 86).map (fun i=>(i.zero.isSome,i.size,i.bytes))=some (true,18,184):=by kernel_rfl
theorem ZmQ:(prog.info? 88).map (fun i=>(i.zero.isSome,i.size,i.bytes))=some (true,3,24):=by kernel_rfl
theorem ZmR:(prog.info? 9).map (fun i=>(i.zero.isSome,i.size,i.bytes))=some (true,1,16):=by kernel_rfl
theorem YM {P:Program} {t:TypeId} {z:Bool} {s b:Nat} (h:(P.info? t).map (fun i=>(i.zero.isSome,i.size,i.bytes))=some (z,s,b)):∃i,P.info? t=some i∧i.zero.isSome=z∧i.size=s∧i.bytes=b:=by
 cases hi:P.info? t with
 | none=>simp[hi]at h
 | some i=>simp[hi]at h;exact⟨i,rfl,h⟩
def atE (v:Zp) (ea:Option Addr) (ec:Nat):Zp:={v with ea:=ea,ec:=ec}
def Zs2 (kl:Nat) (l:List Zx):Tab:=⟨J5 kl,Yh,l⟩
theorem ZrA.alloc {w:World} {n B:Nat} {v:Zp} {t:Tab} (h:ZrA w n B v t) (o:Obj):ZrA (w.alloc o) n B v t:=⟨Zr h.box (Array.getElem?_eq_some_iff.1 h.box).1,h.own.alloc o,h.hn⟩
theorem Zff {w:World} {B:Nat} {x:TyV} {tmps:Array Value} (h4:tmps.getD 6 undef= .pointer (some ⟨B,0,none⟩)) (hr:w.rangeAt B 0 x.cells):
 (results Tryz.f56 tmps).run prog w= .ok (.agg x.cells.toArray) w:=by
 simp only[Array.getD_eq_getD_getElem?]at h4
 simp[results,results56,h4,asAddr,Sem.run_bind,run_loadVar_mid w B 0 86 x.cells _ hr underlying86 rfl (Tryz.infoTy x)]
theorem Zax (w:World) (k:Int) (n:ByteArray) (first:Int):
 Calls prog 56 #[.int .u8 k,.string n,.int .i64 first] w (Zuu (Qx k n first none 0 []) w):=by
 go_enter func56,ntmps56
 go_wp2_with (refine ZY rfl 86 (.tmp 6) (.tmp 10) rfl _ (Qx k n first none 0 []).cells.toArray w.heap.size rfl rfl rfl (Tryz.infoTy _) rfl (TyV.one _) ?_)
 refine bodyPost_ret (Zff (x:=Qx k n first none 0 []) rfl (TyV.range (Zf (o:= .cells (Qx k n first none 0 []).cells.toArray 86) rfl))) rfl ?_
 exact⟨rfl,Kept.alloc _ _ _⟩
section
variable {P:Program} {md:Region.Mode} {ops:Array Oper} {Q:Exit→Act→World→Prop} {S:World→Prop} {N:Nat}
def Qh (P:Program) (md:Region.Mode) (ops:Array Oper) (Q:Exit→Act→World→Prop) (S:World→Prop) (N:Nat):Nat→Array Bool→Act→World→Prop
 | 0,done,a,w=>Region.ready md ops done= []∧Q .normal a w
 | k+1,done,a,w=>(Region.ready md ops done= []→Q .normal a w)∧
  ∀i,i∈Region.ready md ops done→wpOp P ops Q i (fun a' w'=>(i≠N→S w')∧Qh P md ops Q S N k (done.setIfInBounds i true) a' w') a w
theorem Qh.any:∀(k:Nat) (done:Array Bool) (a:Act) (w:World),Qh P md ops Q S N k done a w→wpAny P md ops Q k done a w
 | 0,_,_,_,h=>h
 | k+1,_,_,_,h=>⟨h.1,fun i hi=>wpOp_mono (fun a' w' h'=>Qh.any k _ a' w' h'.2) (h.2 i hi)⟩
theorem Y8 {i j:Nat} {done:Array Bool} (hi:i∈Region.ready md ops done) (hj:j∈Region.ready md ops done) {o:Oper} (ho:ops[j]? =some o):∀e∈o.after,Region.binds md e=true→e.on≠i:=by
 intro e he hb hei
 obtain⟨_,o',ho',hall⟩:=mem_ready.1 hj
 rw[ho]at ho'
 cases ho'
 have h1:=hall e he hb
 have h0:=(mem_ready.1 hi).1
 rw[hei]at h1
 by_cases h':i < done.size
 ·simp[h']at h0 h1
  rw[h0]at h1
  cases h1
 ·rw[Array.getD_eq_getD_getElem?,Array.getElem?_eq_none (by omega)]at h1
  cases h1
theorem ZiZ {i j:Nat} {done:Array Bool} (hw:Region.waitsFor md ops N i=true) (hi:i∈Region.ready md ops done) (hj:j∈Region.ready md ops done):j≠N:=by
 rintro rfl
 obtain⟨o,ho,e,he,hb,hei⟩:=Region.waitsFor_spec hw
 exact Y8 hi hj ho e he hb hei
theorem Qh.first {i:Nat} {oi:Oper} {v:Value} (hi:ops[i]? =some oi) (hsel:∀(j:Nat) (o:Oper) cs b,ops[j]? =some o→o.op≠ .select cs b)
 (hQ:∀c a w,Q (.panic c) (a.put oi.dst v) w→Q (.panic c) a w) (hN:Region.waitsFor md ops N i=true):
 ∀(k:Nat) (done:Array Bool) (a:Act) (w:World),
  (∀j oj,ops[j]? =some oj→j≠i→done.getD j true=false→(∀e∈oj.after,Region.binds md e=true→e.on≠i)→oi.apart ops oj=true)→
  i∈Region.ready md ops done→YieldsIf P ops S oi v a→S w→
  Qh P md ops Q S N k (done.setIfInBounds i true) (a.put oi.dst v) w→Qh P md ops Q S N (k+1) done a w:=by
 intro k
 induction k with
 | zero=>
  intro done a w _ hr hy hS H
  refine⟨fun h=>by simp[h]at hr,fun j hj=>?_⟩
  by_cases e:j=i
  ·subst e;exact hy.wpOp hi hS ⟨fun _=>hS,H⟩
  ·have:=ready_mono hj e
   simp[H.1]at this
 | succ k ih=>
  intro done a w hfree hr hy hS H
  refine⟨fun h=>by simp[h]at hr,fun j hj=>?_⟩
  by_cases e:j=i
  ·subst e;exact hy.wpOp hi hS ⟨fun _=>hS,H⟩
  ·have hl:=ZiZ hN hr hj
   obtain⟨hun,oj,hoj,_⟩:=mem_ready.1 hj
   have hap:=hfree j oj hoj e hun (Y8 hr hj hoj)
   refine wpOp_mono (fun a' w' h3=>?_) (wpOp_putIf hoj hap (fun cs b=>hsel i oi cs b hi) (fun cs b=>hsel j oj cs b hoj) hQ hy (H.2 j (ready_mono hj e)))
   obtain⟨hy',hS',H'⟩:=h3
   refine⟨hS',ih _ a' w' (fun m om hm hmi hmu hno=>?_) (ready_mono hr (fun x=>e x.symm)) hy' (hS' hl) (by rw[Array.setIfInBounds_comm _ _ e];exact H')⟩
   refine hfree m om hm hmi ?_ hno
   by_cases hjm:j=m
   ·subst hjm;exact hun
   ·rwa [getD_set_ne true hjm]at hmu
theorem Qh.take {i:Nat} {oi:Oper} {v:Value} {k:Nat} {done:Array Bool} {a:Act} {w:World} (hi:ops[i]? =some oi)
 (hs:Region.noSelect ops=true) (hf:Region.free md ops done i=true) (hr:(Region.ready md ops done).contains i=true) (hN:Region.waitsFor md ops N i=true)
 (hQ:∀c a w,Q (.panic c) (a.put oi.dst v) w→Q (.panic c) a w) (hy:YieldsIf P ops S oi v a) (hS:S w)
 (h:Qh P md ops Q S N k (done.setIfInBounds i true) (a.put oi.dst v) w):Qh P md ops Q S N (k+1) done a w:=
 Qh.first hi (Region.noSelect_spec hs) hQ hN k done a w (Region.free_spec hi hf) (by simpa using hr) hy hS h
theorem Qh.one {i:Nat} {o:Oper} {k:Nat} {done:Array Bool} {a:Act} {w:World} (hi:ops[i]? =some o) (hr:Region.ready md ops done= [i])
 (h:∀K':Act→World→Prop,Shut (∀a w,(i≠N→S w)→((i≠N→S w)→Qh P md ops Q S N k (done.setIfInBounds i true) a w)→K' a w)→if Region.wanted o (yielded ops a.tmps)=true then Oper.wp P o a w K' Q else K' (a.put o.dst undef) w):
 Qh P md ops Q S N (k+1) done a w:=
 ⟨fun h0=>(by rw[hr]at h0;cases h0),fun j hj=>by
  rw[hr]at hj
  simp at hj
  subst hj
  exact wpOp_step hi (fun K' hK=>h K' (fun a w hS hW=>hK a w ⟨hS,hW hS⟩))⟩
theorem Qh.done {done:Array Bool} {a:Act} {w:World} (hr:Region.ready md ops done= []) (h:Q .normal a w):∀k,Qh P md ops Q S N k done a w
 | 0=>⟨hr,h⟩
 | _+1=>⟨fun _=>h,by rw[hr];simp⟩
theorem Zdy {id:Nat} {a:Act} {w:World} (S:World→Prop) (N:Nat) (hm:P.follows .mixedOrders=true) (hS:S w.drew)
 (h:S w.drew→Qh P .any ops Q S N ops.size (Array.replicate ops.size false) a w.drew):(Code.region id ops true).wp P Q a w:=
 wp_region_any hm (Qh.any _ _ _ _ (h hS))
end
end
end Go.Proofs.YtfaecpkocgcofaaGreatDoor
