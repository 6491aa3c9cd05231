/- Lemmas for ResolveSettles, printed small: N12 N13. -/
import Derived.Test.YtfaecpkocgcofaaGreatDoorZ27
set_option linter.all false
set_option maxRecDepth 100000
set_option maxHeartbeats 8000000
open Go.Proofs.Tryz
namespace Go.Proofs.YtfaecpkocgcofaaGreatDoor
section
open Go.RowKit
def SZ.ev (X:List Nat) (base:Nat) (n:Int) (es:List ExV):SZ:=⟨fun Z v w=>∃(u:Value) (zs:List ExV),v= .tuple #[.int .i64 n,u]∧Jy w base u zs∧zs.map ExV.er=es∧∀z,z∈zs→ExD (Qd u X++Z) w z,
 fun _ _ _ _ _ ⟨u,zs,h1,h2,h3,h4⟩ hk _ hz=>⟨u,zs,h1,h2.keep hk (fun _ _=>by simp),h3,fun z hz2=>(h4 z hz2).z hk hz⟩⟩
theorem SZ.ev_p (X:List Nat) (base:Nat) (n:Int) (es:List ExV) (Z:List Nat) (v:Value) (w:World):(SZ.ev X base n es).p Z v w=∃(u:Value) (zs:List ExV),v= .tuple #[.int .i64 n,u]∧Jy w base u zs∧zs.map ExV.er=es∧∀z,z∈zs→ExD (Qd u X++Z) w z:=rfl
def SZ.xs (X:List Nat) (base:Nat) (es:List ExV):SZ:=⟨fun Z u w=>∃(zs:List ExV),Jy w base u zs∧zs.map ExV.er=es∧∀z,z∈zs→ExD (Qd u X++Z) w z,
 fun _ _ _ _ _ ⟨zs,h2,h3,h4⟩ hk _ hz=>⟨zs,h2.keep hk (fun _ _=>by simp),h3,fun z hz2=>(h4 z hz2).z hk hz⟩⟩
theorem SZ.xs_p (X:List Nat) (base:Nat) (es:List ExV) (Z:List Nat) (u:Value) (w:World):(SZ.xs X base es).p Z u w=∃(zs:List ExV),Jy w base u zs∧zs.map ExV.er=es∧∀z,z∈zs→ExD (Qd u X++Z) w z:=rfl
def Zjd (may:Int→Bool) (op:Int) (x:ExV) (ev:Int→Int×List ExV) (ty:Int):MeV:=
 if may ty then⟨if ZN op then 2 else ty,(ev ty).1,false,ZfB x (if ZN op then 2 else ty) (ev ty).2⟩else⟨0,0,false,Zg⟩
theorem Zoi (X:List Nat) (w:World) (R K:Nat) (may:Int→Bool) (d:NdV) (ty:Int) (G:NdV→Int→Int×ExV) (hd:NdT X w d) (hX:∀q,q∈X→q < w.heap.size) (hl:d.parts.length≤61) (hG:∀y,y∈d.parts→0≤(G y ty).1∧(G y ty).1≤2) (B1 B2 B3:Nat)
 [i1:Zc w B1 110 #[.func (.func K) #[.pointer (some ⟨R,0,none⟩)] #[]]] [i2:Zc w B2 102 #[.pointer (some ⟨R,0,none⟩)]] [i3:Zc w B3 105 #[.pointer (some ⟨d.p,0,none⟩)]]
 (hM:∀W n,Kept [] w W→Calls prog K #[.pointer (some ⟨R,0,none⟩),.int .i64 n] W (ZE (.bool (may n)) W)) (eg:∀args w,(callFunc K args).run prog w= .ok (.enter K args) w)
 (hW:∀y W Y,y∈d.parts→Kept [] w W→(∀q,q∈Y→q∈X∨w.heap.size≤q)→(∀q,q∈Y→q < W.heap.size)→
  Calls prog 32 #[.pointer (some ⟨R,0,none⟩),.pointer (some ⟨y.p,0,none⟩),.int .i64 ty,.bool false] W (Zjn Y (G y ty) W)):
 Calls prog 125 (#[.int .i64 ty]++ #[.pointer (some ⟨B1,0,none⟩),.pointer (some ⟨B2,0,none⟩),.pointer (some ⟨B3,0,none⟩)]) w (ZoL X (Zjd may d.x.er.oper d.x.er (fun ty=>(evN (fun y=>G y ty) d.parts,evL (fun y=>G y ty) d.parts)) ty) w):=by
 have HX:=hh hX
 have HND:=hh hd
 have HM:=hh hM
 have HCO:=hh (fun w' o=>JO w' o)
 obtain⟨n0,hn0⟩:=hd.here
 haveI bd:=hn0.is
 have HEV:Hid (∀W Y,Kept [] w W→(∀q,q∈Y→q∈X∨w.heap.size≤q)→(∀q,q∈Y→q < W.heap.size)→Calls prog 43 #[.pointer (some ⟨R,0,none⟩),.slice d.pa d.parts.length d.pc,.int .i64 ty] W (ZsW Y (evN (fun y=>G y ty) d.parts) (evL (fun y=>G y ty) d.parts) W)):=fun W Y hk hY hYs=>
  ZlA Y W R ty d.pa d.pc d.parts (fun y=>G y ty) (by
   obtain⟨n1,hn1⟩:=(hd.kept hk).here
   exact hn1.2.2.2.2.2.1) hl hG hYs (fun y W' Y' hy hk' hY' hYs'=>hW y W' Y' hy (hk.trans hk') (fun q hq=>(hY' q hq).elim (fun h=>hY q h) (fun h=> .inr (Nat.le_trans hk.size h))) hYs')
 have HV:Hid (Zjd may d.x.er.oper d.x.er (fun ty=>(evN (fun y=>G y ty) d.parts,evL (fun y=>G y ty) d.parts)) ty=if may ty then⟨if ZN d.x.oper then 2 else ty,evN (fun y=>G y ty) d.parts,false,ZfB d.x.er (if ZN d.x.oper then 2 else ty) (evL (fun y=>G y ty) d.parts)⟩else⟨0,0,false,Zg⟩):=by rw[Hid,ExV.er_oper];rfl
 have HMA:=hh (fun W Y A c ls tt (hk:Kept [] w W) (hY:∀q,q∈Y→q∈X∨w.heap.size≤q) hr hl2 hls=>Zh1 Y W d.x tt A c ls (hd.later hk hY).x hr hl2 hls)
 have HEL:Hid ((evL (fun y=>G y ty) d.parts).length≤61):=by rw[Hid,evL,List.length_map];exact hl
 clear hX hd hM hG hW hn0
 generalize (fun ty=>(evN (fun y=>G y ty) d.parts,evL (fun y=>G y ty) d.parts))=evf at*
 generalize evN (fun y=>G y ty) d.parts=n at*
 generalize evL (fun y=>G y ty) d.parts=es at*
 show Calls prog 125 #[.int .i64 ty,.pointer (some ⟨B1,0,none⟩),.pointer (some ⟨B2,0,none⟩),.pointer (some ⟨B3,0,none⟩)] w _
 cases hm:may ty
 ·have HW:Hid (Zjd may d.x.er.oper d.x.er evf ty=⟨0,0,false,Zg⟩):=by rw[Hid,HV.out,hm];rfl
  go_enter func125,ntmps125
  go_wp2_with fail
  refine nxt (HM.out _ _ kp) fun w1 p_w1=>?_;have hz_w1:=szk w w1
  rw[hm]
  go_wp2_with fail
  exact Ql (m:=⟨0,0,false,Zg⟩) rfl (Zj results125 (Z0 rfl inferInstance)) (by rw[HW.out,MeV.er,YD]) (ZaX _ _) kp
 ·have HW:Hid (Zjd may d.x.er.oper d.x.er evf ty=⟨if ZN d.x.oper then 2 else ty,n,false,ZfB d.x.er (if ZN d.x.oper then 2 else ty) es⟩):=by rw[Hid,HV.out,hm];rfl
  clear HV
  go_enter func125,ntmps125
  go_wp2_with fail
  refine nxt (HM.out _ _ kp) fun w1 p_w1=>?_;have hz_w1:=szk w w1
  have hB5:w.heap.size < w1.heap.size:=Nat.lt_of_lt_of_le (by simp) p_w1.kept.size
  haveI b5:Zc w1 w.heap.size 114 zeroMe.cells.toArray:=Zc.kept (w:=w.alloc (.cells zeroMe.cells.toArray 114)) (by infer_instance) p_w1.kept
  have HK1:Hid (Kept [] w w1):=kp
  haveI p_w1':Zb w1 w:=⟨HK1.out⟩
  rw[hm]
  clear hm
  go_wp2_with fail
  refine Zn [⟨14,[],false,.eq (.pointer (some ⟨R,0,none⟩))⟩,⟨15,[],false,.eq (.pointer (some ⟨d.p,0,none⟩))⟩,⟨16,[15],false,.eq (.pointer (some ⟨d.p,0,none⟩))⟩,⟨17,[16],false,.eq (.pointer (some ⟨d.p,10,none⟩))⟩,⟨18,[17],false,.eq (.slice d.pa d.parts.length d.pc)⟩,⟨19,[],false,.eq (.int .i64 ty)⟩,⟨20,[14,18,19],false,.ev (X++ [w.heap.size]) w1.heap.size n es⟩,⟨13,[20],false,.ev (X++ [w.heap.size]) w1.heap.size n es⟩,⟨21,[13],false,.eq (.int .i64 n)⟩,⟨22,[13],false,.xs (X++ [w.heap.size]) w1.heap.size es⟩,⟨6,[21],false,.eq (.int .i64 n)⟩] (by kernel_rfl) (by kernel_rfl) ?_
  apply Exists.intro
  refine⟨fun vs=>?_,?_⟩
  ·simp only[List.map_cons,List.map_nil,PSz.toP,Jj,Act.put,List.setIfInBounds_toArray,List.set_cons_zero,List.set_cons_succ]
   exact rfl
  refine⟨⟨?_,?_,?_,?_,?_,?_,?_,?_,?_,?_,?_,trivial⟩,?_⟩<;>intro vs Z w2 hk hZ hg
  all_goals
   haveI p_w2:Zb w2 _:=⟨hk⟩
   have hz_w2:=hk.size
   have HZ:=hh hZ
   clear hk hZ
   (try simp only[ZG,Zi,Z8,SZ.eq_p,SZ.ex_p,SZ.wx_p,SZ.new_p,SZ.ev_p,SZ.xs_p,Nat.reduceEqDiff,reduceIte,and_true]at hg)
  ·clear hg
   go_wp2_with fail
   exact⟨kp,rfl,Z,.inl ⟨rfl,rfl⟩,rfl⟩
  ·clear hg
   go_wp2_with fail
   exact⟨kp,rfl,Z,.inl ⟨rfl,rfl⟩,rfl⟩
  ·obtain e15:=hg
   (try simp only[e15])
   go_wp2_with fail
   exact⟨kp,rfl,Z,.inl ⟨rfl,rfl⟩,rfl⟩
  ·obtain e16:=hg
   (try simp only[e16])
   go_wp2_with fail
   exact⟨kp,rfl,Z,.inl ⟨rfl,rfl⟩,rfl⟩
  ·obtain e17:=hg
   (try simp only[e17])
   go_wp2_with fail
   exact⟨kp,rfl,Z,.inl ⟨rfl,rfl⟩,rfl⟩
  ·clear hg
   go_wp2_with fail
   exact⟨kp,rfl,Z,.inl ⟨rfl,rfl⟩,rfl⟩
  ·obtain⟨e14,e18,e19⟩:=hg
   (try simp only[e14,e18,e19])
   go_wp2_with fail
   refine(HEV.out w2 ((X++ [w.heap.size])++Z) kp (fun q hq=>?_) (fun q hq=>?_)).mono ?_
   ·rcases List.mem_append.1 hq with h1 | h1
    ·rcases List.mem_append.1 h1 with h1 | h1
     ·exact .inl h1
     ·exact .inr (by simp at h1;omega)
    ·exact .inr (Nat.le_trans HK1.out.size (HZ.out q h1).1)
   ·rcases List.mem_append.1 hq with h1 | h1
    ·rcases List.mem_append.1 h1 with h1 | h1
     ·have:=HX.out q h1
      omega
     ·simp at h1;omega
    ·exact(HZ.out q h1).2
   ·rintro e w9 ⟨u,zs,rfl,ho,hzs,hd9,hk9⟩
    go_wp2_with fail
    exact⟨hk9,rfl,Z,.inl ⟨rfl,rfl⟩,u,zs,rfl,ho.base' (by omega),hzs,fun z hz=>(hd9 z hz).sub (fun q hq=>by rw[Zl];rcases List.mem_append.1 hq with h1 | h1;exact(Zl.1 h1).imp (fun h=>h) (fun h=>List.mem_append.2 (.inl h));exact .inr (List.mem_append.2 (.inr h1)))⟩
  ·obtain⟨u20,zs20,e20,o20,f20,i20⟩:=hg
   simp only[e20]
   go_wp2_with fail
   exact⟨kp,rfl,Z,.inl ⟨rfl,rfl⟩,u20,zs20,rfl,o20,f20,i20⟩
  ·obtain⟨u13,zs13,e13,o13,f13,i13⟩:=hg
   simp only[e13]
   go_wp2_with fail
   exact⟨kp,rfl,Z,.inl ⟨rfl,rfl⟩,rfl⟩
  ·obtain⟨u13,zs13,e13,o13,f13,i13⟩:=hg
   simp only[e13]
   go_wp2_with fail
   exact⟨kp,rfl,Z,.inl ⟨rfl,rfl⟩,zs13,o13,f13,i13⟩
  ·obtain e21:=hg
   (try simp only[e21])
   go_wp2_with fail
   exact⟨kp,rfl,Z,.inl ⟨rfl,rfl⟩,rfl⟩
  obtain⟨e14,e15,e16,e17,e18,e19,⟨u20,zs20,e20,o20,f20,i20⟩,⟨u13,zs13,e13,o13,f13,i13⟩,e21,h22,e6⟩:=hg
  generalize hv22:vs 22=u22 at*
  obtain⟨zs,o22,f22,i22⟩:=h22
  simp only[e14,e15,e16,e17,e18,e19,e21,e6,e20,e13]
  clear e14 e15 e16 e17 e18 e19 e21 e6 e20 e13 o20 f20 i20 o13 f13 i13 hv22
  have HF:=hh f22
  have HI:Hid (∀z,z∈zs→ExD (X++ [w.heap.size]) w2 z):=fun z hz=>(i22 z hz).sub (fun q hq=>List.mem_append.2 (.inl (Zl.2 (.inr hq))))
  obtain⟨A,c,rfl,hrx⟩:=o22.rowsX (X:=X++ [w.heap.size]) (fun q hq=>by
   rcases List.mem_append.1 hq with h1 | h1
   ·have:=HX.out q h1
    omega
   ·simp at h1;omega)
  have HRX:=hh hrx
  have hzl:zs.length≤140737488355328:=by
   have h1:=congrArg List.length f22
   have h2:=HEL.out
   rw[List.length_map]at h1
   omega
  have HHI:Hid (w2.heap.size≥w1.heap.size):=Kept.size (X:=[]) kp
  clear f22 i22 o22 hrx HEV HEL
  cases hc:ZN d.x.oper
  ·rw[hc]at HW
   go_wp2_with fail
   refine nxt (HCO.out _ _) fun w3 p_w3=>?_;have hz_w3:=szk w w3
   rw[hc]
   go_wp2_with fail
   refine(HMA.out _ (X++ [w.heap.size]) A c zs ty kp (fun q hq=>(List.mem_append.1 hq).imp (fun h=>h) (fun h=>by simp at h;omega)) (HRX.out.kept kp) hzl (fun z hz=>(HI.out z hz).kept kp)).mono ?_
   rintro e w4 ⟨z,rfl,hze,hzd,hk4⟩
   have HZE:=hh hze
   have HZD:Hid (∀W,Kept [w.heap.size] w4 W→ExD X W z):=fun W hk=>(hzd.less hk (fun q hq=>List.mem_append.2 (.inr hq))).sub (fun q hq=>List.mem_append.2 (.inl hq))
   haveI p_w4:Zb w4 w3:=⟨hk4⟩
   clear hze hzd hk4
   go_wp2_with fail
   exact Ql (m:=⟨ty,n,false,z⟩) rfl (Zj results125 (Z0 rfl inferInstance)) (by rw[HW.out,MeV.er,HZE.out,HF.out];rfl) (HZD.out _ (Kept.setRow _ _ _ (by simp))) kp
  ·rw[hc]at HW
   go_wp2_with fail
   refine nxt (HCO.out _ _) fun w3 p_w3=>?_;have hz_w3:=szk w w3
   rw[hc]
   go_wp2_with fail
   refine(HMA.out _ (X++ [w.heap.size]) A c zs 2 kp (fun q hq=>(List.mem_append.1 hq).imp (fun h=>h) (fun h=>by simp at h;omega)) (HRX.out.kept kp) hzl (fun z hz=>(HI.out z hz).kept kp)).mono ?_
   rintro e w4 ⟨z,rfl,hze,hzd,hk4⟩
   have HZE:=hh hze
   have HZD:Hid (∀W,Kept [w.heap.size] w4 W→ExD X W z):=fun W hk=>(hzd.less hk (fun q hq=>List.mem_append.2 (.inr hq))).sub (fun q hq=>List.mem_append.2 (.inl hq))
   haveI p_w4:Zb w4 w3:=⟨hk4⟩
   clear hze hzd hk4
   go_wp2_with fail
   exact Ql (m:=⟨2,n,false,z⟩) rfl (Zj results125 (Z0 rfl inferInstance)) (by rw[HW.out,MeV.er,HZE.out,HF.out];rfl) (HZD.out _ (Kept.setRow _ _ _ (by simp))) kp
theorem ZpG (mss:List (List MeV)):Za1 (mss.map (fun ms=>ms.map MeV.er))=Za1 mss:=by
 induction mss with
 | nil=>rfl
 | cons a l ih=>
  have e:∀(a:List MeV) l,Za1 (a::l)=a.map MeV.t++Za1 l:=fun a l=>by simp[Za1]
  rw[List.map_cons,e,e,ih,List.map_map]
  rfl
theorem ZjW (mss:List (List MeV)):QL (mss.map (fun ms=>ms.map MeV.er))=QL mss:=by rw[QL,ZpG];rfl
def ZdZ (t:Tab) (h:WhV) (o:Int):Int→Bool:=if o≤6 then ZeW t h else if o≤8 then ZaP t h else if ZN o then Q6 t h else QG t h
def Zn9 (G:List MeV→Int×ExV) (mss:List (List MeV)):Int:=mss.foldl (fun n ms=>n*(G ms).1) 1
theorem Zsq (G:List MeV→Int×ExV) (ds:List NdV):evN (fun y=>G (y.ms.map MeV.er)) ds=Zn9 G (ds.map (fun y=>y.ms.map MeV.er)):=by
 unfold evN Zn9
 rw[List.foldl_map]
def Zjc (t:Tab) (h:WhV) (x:ExV) (mss:List (List MeV)):List MeV:=
 Ju (Zjd (ZdZ t h x.oper) x.oper x (fun ty=>(Zn9 (fun ms=>QR t h ms ty false) mss,mss.map (fun ms=>(QR t h ms ty false).2)))) (QL mss)
theorem Tryz.entersDya1:∀args w,(callFunc 125 args).run prog w= .ok (.enter 125 args) w:=Go.Proofs.enters_of func125 (by kernel_rfl) rfl
theorem Tryz.entersWhole:∀args w,(callFunc 75 args).run prog w= .ok (.enter 75 args) w:=Go.Proofs.enters_of func75 (by kernel_rfl) rfl
theorem Tryz.entersEqual:∀args w,(callFunc 123 args).run prog w= .ok (.enter 123 args) w:=Go.Proofs.enters_of func123 (by kernel_rfl) rfl
theorem Tryz.entersDiscrete:∀args w,(callFunc 76 args).run prog w= .ok (.enter 76 args) w:=Go.Proofs.enters_of func76 (by kernel_rfl) rfl
theorem Tryz.entersBoolean:∀args w,(callFunc 77 args).run prog w= .ok (.enter 77 args) w:=Go.Proofs.enters_of func77 (by kernel_rfl) rfl
theorem Ziz {mss:List (List MeV)} (hl:mss.length≤500) (h:∀ms,ms∈mss→ms.length≤1000000):(QL mss).length≤1000000000:=by
 refine Nat.le_trans (ZcC _) ?_
 have h1:=ZhE mss 1000000 h
 have h2:(QI (Za1 mss)).length=(Za1 mss).length:=by simp[QI]
 have h3:mss.length*1000000≤500*1000000:=Nat.mul_le_mul hl (Nat.le_refl _)
 omega
theorem Zjb (X:List Nat) (w:World) (R mr:Nat) (v:Zp) (t:Tab) (h:WhV) (d:NdV) (hR:Qo w R mr v t h) (hd:NdT X w d) (hX:∀q,q∈X→q < w.heap.size) (hl:d.parts.length≤61) (h9:∀y,y∈d.parts→y.x.kind≠9):
 Calls prog 67 #[.pointer (some ⟨R,0,none⟩),.pointer (some ⟨d.p,0,none⟩)] w (Zc1 X (Zjc t h d.x.er (d.parts.map (fun y=>y.ms.map MeV.er))) w):=by
 have HX:=hh hX
 obtain⟨n0,hn0⟩:=hd.here
 haveI bd:=hn0.is
 have HTY:Hid (∀W,Kept [] w W→Calls prog 41 #[.slice d.pa d.parts.length d.pc] W (Zmk (QL (d.parts.map NdV.ms)) W)):=fun W hk=>by
  obtain⟨n1,hn1⟩:=(hd.kept hk).here
  exact ZjV W d.pa d.pc d.parts hn1.2.2.2.2.2.1 (fun y hy=>((hd.kept hk).part hy).sub (fun q hq=>by simp at hq)) (by omega)
 have hlen:(QL (d.parts.map NdV.ms)).length≤1000000000:=Ziz (by rw[List.length_map];omega) (fun ms hm=>by
  obtain⟨y,hy,rfl⟩:=List.mem_map.1 hm
  obtain⟨n1,hn1⟩:=(hd.part hy).here
  exact hn1.2.2.2.2.1)
 have HV:Hid (Zjc t h d.x.er (d.parts.map (fun y=>y.ms.map MeV.er))=Ju (Zjd (ZdZ t h d.x.oper) d.x.er.oper d.x.er (fun ty=>(evN (fun y=>QR t h (y.ms.map MeV.er) ty false) d.parts,evL (fun y=>QR t h (y.ms.map MeV.er) ty false) d.parts))) (QL (d.parts.map NdV.ms))):=by
  have e1:QL (d.parts.map (fun y=>y.ms.map MeV.er))=QL (d.parts.map NdV.ms):=by
   have:=ZjW (d.parts.map NdV.ms)
   rw[List.map_map]at this
   exact this
  rw[Hid,Zjc,e1,ExV.er_oper]
  congr 2
  funext ty
  rw[Zsq (fun ms=>QR t h ms ty false),List.map_map]
  rfl
 have HEA:Hid (∀W B1 B2 B3 A c K (may:Int→Bool),Kept [] w W→ZdZ t h d.x.oper=may→(∀W n,Kept [] w W→Calls prog K #[.pointer (some ⟨R,0,none⟩),.int .i64 n] W (ZE (.bool (may n)) W))→(∀args w,(callFunc K args).run prog w= .ok (.enter K args) w)→
  Zc W B1 110 #[.func (.func K) #[.pointer (some ⟨R,0,none⟩)] #[]]→Zc W B2 102 #[.pointer (some ⟨R,0,none⟩)]→Zc W B3 105 #[.pointer (some ⟨d.p,0,none⟩)]→ZM W A (QL (d.parts.map NdV.ms))→
  Calls prog 106 #[.slice A (QL (d.parts.map NdV.ms)).length c,.func (.func 125) #[] #[.pointer (some ⟨B1,0,none⟩),.pointer (some ⟨B2,0,none⟩),.pointer (some ⟨B3,0,none⟩)]] W (Zc1 X (Zjc t h d.x.er (d.parts.map (fun y=>y.ms.map MeV.er))) W)):=
  fun W B1 B2 B3 A c K may hk hm hM eg hb1 hb2 hb3 hi=>by
   rw[HV.out,hm]
   refine ZfS X W A c _ hi hlen (fun q hq=>Nat.lt_of_lt_of_le (hX q hq) hk.size) _ _ _ Tryz.entersDya1 (fun W' Y e hk' hY hYs he=>?_)
   haveI:=hb1.kept hk'
   haveI:=hb2.kept hk'
   haveI:=hb3.kept hk'
   have hdY:NdT Y W' d:=(hd.kept hk).later hk' hY
   exact Zoi Y W' R K may d e (fun y ty=>QR t h (y.ms.map MeV.er) ty false) hdY hYs hl (fun y hy=>ZdB (fun m hm=>by
    obtain⟨m0,hm0,rfl⟩:=List.mem_map.1 hm
    obtain⟨n1,hn1⟩:=(hd.part hy).here
    exact(hn1.2.2.2.1 m0 hm0).2.1)) B1 B2 B3 (fun W2 n hk2=>hM W2 n ((hk.trans hk').trans hk2)) eg
    (fun y W2 Y2 hy hk2 hY2 hYs2=>ZdA Y2 W2 R mr v t h y e false (hR.kept ((hk.trans hk').trans hk2)) ((hdY.later hk2 hY2).part hy) (.inl (h9 y hy)))
 have HWH:=hh (fun W n (hk:Kept [] w W)=>ZeV W R mr v t h n (hR.kept hk))
 have HEQ:=hh (fun W n (hk:Kept [] w W)=>ZlD W R mr v t h n (hR.kept hk))
 have HDI:=hh (fun W n (hk:Kept [] w W)=>Zbo W R mr v t h n (hR.kept hk))
 have HBO:=hh (fun W n (hk:Kept [] w W)=>ZcG W R mr v t h n (hR.kept hk))
 have HCO:=hh (fun w' o=>JO w' o)
 clear hR hd hX hn0 HV hl h9
 generalize Zjc t h d.x.er (d.parts.map (fun y=>y.ms.map MeV.er))=R1 at*
 generalize QL (d.parts.map NdV.ms)=xs at*
 by_cases h6:d.x.oper≤6
 ·have HMAY:Hid (ZdZ t h d.x.oper=ZeW t h):=by rw[Hid,ZdZ,if_pos h6]
  have HK:=HWH
  clear HWH HEQ HDI HBO
  go_enter func67,ntmps67
  go_wp2_with fail
  refine(HTY.out _ kp).mono ?_
  rintro e w2 ⟨vt,rfl,ho2,hk2⟩
  haveI p_w2:Zb w2 _:=⟨hk2⟩
  obtain⟨A,c,rfl⟩:=Zq ho2
  have hin:ZM w2 A xs:=by
   obtain⟨A',c',e,_,_,_,hi⟩:=Yb.of_owns ho2
   cases e
   exact hi
  have HIN:=hh hin
  clear hin ho2 hk2
  go_wp2_with fail
  refine(HEA.out w2 _ _ _ A c _ _ kp HMAY.out HK.out Tryz.entersWhole inferInstance inferInstance inferInstance HIN.out).mono ?_
  rintro e w3 ⟨vr,ms,rfl,ho3,he3,hd3,hk3⟩
  have HO3:=hh ho3
  have HE3:=hh he3
  have HD3:=hh hd3
  haveI p_w3:Zb w3 w2:=⟨hk3⟩
  clear ho3 he3 hd3 hk3
  go_wp2_with fail
  go_ret
  exact⟨vr,ms,rfl,HO3.out.base' (Kept.size (X:=[]) kp),HE3.out,HD3.out,kp⟩
 have h6d:decide (d.x.oper≤6)=false:=decide_eq_false h6
 by_cases h8:d.x.oper≤8
 ·have HMAY:Hid (ZdZ t h d.x.oper=ZaP t h):=by rw[Hid,ZdZ,if_neg h6,if_pos h8]
  have HK:=HEQ
  clear HWH HEQ HDI HBO
  go_enter func67,ntmps67
  go_wp2_with fail
  refine(HTY.out _ kp).mono ?_
  rintro e w2 ⟨vt,rfl,ho2,hk2⟩
  haveI p_w2:Zb w2 _:=⟨hk2⟩
  obtain⟨A,c,rfl⟩:=Zq ho2
  have hin:ZM w2 A xs:=by
   obtain⟨A',c',e,_,_,_,hi⟩:=Yb.of_owns ho2
   cases e
   exact hi
  have HIN:=hh hin
  clear hin ho2 hk2
  go_wp2_with fail
  refine(HEA.out w2 _ _ _ A c _ _ kp HMAY.out HK.out Tryz.entersEqual inferInstance inferInstance inferInstance HIN.out).mono ?_
  rintro e w3 ⟨vr,ms,rfl,ho3,he3,hd3,hk3⟩
  have HO3:=hh ho3
  have HE3:=hh he3
  have HD3:=hh hd3
  haveI p_w3:Zb w3 w2:=⟨hk3⟩
  clear ho3 he3 hd3 hk3
  go_wp2_with fail
  go_ret
  exact⟨vr,ms,rfl,HO3.out.base' (Kept.size (X:=[]) kp),HE3.out,HD3.out,kp⟩
 have h8d:decide (d.x.oper≤8)=false:=decide_eq_false h8
 cases hc:ZN d.x.oper
 ·have HMAY:Hid (ZdZ t h d.x.oper=QG t h):=by rw[Hid,ZdZ,if_neg h6,if_neg h8,hc];rfl
  have HK:=HBO
  clear HWH HEQ HDI HBO
  go_enter func67,ntmps67
  go_wp2_with fail
  refine nxt (HCO.out _ _) fun w1 p_w1=>?_;have hz_w1:=szk w w1
  rw[hc]
  go_wp2_with fail
  refine(HTY.out _ kp).mono ?_
  rintro e w2 ⟨vt,rfl,ho2,hk2⟩
  haveI p_w2:Zb w2 _:=⟨hk2⟩
  obtain⟨A,c,rfl⟩:=Zq ho2
  have hin:ZM w2 A xs:=by
   obtain⟨A',c',e,_,_,_,hi⟩:=Yb.of_owns ho2
   cases e
   exact hi
  have HIN:=hh hin
  clear hin ho2 hk2
  go_wp2_with fail
  refine(HEA.out w2 _ _ _ A c _ _ kp HMAY.out HK.out Tryz.entersBoolean inferInstance inferInstance inferInstance HIN.out).mono ?_
  rintro e w3 ⟨vr,ms,rfl,ho3,he3,hd3,hk3⟩
  have HO3:=hh ho3
  have HE3:=hh he3
  have HD3:=hh hd3
  haveI p_w3:Zb w3 w2:=⟨hk3⟩
  clear ho3 he3 hd3 hk3
  go_wp2_with fail
  go_ret
  exact⟨vr,ms,rfl,HO3.out.base' (Kept.size (X:=[]) kp),HE3.out,HD3.out,kp⟩
 ·have HMAY:Hid (ZdZ t h d.x.oper=Q6 t h):=by rw[Hid,ZdZ,if_neg h6,if_neg h8,hc];rfl
  have HK:=HDI
  clear HWH HEQ HDI HBO
  go_enter func67,ntmps67
  go_wp2_with fail
  refine nxt (HCO.out _ _) fun w1 p_w1=>?_;have hz_w1:=szk w w1
  rw[hc]
  go_wp2_with fail
  refine(HTY.out _ kp).mono ?_
  rintro e w2 ⟨vt,rfl,ho2,hk2⟩
  haveI p_w2:Zb w2 _:=⟨hk2⟩
  obtain⟨A,c,rfl⟩:=Zq ho2
  have hin:ZM w2 A xs:=by
   obtain⟨A',c',e,_,_,_,hi⟩:=Yb.of_owns ho2
   cases e
   exact hi
  have HIN:=hh hin
  clear hin ho2 hk2
  go_wp2_with fail
  refine(HEA.out w2 _ _ _ A c _ _ kp HMAY.out HK.out Tryz.entersDiscrete inferInstance inferInstance inferInstance HIN.out).mono ?_
  rintro e w3 ⟨vr,ms,rfl,ho3,he3,hd3,hk3⟩
  have HO3:=hh ho3
  have HE3:=hh he3
  have HD3:=hh hd3
  haveI p_w3:Zb w3 w2:=⟨hk3⟩
  clear ho3 he3 hd3 hk3
  go_wp2_with fail
  go_ret
  exact⟨vr,ms,rfl,HO3.out.base' (Kept.size (X:=[]) kp),HE3.out,HD3.out,kp⟩
end
end Go.Proofs.YtfaecpkocgcofaaGreatDoor
