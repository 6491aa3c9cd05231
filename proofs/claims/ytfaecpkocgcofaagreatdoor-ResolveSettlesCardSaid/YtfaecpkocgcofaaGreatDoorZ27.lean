/- Lemmas for ResolveSettles, printed small: N9 N10 N11. -/
import Derived.Test.YtfaecpkocgcofaaGreatDoorZ26
set_option linter.all false
set_option maxRecDepth 100000
set_option maxHeartbeats 8000000
open Go.Proofs.Tryz
namespace Go.Proofs.YtfaecpkocgcofaaGreatDoor
section
open Go.RowKit
@[go_sem] theorem Zx.c4 (y:Zx) (h:4 < y.cells.length):y.cells[4]'h=(.int .i64 y.t):=rfl
@[go_sem] theorem Zx.c6 (y:Zx) (h:6 < y.cells.length):y.cells[6]'h=(.slice y.pa y.params.length y.pc):=rfl
@[go_sem] theorem Zx.c17 (y:Zx) (h:17 < y.cells.length):y.cells[17]'h=(.bool y.generic):=rfl
def SZ.me (X:List Nat) (μ:MeV):SZ:=⟨fun Z v w=>∃m:MeV,v= .agg m.cells.toArray∧m.er=μ∧ExD (X++Z) w m.e,fun _ _ _ _ _ ⟨x,h1,h2,h3⟩ hk _ hz=>⟨x,h1,h2,h3.z hk hz⟩⟩
theorem SZ.me_p (X:List Nat) (μ:MeV) (Z:List Nat) (v:Value) (w:World):(SZ.me X μ).p Z v w=∃m:MeV,v= .agg m.cells.toArray∧m.er=μ∧ExD (X++Z) w m.e:=rfl
theorem ZoC (t:Tab) (params:List Zd):Zap t params [] []=(if params.length=0 then 1 else 0,[]):=by cases params <;> rfl
def Zci (y:Zx) (x:ExV) (i:Int):MeV:=
 if Za9 y.kind then⟨y.t,1,true,Zbz x i y.t⟩
 else if y.kind == 10 then⟨y.t,1,false,Zbz x i y.t⟩
 else if y.kind == 9 then⟨0,1,false,(Zbz x i y.t).setT 0⟩
 else if y.kind == 4 && !y.generic then⟨y.t,if y.params.length=0 then 1 else 0,false,Zbz x i y.t⟩
 else⟨y.t,0,false,Zbz x i y.t⟩
theorem Ql {P:Program} {fn:Func} {X:List Nat} {μ m:MeV} {a:Act} {w w':World} (hd:a.defers= []) (hr:(results fn a.tmps).run P w'= .ok (.agg m.cells.toArray) w') (h1:m.er=μ) (h2:ExD X w' m.e) (hk:Kept [] w w'):bodyPost P fn (ZoL X μ w) .ret a w':=
 bodyPost_ret hr hd ⟨m,rfl,h1,h2,hk⟩
theorem ZkF (X:List Nat) (w:World) (R mr:Nat) (v:Zp) (t:Tab) (h:WhV) (d:NdV) (i:Nat) (y:Zx) (hR:Qo w R mr v t h) (hy:t.ents[i]? =some y) (hd:NdT X w d) (h4:d.x.kind≠4) (hX:∀q,q∈X→q < w.heap.size) (B2 B3:Nat)
 [i2:Zc w B2 102 #[.pointer (some ⟨R,0,none⟩)]] [Zc w B3 105 #[.pointer (some ⟨d.p,0,none⟩)]] (hdef:∀q,q∈y.params→q.d.kind=0):
 Calls prog 107 (#[.int .i64 i]++ #[.pointer (some ⟨B2,0,none⟩),.pointer (some ⟨B3,0,none⟩)]) w (ZoL X (Zci y d.x.er i) w):=by
 have HX:=hh hX
 have HND:=hh hd
 have HRR:=hh hR
 have hil:=(List.getElem?_eq_some_iff.1 hy).1
 obtain⟨y',b,o,hy',ha,hat,_⟩:=Zb5 hR.tab hil
 obtain rfl:y'=y:=by rw[hy]at hy';exact(Option.some.inj hy').symm
 have q1:=hR.tab.el
 have h2:(i:Int) < (t.ents.length:Int):=by omega
 have HOB:=hh (fun w' k=>Zdd w' k)
 have hps:=hR.tab.ps y' (List.mem_of_getElem? hy)
 have hpl:=hR.tab.pl y' (List.mem_of_getElem? hy)
 have HAC:Hid (∀W,Kept [] w W→Calls prog 48 #[.pointer (some ⟨R,0,none⟩),.slice y'.pa y'.params.length y'.pc,.pointer none] W (Zas X (if y'.params.length=0 then 1 else 0,[]) W)):=fun W hk=>by
  have:=Zf7 X W R t y'.pa y'.pc y'.params (hps.kept hk) hpl hdef (fun q hq=>Nat.lt_of_lt_of_le (hX q hq) hk.size)
  rwa [ZoC]at this
 have HNM:Hid (∀W Z,Kept [] w W→(∀q,q∈Z→w.heap.size≤q∧q < W.heap.size)→Calls prog 49 #[.pointer (some ⟨R,0,none⟩),.agg d.x.cells.toArray,.int .i64 i] W (Zjo (X++Z) (Zbz d.x.er i y'.t) W)):=fun W Z hk hz=>
  Zdg (X++Z) W R mr v t h d.x i y' (hR.kept hk) hy h4 (hd.later hk (fun q hq=>(List.mem_append.1 hq).imp (fun h=>h) (fun h=>(hz q h).1))).x (fun q hq=>(List.mem_append.1 hq).elim (fun h=>Nat.lt_of_lt_of_le (hX q h) hk.size) (fun h=>(hz q h).2))
 haveI bR:=hR.is
 obtain⟨n0,hn0⟩:=hd.here
 haveI bd:=hn0.is
 have HM:Hid (Zci y' d.x.er i=if Za9 y'.kind then⟨y'.t,1,true,Zbz d.x.er i y'.t⟩else if y'.kind == 10 then⟨y'.t,1,false,Zbz d.x.er i y'.t⟩else if y'.kind == 9 then⟨0,1,false,(Zbz d.x.er i y'.t).setT 0⟩else if y'.kind == 4 && !y'.generic then⟨y'.t,if y'.params.length=0 then 1 else 0,false,Zbz d.x.er i y'.t⟩else⟨y'.t,0,false,Zbz d.x.er i y'.t⟩):=rfl
 clear hR hy hy' h4 hd hn0 hps hdef hX
 show Calls prog 107 #[.int .i64 i,.pointer (some ⟨B2,0,none⟩),.pointer (some ⟨B3,0,none⟩)] w _
 go_enter func107,ntmps107
 go_upto_region 2 with(fail)
 refine Zm ?_
 intro w1 hw1
 have HK1:Hid (Kept [] w w1):=by rw[hw1];exact kp
 have hz1:w1.heap.size=w.heap.size+2:=by rw[hw1];simp
 haveI p_w1:Zb w1 w:=⟨HK1.out⟩
 haveI b4:Zc w1 w.heap.size 114 zeroMe.cells.toArray:=by rw[hw1];infer_instance
 haveI b5:Zc w1 (w.heap.size+1) 95 y'.cells.toArray:=by rw[hw1];infer_instance
 clear hw1
 have HNW:Hid (∀W Z,Kept [] w1 W→zIn w1 Z W→Calls prog 49 #[.pointer (some ⟨R,0,none⟩),.agg d.x.cells.toArray,.int .i64 i] W (Zjo ((X++ [w.heap.size])++Z) (Zbz d.x.er i y'.t) W)):=fun W Z hk hz=>by
  rw[List.append_assoc]
  refine HNM.out W _ (HK1.out.trans hk) (fun q hq=>?_)
  have hs:=hk.size
  rcases List.mem_append.1 hq with h1 | h1
  ·simp only[List.mem_cons,List.not_mem_nil,or_false]at h1
   omega
  ·have:=hz q h1
   omega
 clear HNM
 refine Zn [⟨17,[],false,.eq (.pointer (some ⟨w.heap.size+1,4,none⟩))⟩,⟨18,[17],false,.eq (.int .i64 y'.t)⟩,⟨19,[],false,.eq (.pointer (some ⟨R,0,none⟩))⟩,⟨20,[],false,.eq (.pointer (some ⟨d.p,0,none⟩))⟩,⟨21,[20],false,.eq (.pointer (some ⟨d.p,0,none⟩))⟩,⟨22,[21],false,.eq (.pointer (some ⟨d.p,0,none⟩))⟩,⟨23,[22],false,.eq (.agg d.x.cells.toArray)⟩,⟨24,[],false,.eq (.int .i64 (i:Int))⟩,⟨25,[19,23,24],false,.ex (X++ [w.heap.size]) (Zbz d.x.er i y'.t)⟩,⟨26,[18,25],false,.me (X++ [w.heap.size]) ⟨y'.t,1,false,Zbz d.x.er i y'.t⟩⟩,⟨6,[],true,.new zeroMe.cells.toArray 114⟩] (by kernel_rfl) (by kernel_rfl) ?_
 apply Exists.intro
 refine⟨fun vs=>?_,?_⟩
 ·simp only[List.map_cons,List.map_nil,PSz.toP,Jj,Act.put,List.setIfInBounds_toArray,List.set_cons_zero,List.set_cons_succ]
  exact rfl
 refine⟨⟨?_,?_,?_,?_,?_,?_,?_,?_,?_,?_,?_,trivial⟩,?_⟩<;>intro vs Z w2 hk hZ hg
 all_goals
  haveI p_w2:Zb w2 _:=⟨hk⟩
  have hz_w2:=hk.size
  have HZ:=hh hZ
  clear hk hZ
  (try simp only[ZG,Zi,Z8,SZ.eq_p,SZ.ex_p,SZ.wx_p,SZ.new_p,SZ.me_p,Nat.reduceEqDiff,reduceIte,and_true]at hg)
 ·clear hg
  go_wp2_with fail
  exact⟨kp,rfl,Z,.inl ⟨rfl,rfl⟩,rfl⟩
 ·obtain e17:=hg
  (try simp only[e17])
  go_wp2_with fail
  exact⟨kp,rfl,Z,.inl ⟨rfl,rfl⟩,rfl⟩
 ·clear hg
  go_wp2_with fail
  exact⟨kp,rfl,Z,.inl ⟨rfl,rfl⟩,rfl⟩
 ·clear hg
  go_wp2_with fail
  exact⟨kp,rfl,Z,.inl ⟨rfl,rfl⟩,rfl⟩
 ·obtain e20:=hg
  (try simp only[e20])
  go_wp2_with fail
  exact⟨kp,rfl,Z,.inl ⟨rfl,rfl⟩,rfl⟩
 ·obtain e21:=hg
  (try simp only[e21])
  go_wp2_with fail
  exact⟨kp,rfl,Z,.inl ⟨rfl,rfl⟩,rfl⟩
 ·obtain e22:=hg
  (try simp only[e22])
  go_wp2_with fail
  exact⟨kp,rfl,Z,.inl ⟨rfl,rfl⟩,rfl⟩
 ·clear hg
  go_wp2_with fail
  exact⟨kp,rfl,Z,.inl ⟨rfl,rfl⟩,rfl⟩
 ·obtain⟨e19,e23,e24⟩:=hg
  (try simp only[e19,e23,e24])
  go_wp2_with fail
  refine(HNW.out w2 Z (Kept.prev (Kept.refl _ _)) HZ.out).mono ?_
  rintro e w9 ⟨x,rfl,hp,hi,hk9⟩
  go_wp2_with fail
  exact⟨hk9,rfl,Z,.inl ⟨rfl,rfl⟩,x,rfl,hp,hi⟩
 ·obtain⟨e18,⟨x25,e25,f25,i25⟩⟩:=hg
  (try simp only[e18])
  simp only[e25]
  go_wp2_with fail
  exact⟨kp,rfl,Z,.inl ⟨rfl,rfl⟩,⟨y'.t,1,false,x25⟩,rfl,by rw[MeV.er,f25],i25⟩
 ·clear hg
  go_wp2_with fail
  exact⟨kp,rfl,_::Z,.inr ⟨rfl,_,rfl,rfl,Nat.le_refl _,by simp⟩,_,rfl,List.mem_cons_self,Zf rfl⟩
 obtain⟨e17,e18,e19,e20,e21,e22,e23,e24,⟨x25,e25,f25,i25⟩,⟨m26,e26,f26,i26⟩,⟨B6,e6,b6,h6⟩⟩:=hg
 simp only[e17,e18,e19,e20,e21,e22,e23,e24,e25,e26,e6]
 clear e17 e18 e19 e20 e21 e22 e23 e24 e25 f25 i25 e26 e6
 obtain⟨mt,mn,mo,me⟩:=m26
 simp only[MeV.er,MeV.mk.injEq]at f26
 obtain⟨rfl,rfl,rfl,hme⟩:=f26
 have HME:=hh hme
 have HXD:Hid (ExD ((X++ [w.heap.size])++Z) w2 me):=i26
 have hB:=HZ.out B6 b6
 have HZM:Hid (B6∈Z):=b6
 haveI ap1:Qf B6 (w.heap.size+1):=⟨by omega⟩
 have hb2:B2 < w.heap.size:=(Array.getElem?_eq_some_iff.1 i2.has).1
 haveI ap3:Qf B6 B2:=⟨by omega⟩
 haveI ap2:Qf B6 w.heap.size:=⟨by omega⟩
 haveI b62:Zc w2 B6 114 zeroMe.cells.toArray:=⟨h6⟩
 have HLESS:Hid (∀W,Kept [B6,w.heap.size] w2 W→ExD X W me):=fun W hk=>(HXD.out.less hk (fun q hq=>by
  simp only[List.mem_cons,List.not_mem_nil,or_false]at hq
  rcases hq with rfl | rfl
  ·exact List.mem_append.2 (.inr HZM.out)
  ·exact List.mem_append.2 (.inl (by simp)))).sub (fun q hq=>by simp[hq])
 clear hme i26 b6 h6 HXD HNW HND HRR ha
 cases ho:Za9 y'.kind
 case true=>
  have HW:Hid (Zci y' d.x.er i=⟨y'.t,1,true,Zbz d.x.er i y'.t⟩):=by rw[Hid,HM.out,ho];rfl
  clear HM HAC
  go_wp2_with fail
  refine nxt (HOB.out _ _) fun w3 p_w3=>?_;have hz_w3:=szk w w3
  rw[ho]
  go_wp2_with fail
  exact Ql (m:=⟨y'.t,1,true,me⟩) rfl (Zj results107 (Z0 rfl inferInstance)) (by rw[HW.out,MeV.er,HME.out]) (HLESS.out _ (by repeat(first | with_reducible exact Kept.refl _ _ | with_reducible refine Kept.trans ?_ (Kept.setCell _ _ _ (by simp)) | with_reducible refine Kept.trans ?_ (Kept.setRow _ _ _ (by simp)) | with_reducible refine Kept.trans ?_ (Kept.drew _ _) | with_reducible refine Kept.trans ?_ (Kept.alloc _ _ _) | with_reducible refine Kept.trans ?_ (Zb.kept.mono (by simp))))) kp
 cases h10:(y'.kind == 10)
 case true=>
  have HW:Hid (Zci y' d.x.er i=⟨y'.t,1,false,Zbz d.x.er i y'.t⟩):=by rw[Hid,HM.out,ho,h10];rfl
  clear HM HAC
  go_wp2_with fail
  refine nxt (HOB.out _ _) fun w3 p_w3=>?_;have hz_w3:=szk w w3
  rw[ho]
  go_wp2_with fail
  exact Ql (m:=⟨y'.t,1,false,me⟩) rfl (Zj results107 (Z0 rfl inferInstance)) (by rw[HW.out,MeV.er,HME.out]) (HLESS.out _ (by repeat(first | with_reducible exact Kept.refl _ _ | with_reducible refine Kept.trans ?_ (Kept.setCell _ _ _ (by simp)) | with_reducible refine Kept.trans ?_ (Kept.setRow _ _ _ (by simp)) | with_reducible refine Kept.trans ?_ (Kept.drew _ _) | with_reducible refine Kept.trans ?_ (Kept.alloc _ _ _) | with_reducible refine Kept.trans ?_ (Zb.kept.mono (by simp))))) kp
 cases h9:(y'.kind == 9)
 case true=>
  have HW:Hid (Zci y' d.x.er i=⟨0,1,false,(Zbz d.x.er i y'.t).setT 0⟩):=by rw[Hid,HM.out,ho,h10,h9];rfl
  clear HM HAC
  go_wp2_with fail
  refine nxt (HOB.out _ _) fun w3 p_w3=>?_;have hz_w3:=szk w w3
  rw[ho]
  go_wp2_with fail
  exact Ql (m:=⟨0,1,false,me.setT 0⟩) rfl (Zj results107 (Z0 rfl inferInstance)) (by rw[HW.out,MeV.er,ExV.er_setT,HME.out]) ((HLESS.out _ (by repeat(first | with_reducible exact Kept.refl _ _ | with_reducible refine Kept.trans ?_ (Kept.setCell _ _ _ (by simp)) | with_reducible refine Kept.trans ?_ (Kept.setRow _ _ _ (by simp)) | with_reducible refine Kept.trans ?_ (Kept.drew _ _) | with_reducible refine Kept.trans ?_ (Kept.alloc _ _ _) | with_reducible refine Kept.trans ?_ (Zb.kept.mono (by simp))))).setT 0) kp
 cases h44:(y'.kind == 4)
 case false=>
  have HW:Hid (Zci y' d.x.er i=⟨y'.t,0,false,Zbz d.x.er i y'.t⟩):=by rw[Hid,HM.out,ho,h10,h9,h44];rfl
  clear HM HAC
  go_wp2_with fail
  refine nxt (HOB.out _ _) fun w3 p_w3=>?_;have hz_w3:=szk w w3
  rw[ho]
  go_wp2_with fail
  exact Ql (m:=⟨y'.t,0,false,me⟩) rfl (Zj results107 (Z0 rfl inferInstance)) (by rw[HW.out,MeV.er,HME.out]) (HLESS.out _ (by repeat(first | with_reducible exact Kept.refl _ _ | with_reducible refine Kept.trans ?_ (Kept.setCell _ _ _ (by simp)) | with_reducible refine Kept.trans ?_ (Kept.setRow _ _ _ (by simp)) | with_reducible refine Kept.trans ?_ (Kept.drew _ _) | with_reducible refine Kept.trans ?_ (Kept.alloc _ _ _) | with_reducible refine Kept.trans ?_ (Zb.kept.mono (by simp))))) kp
 cases hg:y'.generic
 case true=>
  have HW:Hid (Zci y' d.x.er i=⟨y'.t,0,false,Zbz d.x.er i y'.t⟩):=by rw[Hid,HM.out,ho,h10,h9,h44,hg];rfl
  clear HM HAC
  go_wp2_with fail
  refine nxt (HOB.out _ _) fun w3 p_w3=>?_;have hz_w3:=szk w w3
  rw[ho]
  go_wp2_with fail
  exact Ql (m:=⟨y'.t,0,false,me⟩) rfl (Zj results107 (Z0 rfl inferInstance)) (by rw[HW.out,MeV.er,HME.out]) (HLESS.out _ (by repeat(first | with_reducible exact Kept.refl _ _ | with_reducible refine Kept.trans ?_ (Kept.setCell _ _ _ (by simp)) | with_reducible refine Kept.trans ?_ (Kept.setRow _ _ _ (by simp)) | with_reducible refine Kept.trans ?_ (Kept.drew _ _) | with_reducible refine Kept.trans ?_ (Kept.alloc _ _ _) | with_reducible refine Kept.trans ?_ (Zb.kept.mono (by simp))))) kp
 have HW:Hid (Zci y' d.x.er i=⟨y'.t,if y'.params.length=0 then 1 else 0,false,Zbz d.x.er i y'.t⟩):=by rw[Hid,HM.out,ho,h10,h9,h44,hg];rfl
 clear HM
 generalize (if y'.params.length=0 then(1:Int)else 0)=n1 at*
 go_wp2_with fail
 refine nxt (HOB.out _ _) fun w3 p_w3=>?_;have hz_w3:=szk w w3
 rw[ho]
 go_wp2_with fail
 refine(HAC.out _ kp).mono ?_
 rintro e w4 ⟨A,c,zs,rfl,hzs,_,_,hk4⟩
 obtain rfl:zs= []:=by simpa using hzs
 haveI p_w4:Zb w4 w3:=⟨hk4⟩
 clear hzs hk4 HAC
 go_wp2_with fail
 exact Ql (m:=⟨y'.t,n1,false,me⟩) rfl (Zj results107 (Z0 rfl inferInstance)) (by rw[HW.out,MeV.er,HME.out]) (HLESS.out _ (by repeat(first | with_reducible exact Kept.refl _ _ | with_reducible refine Kept.trans ?_ (Kept.setCell _ _ _ (by simp)) | with_reducible refine Kept.trans ?_ (Kept.setRow _ _ _ (by simp)) | with_reducible refine Kept.trans ?_ (Kept.drew _ _) | with_reducible refine Kept.trans ?_ (Kept.alloc _ _ _) | with_reducible refine Kept.trans ?_ (Zb.kept.mono (by simp))))) kp
theorem Ze5 {l:List Int} {e:Int} (h:e∈QI l):e∈l:=by
 unfold QI at h
 simpa using h
theorem JQ {d:Array Int} {e:Int}:∀{m:Nat},m≤d.size→e∈Lib.compactUpTo d m→e∈d.toList
 | 0,_,h=>by simp[Lib.compactUpTo]at h
 | m+1,hm,h=>by
  rw[Lib.compactUpTo_succ]at h
  rcases List.mem_append.1 h with h1 | h1
  ·exact JQ (by omega) h1
  ·split at h1
   ·obtain rfl:e=d[m]! :=by simpa using h1
    rw[getElem!_pos d m (by omega)]
    simp
   ·simp at h1
theorem Zhq {l:List Int} {e:Int} (h:e∈Lib.compact l):e∈l:=by
 have:=JQ (d:=l.toArray) (m:=l.length) (by simp) h
 simpa using this
theorem Zno {w:World} {B base:Nat} {m:MeV} (h:w.heap[B]? =some (.cells m.cells.toArray 114 (0,0))) (hb:base≤B):Zbf w base (.slice (some ⟨B,0,none⟩) 1 1) [m]:=
 ⟨by rw[Qk],.inr ⟨B,1,_,rfl,hb,h,Nat.le_refl _,by unfold maxLen;omega,rfl,by simp[flM,MeV.cells,ExV.cells]⟩⟩
theorem Zlc {t:Tab} {h:WhV} {s:ByteArray} {e:Int} (he:e∈Yk t h s):(Y9 t e).isSome=true:=by
 have h1:=Ze5 he
 unfold Zi6 at h1
 simp only at h1
 rcases List.mem_append.1 h1 with h2 | h2
 ·exact ZeH (Zeh h2)
 ·unfold ZcQ at h2
  exact ZeH (List.mem_filter.1 (List.mem_filter.1 h2).1).1
theorem ZfU {t:Tab} {h:WhV} {x:ExV} {e:Int} (he:e∈Q7 t h x):∃(i:Nat) (y:Zx),e=(i:Int)∧t.ents[i]? =some y:=by
 have h1:=Ze5 (Zhq he)
 obtain⟨u,hu,rfl⟩:=List.mem_map.1 h1
 have hr:(Y9 t u).isSome=true:=by
  unfold Zam at hu
  split at hu
  ·exact Zlc hu
  ·simp at hu
 rcases Zf3 t u with h2 | ⟨n,y,h2,h3,_⟩
 ·unfold Yt at h2
  rw[if_pos hr]at h2
  omega
 ·exact⟨n,y,h2,h3⟩
theorem ZfV {t:Tab} (hs:t.ents.length≤5000) (h:WhV) (x:ExV):(Q7 t h x).length≤1000000000:=by
 refine Nat.le_trans (ZcC _) ?_
 have:(QI ((Zam t h x).map (Yt t))).length=(Zam t h x).length:=by simp[QI]
 rw[this]
 unfold Zam
 split
 ·exact Zcu hs h x.s
 ·simp
def SZ.own (base:Nat) (xs:List Int):SZ:=⟨fun _ v w=>w.ownsRow base 3 1 v xs.length (xs.map (Value.int .i64)),fun _ _ _ _ _ h1 hk _ _=>Zk h1 hk (fun _ _=>by simp)⟩
theorem SZ.own_p (base:Nat) (xs:List Int) (Z:List Nat) (v:Value) (w:World):(SZ.own base xs).p Z v w=w.ownsRow base 3 1 v xs.length (xs.map (Value.int .i64)):=rfl
def Zdh (t:Tab) (h:WhV) (x:ExV):List MeV:=Ju (fun i=>Zci (t.ents.getD i.toNat default) x i) (Q7 t h x)
theorem Tryz.entersName1:∀args w,(callFunc 107 args).run prog w= .ok (.enter 107 args) w:=Go.Proofs.enters_of func107 (by kernel_rfl) rfl
theorem Znz (X:List Nat) (w:World) (R mr:Nat) (v:Zp) (t:Tab) (h:WhV) (d:NdV) (hR:Qo w R mr v t h) (hd:NdT X w d) (h4:d.x.kind≠4) (hX:∀q,q∈X→q < w.heap.size) (hdef:∀y,y∈t.ents→∀q,q∈y.params→q.d.kind=0):
 Calls prog 59 #[.pointer (some ⟨R,0,none⟩),.pointer (some ⟨d.p,0,none⟩)] w (Zc1 X (Zdh t h d.x.er) w):=by
 have HDN:=hh (fun w' (hk:Kept [] w w')=>ZcB w' R mr v t h d.x (hR.kept hk) h4)
 have HV:Hid (Zdh t h d.x.er=Ju (fun i=>Zci (t.ents.getD i.toNat default) d.x.er i) (Q7 t h d.x)):=by
  have e1:Q7 t h d.x.er=Q7 t h d.x:=by
   unfold Q7 Zam
   rw[ExV.er_kind,ExV.er_s]
  rw[Hid,Zdh,e1]
 have hdl:=ZfV hR.tab.sm5.1 h d.x
 have HEA:Hid (∀W B2 B3 A c,Kept [] w W→Zc W B2 102 #[.pointer (some ⟨R,0,none⟩)]→Zc W B3 105 #[.pointer (some ⟨d.p,0,none⟩)]→ZM W A (Q7 t h d.x)→
  Calls prog 106 #[.slice A (Q7 t h d.x).length c,.func (.func 107) #[] #[.pointer (some ⟨B2,0,none⟩),.pointer (some ⟨B3,0,none⟩)]] W (Zc1 X (Zdh t h d.x.er) W)):=fun W B2 B3 A c hk hb2 hb3 hi=>by
  rw[HV.out]
  refine ZfS X W A c (Q7 t h d.x) hi hdl (fun q hq=>Nat.lt_of_lt_of_le (hX q hq) hk.size) _ _ _ Tryz.entersName1 (fun W' Y e hk' hY hYs he=>?_)
  obtain⟨i,y,rfl,hy⟩:=ZfU he
  haveI:=hb2.kept hk'
  haveI:=hb3.kept hk'
  have:=ZkF Y W' R mr v t h d i y (hR.kept (hk.trans hk')) hy ((hd.kept hk).later hk' hY) h4 hYs B2 B3 (hdef y (List.mem_of_getElem? hy))
  rw[show(t.ents.getD (i:Int).toNat default)=y by simp[List.getD_eq_getElem?_getD,hy]]
  exact this
 obtain⟨n0,hn0⟩:=hd.here
 haveI bd:=hn0.is
 clear hR hd h4 hn0 hdef HV
 have HX:=hh hX
 clear hX
 generalize Q7 t h d.x=xs at*
 go_enter func59,ntmps59
 go_wp2_with fail
 refine Zm ?_
 intro w1 hw1
 haveI p_w1:Zb w1 w:=⟨by rw[hw1];exact kp⟩
 haveI b2:Zc w1 w.heap.size 102 #[.pointer (some ⟨R,0,none⟩)]:=by rw[hw1];infer_instance
 haveI b3:Zc w1 (w.heap.size+1) 105 #[.pointer (some ⟨d.p,0,none⟩)]:=by rw[hw1];infer_instance
 clear hw1
 refine Zn [⟨5,[],false,.eq (.pointer (some ⟨R,0,none⟩))⟩,⟨6,[],false,.eq (.pointer (some ⟨d.p,0,none⟩))⟩,⟨7,[6],false,.eq (.pointer (some ⟨d.p,0,none⟩))⟩,⟨8,[7],false,.eq (.pointer (some ⟨d.p,0,none⟩))⟩,⟨9,[8],false,.eq (.agg d.x.cells.toArray)⟩,⟨10,[5,9],false,.own w.heap.size xs⟩,⟨11,[],false,.eq (.func (.func 107) #[] #[.pointer (some ⟨w.heap.size,0,none⟩),.pointer (some ⟨w.heap.size+1,0,none⟩)])⟩] (by kernel_rfl) (by kernel_rfl) ?_
 apply Exists.intro
 refine⟨fun vs=>?_,?_⟩
 ·simp only[List.map_cons,List.map_nil,PSz.toP,Jj,Act.put,List.setIfInBounds_toArray,List.set_cons_zero,List.set_cons_succ]
  exact rfl
 refine⟨⟨?_,?_,?_,?_,?_,?_,?_,trivial⟩,?_⟩<;>intro vs Z w2 hk hZ hg
 all_goals
  haveI p_w2:Zb w2 _:=⟨hk⟩
  have hz_w2:=hk.size
  have HZ:=hh hZ
  clear hk hZ
  (try simp only[ZG,Zi,Z8,SZ.eq_p,SZ.ex_p,SZ.wx_p,SZ.new_p,SZ.own_p,Nat.reduceEqDiff,reduceIte,and_true]at hg)
 ·clear hg
  go_wp2_with fail
  exact⟨kp,rfl,Z,.inl ⟨rfl,rfl⟩,rfl⟩
 ·clear hg
  go_wp2_with fail
  exact⟨kp,rfl,Z,.inl ⟨rfl,rfl⟩,rfl⟩
 ·obtain e6:=hg
  (try simp only[e6])
  go_wp2_with fail
  exact⟨kp,rfl,Z,.inl ⟨rfl,rfl⟩,rfl⟩
 ·obtain e7:=hg
  (try simp only[e7])
  go_wp2_with fail
  exact⟨kp,rfl,Z,.inl ⟨rfl,rfl⟩,rfl⟩
 ·obtain e8:=hg
  (try simp only[e8])
  go_wp2_with fail
  exact⟨kp,rfl,Z,.inl ⟨rfl,rfl⟩,rfl⟩
 ·obtain⟨e5,e9⟩:=hg
  (try simp only[e5,e9])
  go_wp2_with fail
  refine(HDN.out _ kp).mono ?_
  rintro e w9 ⟨vf,rfl,ho,hk9⟩
  go_wp2_with fail
  exact⟨hk9,rfl,Z,.inl ⟨rfl,rfl⟩,Z7 ho (Kept.size (X:=[]) kp)⟩
 ·clear hg
  go_wp2_with fail
  exact⟨kp,rfl,Z,.inl ⟨rfl,rfl⟩,rfl⟩
 obtain⟨e5,e6,e7,e8,e9,i10,e11⟩:=hg
 obtain⟨A,c,e10⟩:=Zq i10
 rw[e10]at i10
 simp only[e5,e6,e7,e8,e9,e10,e11]
 clear e5 e6 e7 e8 e9 e10 e11
 obtain⟨_,_,hin,_⟩:∃A' c',ZM w2 A xs∧True:=by
  obtain⟨A',c',e,_,_,_,hi⟩:=Yb.of_owns i10
  cases e
  exact⟨A,c,hi,trivial⟩
 have HIN:=hh hin
 clear hin i10
 go_wp2_with fail
 refine(HEA.out w2 _ _ A c kp inferInstance inferInstance HIN.out).mono ?_
 rintro e w3 ⟨vr,ms,rfl,ho3,he3,hd3,hk3⟩
 have HO3:=hh ho3
 have HE3:=hh he3
 have HD3:=hh hd3
 haveI p_w3:Zb w3 w2:=⟨hk3⟩
 clear ho3 he3 hd3 hk3
 go_wp2_with fail
 go_ret
 exact⟨vr,ms,rfl,HO3.out.base' (Kept.size (X:=[]) kp),HE3.out,HD3.out,kp⟩
theorem ZiU (X:List Nat) (w:World) (R:Nat) (d:NdV) (hd:NdT X w d) (hX:∀q,q∈X→q < w.heap.size):
 Calls prog 57 #[.pointer (some ⟨R,0,none⟩),.pointer (some ⟨d.p,0,none⟩)] w (Zc1 X [⟨0,1,false,ZfB d.x.er 0 []⟩] w):=by
 have HMA:=hh (fun W Y (hk:Kept [] w W) (hY:∀q,q∈Y→q∈X∨w.heap.size≤q)=>Zh1 Y W d.x 0 none 0 [] (hd.later hk hY).x (fun _ _=> .inl rfl) (by simp) (fun y hy=>by simp at hy))
 obtain⟨n0,hn0⟩:=hd.here
 haveI bd:=hn0.is
 clear hd hn0
 have HX:=hh hX
 clear hX
 go_enter func57,ntmps57
 go_wp2_with fail
 refine(HMA.out _ X kp (fun q hq=> .inl hq)).mono ?_
 rintro e w2 ⟨z,rfl,hze,hzd,hk2⟩
 have HZE:=hh hze
 have HZD:=hh hzd
 haveI p_w2:Zb w2 w:=⟨hk2⟩
 clear hze hzd hk2
 go_wp2_with fail
 go_ret
 refine⟨.slice (some ⟨w2.heap.size,0,none⟩) 1 1,[⟨0,1,false,z⟩],rfl,Zno Zc.has (Kept.size (X:=[]) kp),by rw[List.map_cons,List.map_nil,MeV.er,HZE.out];rfl,fun m hm=>?_,kp⟩
 obtain rfl:m=⟨0,1,false,z⟩:=by simpa using hm
 refine HZD.out.later (w':=w2.alloc _) kp (fun q hq=>(Zl.1 hq).elim (fun h=> .inr ?_) .inl)
 have:w2.heap.size=q:=by simpa [Value.ownBlock]using h
 omega
def Zr5:ByteArray:=⟨#[80,111,115]⟩
def ZrB:ByteArray:=⟨#[86,97,108]⟩
def Zka:ByteArray:=⟨#[83,117,99,99]⟩
def Zkv:ByteArray:=⟨#[80,114,101,100]⟩
def ZbX (x:ExV):Bool:=x.kind == 6 && Lib.containsS [Zr5,ZrB,Zka,Zkv] x.s
theorem Zgm (w:World) (x:ExV):Calls prog 118 #[.agg x.cells.toArray] w (ZE (.bool (ZbX x)) w):=by
 have HV:Hid (ZbX x=(x.kind == 6 && Lib.containsS [Zr5,ZrB,Zka,Zkv] x.s)):=rfl
 have HC:Hid (∀W B,W.heap[B]? =some (.cells #[.string ⟨#[80,111,115]⟩,.string ⟨#[86,97,108]⟩,.string ⟨#[83,117,99,99]⟩,.string ⟨#[80,114,101,100]⟩] 9 (0,0))→
  Calls prog 174 #[.slice (some ⟨B,0,none⟩) 4 4,.string x.s] W (ZE (.bool (Lib.containsS [Zr5,ZrB,Zka,Zkv] x.s)) W)):=fun W B hB=>by
  refine(Tryz.slices_Contains_string B 0 4 4 [Zr5,ZrB,Zka,Zkv] x.s W (by decide) (by decide) (fun j hj=>?_)).mono ?_
  ·rw[Nat.zero_add,cell_of_row _ _ _ _ _ _ hB]
   match j,hj with
   | 0,_=>rfl
   | 1,_=>rfl
   | 2,_=>rfl
   | 3,_=>rfl
  ·rintro e w' ⟨rfl,rfl⟩
   exact⟨rfl,Kept.refl _ _⟩
 generalize Lib.containsS [Zr5,ZrB,Zka,Zkv] x.s=q at*
 cases hk:(x.kind == 6)
 ·have HW:Hid (ZbX x=false):=by rw[Hid,HV.out,hk];rfl
  clear HC
  go_enter func118,ntmps118
  go_wp2_with fail
  rw[HW.out]
  exact Za rfl (Zj results118 (Zh rfl)) kp
 ·have HW:Hid (ZbX x=q):=by rw[Hid,HV.out,hk];rfl
  go_enter func118,ntmps118
  go_wp2_with fail
  refine nxt (HC.out _ (w.heap.size+1) (Zf (by simp))) fun w1 p_w1=>?_;have hz_w1:=szk w w1
  go_wp2_with fail
  rw[HW.out]
  exact Za rfl (Zj results118 (Zh rfl)) kp
end
end Go.Proofs.YtfaecpkocgcofaaGreatDoor
