/- Lemmas for ResolveSettles, printed small: N8. -/
import Derived.Test.YtfaecpkocgcofaaGreatDoorZ25
set_option linter.all false
set_option maxRecDepth 100000
set_option maxHeartbeats 8000000
open Go.Proofs.Tryz
namespace Go.Proofs.YtfaecpkocgcofaaGreatDoor
section
open Go.RowKit
structure Zc3 (X:List Nat) (t:Tab) (params:List Zd) (al:List AsV) (gs:List (Int→Bool→Int×ExV)) (w:World) (gA gH:Nat) (bA bH i:Nat) (n:Int) (has:List Bool) (zs:List ExV):Prop where
 st:Zbs t params al gs i=some (n,zs.map ExV.er,has)
 oa:Zgj w bA (.slice (some ⟨gA,0,none⟩) params.length params.length) zs
 oh:w.ownsRow bH 4 1 (.slice (some ⟨gH,0,none⟩) params.length params.length) params.length (has.map Value.bool)
 ex:∀z,z∈zs→ExD (gA::gH::X) w z
theorem Zc3.len {X:List Nat} {t:Tab} {params:List Zd} {al:List AsV} {gs:List (Int→Bool→Int×ExV)} {w:World} {gA gH bA bH i:Nat} {n:Int} {has:List Bool} {zs:List ExV} (h:Zc3 X t params al gs w gA gH bA bH i n has zs):zs.length=params.length∧has.length=params.length:=by
 have:=ZeK h.st
 simpa using this
theorem Zmf {t:Tab} {params:List Zd} {al:List AsV} {gs:List (Int→Bool→Int×ExV)} (hg:∀g∈gs,∀a b,0≤(g a b).1∧(g a b).1≤2):∀{i:Nat} {s:Zjr},Zbs t params al gs i=some s→i≤gs.length→0≤s.1∧s.1≤2
 | 0,s,h,_=>by
  unfold Zbs at h
  cases h
  simp
 | i+1,s,h,hi=>by
  unfold Zbs at h
  split at h
  ·cases h
  ·rename_i s0 h0
   have h1:=Zmf hg h0 (by omega)
   unfold Zhy at h
   split at h
   ·cases h
   ·cases h
    have h2:=hg (gs.getD i default) (by rw[List.getD_eq_getElem?_getD,List.getElem?_eq_getElem (by omega)];exact List.getElem_mem _) (ofP t (params.getD (Ziu params (al.getD i default) i).toNat default).sub) ((params.getD (Ziu params (al.getD i default) i).toNat default).mode == 2 || (params.getD (Ziu params (al.getD i default) i).toNat default).mode == 3)
    have h3:=Int.mul_nonneg h1.1 h2.1
    unfold ZsP
    simp only
    omega
theorem Zmd {t:Tab} {params:List Zd} {al:List AsV} {gs:List (Int→Bool→Int×ExV)} {i:Nat} {s:Zjr} {a:AsV} {g:Int→Bool→Int×ExV} (h:Zbs t params al gs i=some s) (ha:al[i]? =some a) (hg:gs[i]? =some g):Zbs t params al gs (i+1)=Zhy t params a g i s:=by
 rw[Zbs,h]
 simp[List.getD_eq_getElem?_getD,ha,hg]
theorem YN {t:Tab} {params:List Zd} {al:List AsV} {gs:List (Int→Bool→Int×ExV)} {i:Nat} (h:Zbs t params al gs i=none) (hi:i≤gs.length):Zap t params al gs=(0,[]):=by
 unfold Zap
 rw[Zme h _ hi]
theorem Zf6 (X:List Nat) (w:World) (R mr:Nat) (v:Zp) (t:Tab) (h:WhV) (A:Option Addr) (c:Nat) (params:List Zd) (d:NdV) (G:NdV→Int→Bool→Int×ExV) (hR:Qo w R mr v t h) (hP:Zo Zd 13 Zd.cells w A params) (hl:params.length≤5000) (hdef:∀q,q∈params→q.d.kind=0)
 (hd:NdD [] w d) (hal:d.x.al.length=d.args.length) (hG:∀y,y∈d.args→∀a b,0≤(G y a b).1∧(G y a b).1≤2) (hX:∀q,q∈X→q < w.heap.size)
 (hW:∀y ty obj W Y,y∈d.args→Kept [] w W→(∀q,q∈Y→q∈X∨w.heap.size≤q)→(∀q,q∈Y→q < W.heap.size)→
  Calls prog 32 #[.pointer (some ⟨R,0,none⟩),.pointer (some ⟨y.p,0,none⟩),.int .i64 ty,.bool obj] W (Zjn Y (G y ty obj) W)):
 Calls prog 48 #[.pointer (some ⟨R,0,none⟩),.slice A params.length c,.pointer (some ⟨d.p,0,none⟩)] w (Zas X (Zap t params d.x.al (d.args.map G)) w):=by
 have HP:=hh hP
 have HD:=hh hdef
 have HX:=hh hX
 have HW:=hh hW
 have HOF:=hh (fun w' n (hk:Kept [] w w')=>Zpc w' R mr v t h n (hR.kept hk))
 have HND:=hh hd
 have HBD:Hid (∀i s,Zbs t params d.x.al (d.args.map G) i=some s→i≤d.args.length→0≤s.1∧s.1≤2):=fun i s h hi=>Zmf (fun g hg a b=>by
  obtain⟨y,hy,rfl⟩:=List.mem_map.1 hg
  exact hG y hy a b) h (by simpa using hi)
 have HGB:=hh hG
 obtain⟨ia,ha0,ha1,ha2,ha3⟩:=info_parts Zhv
 obtain⟨ib,hb0,hb1,hb2,hb3⟩:=info_parts Zf2
 have hma:ia.bytes*params.length≤281474976710656:=by rw[ha3];omega
 have hmb:ib.bytes*params.length≤281474976710656:=by rw[hb3];omega
 have hml:params.length≤maxLen:=by unfold maxLen;omega
 clear hP hdef hX hR hW hG
 obtain⟨n0,hn0⟩:=hd.here
 haveI bd:=hn0.is
 have hal2:=hn0.2.2.2.2.2.2.2.2.2.2
 have HQ:=hh hn0.2.2.2.2.2.2.2.2.1
 clear hd hn0
 go_enter func48,ntmps48
 go_upto_region 2 with(at_make;refine wpList_make_full _ rfl _ _ 39 rfl (w.heap.size+1) 63 ia _ 10 underlying39 ha0 ha1 ha2 .i64 .i64 _ _ params.length rfl rfl rfl rfl hma hml (by simp) ?_;intro w1 hown1 hgr1)
 have hk1:Kept [] w w1:=Kept.grown (a:=w) (b:=w.alloc (.cells #[.pointer (some ⟨d.p,0,none⟩)] 105)) kp hgr1 (fun _ h=>by cases h)
 have HO1:Hid (Zgj w1 (w.heap.size+1) (.slice (some ⟨w.heap.size+1,0,none⟩) params.length params.length) (List.replicate params.length Zg)):=by
  have h:=hown1
  rw[show(w.alloc (.cells #[.pointer (some ⟨d.p,0,none⟩)] 105)).heap.size=w.heap.size+1 by simp]at h
  rw[Zh9]at h
  rw[Hid]
  unfold Zgj
  rw[List.length_replicate]
  exact h
 haveI p_w1:Zb w1 w:=⟨hk1⟩
 haveI bp:Zc w1 w.heap.size 105 #[.pointer (some ⟨d.p,0,none⟩)]:=⟨(Kept.of_grown hgr1 (X:=[]) (fun _ h=>by cases h)).obj (Zf rfl) (by simp)⟩
 have hlt1:=(HO1.out.lt _ rfl).2
 clear hown1 hgr1 hk1 hma
 go_upto_region 3 with(at_make;refine wpList_make_full _ rfl _ _ 162 rfl w1.heap.size 4 ib _ 1 underlying162 hb0 hb1 hb2 .i64 .i64 _ _ params.length rfl rfl rfl rfl hmb hml (Nat.le_refl _) ?_;intro w2 hown2 hgr2)
 have HO2:Hid (w2.ownsRow w1.heap.size 4 1 (.slice (some ⟨w1.heap.size,0,none⟩) params.length params.length) params.length ((List.replicate params.length false).map Value.bool)):=by
  have h:=hown2
  rw[Nat.mul_one,show(Value.bool false).cells= #[.bool false]from rfl,toList_madeCells_one]at h
  rw[Hid,List.map_replicate]
  exact h
 have hk2:Kept [] w1 w2:=Kept.of_grown hgr2 (fun _ h=>by cases h)
 have HO1':=hh (HO1.out.keep hk2 (fun _ _=>by simp))
 haveI p_w2:Zb w2 w1:=⟨hk2⟩
 have HS0:Hid (Zc3 X t params d.x.al (d.args.map G) w2 (w.heap.size+1) w1.heap.size (w.heap.size+1) w1.heap.size 0 1 (List.replicate params.length false) (List.replicate params.length Zg)):=
  ⟨by rw[Zbs,List.map_replicate,YD],HO1'.out,HO2.out,fun z hz=>by rw[List.eq_of_mem_replicate hz];exact ZaX _ _⟩
 have hlt2:=(HO2.out.lt _ rfl).2
 have HK2:Hid (Kept [] w w2):=kp
 haveI bp2:Zc w2 w.heap.size 105 #[.pointer (some ⟨d.p,0,none⟩)]:=inferInstance
 clear hown2 hgr2 hk2 hmb hml HO1 HO1' HO2 bp p_w2 p_w1
 generalize hgH:w1.heap.size=gH at*
 have hgA:w.heap.size < w.heap.size+1:=by omega
 generalize w.heap.size+1=gA at*
 haveI p_w2':Zb w2 w:=⟨HK2.out⟩
 go_wp2_with fail
 generalize d.qa=QA at*
 go_loopw [6,7,29] (fun s6 s7 s29 wr=>∃(i:Nat) (n:Int) (has:List Bool) (zs:List ExV),s29= .int .i64 i∧i≤d.args.length∧s6= .int .i64 n∧s7= .slice (some ⟨gA,0,none⟩) params.length params.length∧Zc3 X t params d.x.al (d.args.map G) wr gA gH gA gH i n has zs∧Kept [gA,gH] w2 wr) (fun _ _ s29 _=>d.args.length - (intOf s29).toNat)
 case atStart=>exact⟨0,1,_,_,rfl,Nat.zero_le _,rfl,rfl,HS0.out,Kept.refl _ _⟩
 case round=>
  obtain⟨i,n,has,zs,rfl,hi,rfl,rfl,hst,hkr⟩:=hrel
  have HST:=hh hst
  have HKR:=hh hkr
  have HKW:Hid (Kept [] w wr):=HK2.out.above hkr (fun q hq=>by simp at hq;omega)
  have hzr:=hkr.size
  haveI bpr:Zc wr w.heap.size 105 #[.pointer (some ⟨d.p,0,none⟩)]:=⟨hkr.obj bp2.has (by simp;omega)⟩
  obtain⟨w3,rfl⟩:∃w3:World,w3=wr:=⟨_,rfl⟩
  haveI p_w3:Zb w3 w:=⟨HKW.out⟩
  have hnb:=HBD.out i _ hst.st hi
  simp only at hnb
  clear hst hkr HS0
  by_cases hlt:i < d.args.length
  ·obtain⟨y,hy⟩:∃y,d.args[i]? =some y:=⟨_,List.getElem?_eq_getElem hlt⟩
   obtain⟨a,ha⟩:∃a,d.x.al[i]? =some a:=⟨_,List.getElem?_eq_getElem (by omega)⟩
   rcases HQ.out with h0 | ⟨qb,qo,rfl,hcq⟩
   ·have:=congrArg List.length h0
    simp at this
    rw[this]at hlt
    simp at hlt
   have qp:=HKW.out.cell (hcq i y.p (by rw[List.getElem?_map,hy];rfl)) (by simp)
   have HYM:Hid (y∈d.args):=List.mem_of_getElem? hy
   have HNX:Hid (Zbs t params d.x.al (d.args.map G) (i+1)=Zhy t params a (G y) i (n,zs.map ExV.er,has)):=Zmd HST.out.st ha (by rw[List.getElem?_map,hy];rfl)
   obtain⟨n1,hn1⟩:=(HND.out.kept HKW.out).here
   have HIX:Hid (∀W (C:Nat),Kept [] w3 W→Zc W w.heap.size 105 #[.pointer (some ⟨d.p,0,none⟩)]→Zc W C 3 #[.int .i64 i]→Calls prog 90 #[.slice A params.length c,.func (.func 91) #[] #[.pointer (some ⟨w.heap.size,0,none⟩),.pointer (some ⟨C,0,none⟩)]] W (ZE (.int .i64 (Zal (fun q=>ZcX a q.name) params)) W)):=
    fun W C hk hB hC=>ZfF W A c params (by omega) (HP.out.kept (HKW.out.trans hk)) _ _ _ Tryz.entersAct1 (fun W' q hk' _=>by
     haveI:=hB.kept hk'
     haveI:=hC.kept hk'
     exact ZoE W' w.heap.size C d a i q n1 (hn1.kept (hk.trans hk')) ha)
   cases n1 with
   | zero=>exact hn1.2.1.elim
   | succ n1=>
   obtain⟨ab,ao,haa,har⟩:=hn1.2.1.2.2.1.some_ ha
   haveI ia3:QH w3 ab (ao+i*10) a:=⟨har i a ha⟩
   have hall:i < d.x.al.length:=(List.getElem?_eq_some_iff.1 ha).1
   have hall2:=hn1.2.1.2.2.2.2.2.1
   have HAC:Hid (a.2.1.length≤140737488355328):=(hn1.2.1.asIn (List.mem_of_getElem? ha)).2.1
   have hac:=HAC.out
   clear hcq hy ha har hn1
   have HIL:=hh (Zk5 (p:=fun q=>ZcX a q.name) params)
   generalize hidx:Zal (fun q=>ZcX a q.name) params=idx at*
   go_upto_region 8 with(fail)
   refine Zm ?_
   intro w4 hw4
   haveI p_w4:Zb w4 w3:=⟨by rw[hw4];exact kp⟩
   haveI bc4:Zc w4 w3.heap.size 3 #[.int .i64 i]:=⟨by rw[hw4];exact Zc.has⟩
   clear hw4
   go_wp2_with fail
   refine nxt (HIX.out _ _ kp inferInstance inferInstance) fun w5 p_w5=>?_;have hz_w5:=szk w w5
   clear HIX
   by_cases hcz:a.2.1= []
   ·have hcl:((a.2.1.length:Int) == 0)=true:=by rw[hcz];rfl
    have HKK:Hid (Ziu params a i=(i:Int)):=by rw[Hid,Ziu,if_pos hcz]
    go_wp2_with fail
    refine Ze 11 0 (fun _=> .cells #[] 0) (by kernel_rfl) (by kernel_rfl) (fun i o h1 h2=>by omega) (fun _ _ _ _ _ h=>h) ?_;apply Exists.intro;refine⟨fun U hU hN=>?_,?_⟩;simp only[List.take_succ_cons,List.take_zero]
    ·repeat(go_big_quiet_step (fail))
     refine wpQuiet_nil ?_
     exact rfl
    simp only[List.drop_succ_cons,List.drop_zero,List.take_succ_cons,List.take_zero]
    intro w6 hk_w6 _
    haveI p_w6:Zb w6 _:=⟨hk_w6⟩
    clear hk_w6
    go_upto_region 11 with(fail)
    by_cases h2:params.length≤i
    ·have HNO:Hid (Zap t params d.x.al (d.args.map G)=(0,[])):=YN (i:=i+1) (by rw[HNX.out,Zhy,HKK.out,if_pos];simp[Zad,h2]) (by simp;omega)
     have h2i:(params.length:Int)≤(i:Int):=by omega
     go_wp2_with fail
     refine bodyPost_ret (v:= .tuple #[.int .i64 0,.slice none 0 0]) (Qm results48 (Zh rfl) (Zh rfl)) rfl ?_
     rw[HNO.out]
     exact Zas.no X kp
    obtain⟨q,hq⟩:∃q,params[i]? =some q:=⟨_,List.getElem?_eq_getElem (by omega)⟩
    obtain⟨pb,po,rfl,hpr⟩:=HP.out.some_ hq
    haveI ip:Ye w pb (po+i*13) q:=⟨hpr i q hq⟩
    have HQD:Hid (params.getD i default=q):=by rw[Hid,List.getD_eq_getElem?_getD,hq];rfl
    have hpl:i < params.length:=by omega
    have HLEN:=hh HST.out.len
    have hhl:i < has.length:=by have:=HLEN.out.2;omega
    have HO6:=hh (Zk (X:=[]) HST.out.oh (show Kept [] w3 w6 from kp) (fun _ _=>by simp))
    have HE6:=hh (Zgj.keep (X:=[]) HST.out.oa (show Kept [] w3 w6 from kp) (fun _ _=>by simp))
    clear hpr hq h2
    cases hhas:has.getD i false
    case true=>
     obtain⟨qh,qf⟩:=Ym (g:=gH) (k:=i) (u:= .bool true) HO6.out rfl (by rw[List.getElem?_map];rw[List.getD_eq_getElem?_getD,List.getElem?_eq_getElem hhl]at hhas;rw[List.getElem?_eq_getElem hhl];simpa using hhas)
     have HNO:Hid (Zap t params d.x.al (d.args.map G)=(0,[])):=YN (i:=i+1) (by rw[HNX.out,Zhy,HKK.out,if_pos];simp[Zad,-List.getD_eq_getElem?_getD,hhas]) (by simp;omega)
     go_wp2_with fail
     refine bodyPost_ret (v:= .tuple #[.int .i64 0,.slice none 0 0]) (Qm results48 (Zh rfl) (Zh rfl)) rfl ?_
     rw[HNO.out]
     exact Zas.no X kp
    obtain⟨qh,qf⟩:=Ym (g:=gH) (k:=i) (u:= .bool false) HO6.out rfl (by rw[List.getElem?_map];rw[List.getD_eq_getElem?_getD,List.getElem?_eq_getElem hhl]at hhas;rw[List.getElem?_eq_getElem hhl];simpa using hhas)
    by_cases ho:ofP t q.sub < 0
    ·have HNO:Hid (Zap t params d.x.al (d.args.map G)=(0,[])):=YN (i:=i+1) (by rw[HNX.out,Zhy,HKK.out,if_pos];simp[Zad,-List.getD_eq_getElem?_getD,HQD.out,ho]) (by simp;omega)
     go_wp2_with fail
     refine nxt (HOF.out _ _ kp) fun w7 p_w7=>?_;have hz_w7:=szk w w7
     go_wp2_with fail
     refine bodyPost_ret (v:= .tuple #[.int .i64 0,.slice none 0 0]) (Qm results48 (Zh rfl) (Zh rfl)) rfl ?_
     rw[HNO.out]
     exact Zas.no X kp
    go_wp2_with fail
    refine nxt (HOF.out _ _ kp) fun w7 p_w7=>?_;have hz_w7:=szk w w7
    have HO7:=hh (Zk (X:=[]) HO6.out (show Kept [] w6 w7 from kp) (fun _ _=>by simp))
    have HE7:=hh (HE6.out.keep (X:=[]) (show Kept [] w6 w7 from kp) (fun _ _=>by simp))
    obtain⟨qh7,qf7⟩:=Ym (g:=gH) (k:=i) (u:= .bool false) HO7.out rfl (by rw[List.getElem?_map];rw[List.getD_eq_getElem?_getD,List.getElem?_eq_getElem hhl]at hhas;rw[List.getElem?_eq_getElem hhl];simpa using hhas)
    have HYES:Hid (Zbs t params d.x.al (d.args.map G) (i+1)=some (min 2 (n*(G y (ofP t q.sub) (q.mode == 2 || q.mode == 3)).1),(zs.map ExV.er).set i (G y (ofP t q.sub) (q.mode == 2 || q.mode == 3)).2,has.set i true)):=by
     rw[Hid,HNX.out,Zhy,HKK.out,if_neg (by simp[Zad,-List.getD_eq_getElem?_getD,HQD.out,hhas];omega)]
     simp only[ZsP,Int.toNat_natCast,HQD.out]
    have hgb:=HGB.out y HYM.out (ofP t q.sub) (q.mode == 2 || q.mode == 3)
    go_upto_region 14 with(fail)
    refine Zm ?_
    intro w8 hw8
    have hk8:Kept [gH] w7 w8:=by rw[hw8];exact Kept.setCell _ _ _ (by simp)
    have HK7:Hid (Kept [] w w7):=kp
    have HK8:Hid (Kept [] w w8):=HK7.out.above hk8 (fun z hz=>by simp at hz;omega)
    have HK38:Hid (Kept [gA,gH] w3 w8):=((show Kept [] w3 w7 from kp).mono (by simp)).trans (hk8.mono (by simp))
    have HO8:Hid (w8.ownsRow gH 4 1 (.slice (some ⟨gH,0,none⟩) params.length params.length) params.length ((has.set i true).map Value.bool)):=by
     rw[hw8,Hid,List.map_set]
     exact ZgR HO7.out rfl hpl _
    have HE8:=hh (HE7.out.keep hk8 (fun k hk=>by simp[Value.ownBlock]at hk;simp;omega))
    haveI p_w8:Zb w8 w:=⟨HK8.out⟩
    have hz8:w2.heap.size≤w8.heap.size:=by
     have h1:=HKR.out.size
     have h2:=HK38.out.size
     omega
    have HWY:Hid (∀W Z,Kept [] w8 W→zIn w8 Z W→Calls prog 32 #[.pointer (some ⟨R,0,none⟩),.pointer (some ⟨y.p,0,none⟩),.int .i64 (ofP t q.sub),.bool (q.mode == 2 || q.mode == 3)] W (Zjn ((gA::gH::X)++Z) (G y (ofP t q.sub) (q.mode == 2 || q.mode == 3)) W)):=fun W Z hk hz=>
     HW.out y _ _ W _ HYM.out (HK8.out.trans hk) (fun r hr=>by
      rcases List.mem_append.1 hr with h1 | h1
      ·rcases List.mem_cons.1 h1 with rfl | h1
       ·exact .inr (by omega)
       ·rcases List.mem_cons.1 h1 with rfl | h1
        ·exact .inr (by omega)
        ·exact .inl h1
      ·exact .inr (Nat.le_trans HK8.out.size (hz r h1).1)) (fun r hr=>by
      have hs:=hk.size
      rcases List.mem_append.1 hr with h1 | h1
      ·rcases List.mem_cons.1 h1 with rfl | h1
       ·omega
       ·rcases List.mem_cons.1 h1 with rfl | h1
        ·omega
        ·have:=HX.out r h1
         have:=HK8.out.size
         omega
      ·exact(hz r h1).2)
    clear hw8 hk8 qh qf qh7 qf7 HO6 HE6 HO7 HE7 hhas HNX HKK p_w7 p_w6 p_w5 p_w4
    cases m2:(q.mode == 2)
    case true=>
     rw[m2,Bool.true_or]at HYES HWY hgb
     generalize G y (ofP t q.sub) true=gg at*
     obtain⟨g1,g2⟩:=gg
     refine Zn [⟨77,[],false,.eq (.pointer (some ⟨R,0,none⟩))⟩,⟨78,[],false,.eq (.pointer (some ⟨y.p,0,none⟩))⟩,⟨79,[],false,.eq (.pointer (some ⟨R,0,none⟩))⟩,⟨80,[],false,.eq (.slice (some ⟨pb,po,none⟩) params.length c)⟩,⟨81,[],false,.eq (.int .i64 (i:Int))⟩,⟨82,[80,81],false,.eq (.pointer (some ⟨pb,po+i*13,none⟩))⟩,⟨83,[82],false,.eq (.pointer (some ⟨pb,po+i*13+2,none⟩))⟩,⟨84,[83],false,.eq (.int .i64 q.sub)⟩,⟨85,[79,84],false,.eq (.int .i64 (ofP t q.sub))⟩,⟨86,[],false,.eq (.slice (some ⟨pb,po,none⟩) params.length c)⟩,⟨87,[],false,.eq (.int .i64 (i:Int))⟩,⟨88,[86,87],false,.eq (.pointer (some ⟨pb,po+i*13,none⟩))⟩,⟨89,[88],false,.eq (.pointer (some ⟨pb,po+i*13+1,none⟩))⟩,⟨90,[89],false,.eq (.int .u8 q.mode)⟩,⟨91,[90],false,.eq (.bool true)⟩,⟨92,[91],false,.eq (.bool true)⟩,⟨93,[92],false,.eq undef⟩,⟨94,[92],false,.eq undef⟩,⟨95,[92],false,.eq undef⟩,⟨96,[92],false,.eq undef⟩,⟨97,[92],false,.eq undef⟩,⟨98,[92],false,.eq undef⟩,⟨99,[92,98],false,.eq (.bool true)⟩,⟨100,[77,78,85,99],false,.wx (gA::gH::X) (g1,g2)⟩,⟨76,[100],false,.wx (gA::gH::X) (g1,g2)⟩,⟨101,[76],false,.eq (.int .i64 g1)⟩,⟨102,[76],false,.ex (gA::gH::X) g2⟩,⟨13,[],true,.new Zg.cells.toArray 41⟩,⟨12,[101],false,.eq (.int .i64 g1)⟩] (by kernel_rfl) (by kernel_rfl) ?_
     apply Exists.intro
     refine⟨fun vs=>?_,?_⟩
     ·simp only[List.map_cons,List.map_nil,PSz.toP,Jj,Act.put,List.setIfInBounds_toArray,List.set_cons_zero,List.set_cons_succ]
      exact rfl
     refine⟨⟨?_,?_,?_,?_,?_,?_,?_,?_,?_,?_,?_,?_,?_,?_,?_,?_,?_,?_,?_,?_,?_,?_,?_,?_,?_,?_,?_,?_,?_,trivial⟩,?_⟩<;>intro vs Z w9 hk hZ hg
     all_goals
      haveI p_w9:Zb w9 _:=⟨hk⟩
      have hz_w9:=hk.size
      have HZ:=hh hZ
      clear hk hZ
      (try simp only[ZG,Zi,Z8,SZ.eq_p,SZ.ex_p,SZ.wx_p,SZ.new_p,Nat.reduceEqDiff,reduceIte,and_true]at hg)
     ·clear hg
      go_wp2_with fail
      exact⟨kp,rfl,Z,.inl ⟨rfl,rfl⟩,rfl⟩
     ·clear hg
      go_wp2_with fail
      exact⟨kp,rfl,Z,.inl ⟨rfl,rfl⟩,rfl⟩
     ·clear hg
      go_wp2_with fail
      exact⟨kp,rfl,Z,.inl ⟨rfl,rfl⟩,rfl⟩
     ·clear hg
      go_wp2_with fail
      exact⟨kp,rfl,Z,.inl ⟨rfl,rfl⟩,rfl⟩
     ·clear hg
      go_wp2_with fail
      exact⟨kp,rfl,Z,.inl ⟨rfl,rfl⟩,rfl⟩
     ·obtain⟨e80,e81⟩:=hg
      (try simp only[e80,e81])
      go_wp2_with fail
      exact⟨kp,rfl,Z,.inl ⟨rfl,rfl⟩,rfl⟩
     ·obtain e82:=hg
      (try simp only[e82])
      go_wp2_with fail
      exact⟨kp,rfl,Z,.inl ⟨rfl,rfl⟩,rfl⟩
     ·obtain e83:=hg
      (try simp only[e83])
      go_wp2_with fail
      exact⟨kp,rfl,Z,.inl ⟨rfl,rfl⟩,rfl⟩
     ·obtain⟨e79,e84⟩:=hg
      (try simp only[e79,e84])
      go_wp2_with fail
      refine(HOF.out _ _ kp).mono ?_
      rintro e w9 ⟨rfl,hk9⟩
      go_wp2_with fail
      exact⟨hk9,rfl,Z,.inl ⟨rfl,rfl⟩,rfl⟩
     ·clear hg
      go_wp2_with fail
      exact⟨kp,rfl,Z,.inl ⟨rfl,rfl⟩,rfl⟩
     ·clear hg
      go_wp2_with fail
      exact⟨kp,rfl,Z,.inl ⟨rfl,rfl⟩,rfl⟩
     ·obtain⟨e86,e87⟩:=hg
      (try simp only[e86,e87])
      go_wp2_with fail
      exact⟨kp,rfl,Z,.inl ⟨rfl,rfl⟩,rfl⟩
     ·obtain e88:=hg
      (try simp only[e88])
      go_wp2_with fail
      exact⟨kp,rfl,Z,.inl ⟨rfl,rfl⟩,rfl⟩
     ·obtain e89:=hg
      (try simp only[e89])
      go_wp2_with fail
      exact⟨kp,rfl,Z,.inl ⟨rfl,rfl⟩,rfl⟩
     ·obtain e90:=hg
      (try simp only[e90])
      go_wp2_with fail
      exact⟨kp,rfl,Z,.inl ⟨rfl,rfl⟩,rfl⟩
     ·obtain e91:=hg
      (try simp only[e91])
      go_wp2_with fail
      exact⟨kp,rfl,Z,.inl ⟨rfl,rfl⟩,rfl⟩
     ·obtain e92:=hg
      (try simp only[e92])
      go_wp2_with fail
      exact⟨kp,rfl,Z,.inl ⟨rfl,rfl⟩,rfl⟩
     ·obtain e92:=hg
      (try simp only[e92])
      go_wp2_with fail
      exact⟨kp,rfl,Z,.inl ⟨rfl,rfl⟩,rfl⟩
     ·obtain e92:=hg
      (try simp only[e92])
      go_wp2_with fail
      exact⟨kp,rfl,Z,.inl ⟨rfl,rfl⟩,rfl⟩
     ·obtain e92:=hg
      (try simp only[e92])
      go_wp2_with fail
      exact⟨kp,rfl,Z,.inl ⟨rfl,rfl⟩,rfl⟩
     ·obtain e92:=hg
      (try simp only[e92])
      go_wp2_with fail
      exact⟨kp,rfl,Z,.inl ⟨rfl,rfl⟩,rfl⟩
     ·obtain e92:=hg
      (try simp only[e92])
      go_wp2_with fail
      exact⟨kp,rfl,Z,.inl ⟨rfl,rfl⟩,rfl⟩
     ·obtain⟨e92,e98⟩:=hg
      (try simp only[e92,e98])
      go_wp2_with fail
      exact⟨kp,rfl,Z,.inl ⟨rfl,rfl⟩,rfl⟩
     ·obtain⟨e77,e78,e85,e99⟩:=hg
      (try simp only[e77,e78,e85,e99])
      go_wp2_with fail
      refine(HWY.out w9 Z (Kept.prev (Kept.refl _ _)) HZ.out).mono ?_
      rintro e w9 ⟨x,rfl,hp,hi,hk9⟩
      go_wp2_with fail
      exact⟨hk9,rfl,Z,.inl ⟨rfl,rfl⟩,x,rfl,hp,hi⟩
     ·obtain⟨x100,e100,f100,i100⟩:=hg
      simp only[e100]
      go_wp2_with fail
      exact⟨kp,rfl,Z,.inl ⟨rfl,rfl⟩,x100,rfl,f100,i100⟩
     ·obtain⟨x76,e76,f76,i76⟩:=hg
      simp only[e76]
      go_wp2_with fail
      exact⟨kp,rfl,Z,.inl ⟨rfl,rfl⟩,rfl⟩
     ·obtain⟨x76,e76,f76,i76⟩:=hg
      simp only[e76]
      go_wp2_with fail
      exact⟨kp,rfl,Z,.inl ⟨rfl,rfl⟩,x76,rfl,f76,i76⟩
     ·clear hg
      go_wp2_with fail
      exact⟨kp,rfl,_::Z,.inr ⟨rfl,_,rfl,rfl,Nat.le_refl _,by simp⟩,_,rfl,List.mem_cons_self,Zf rfl⟩
     ·obtain e101:=hg
      (try simp only[e101])
      go_wp2_with fail
      exact⟨kp,rfl,Z,.inl ⟨rfl,rfl⟩,rfl⟩
     obtain⟨e77,e78,e79,e80,e81,e82,e83,e84,e85,e86,e87,e88,e89,e90,e91,e92,e93,e94,e95,e96,e97,e98,e99,⟨x100,e100,f100,i100⟩,⟨x76,e76,f76,i76⟩,e101,⟨x102,e102,f102,i102⟩,⟨B13,e13,b13,h13⟩,e12⟩:=hg
     simp only[e77,e78,e79,e80,e81,e82,e83,e84,e85,e86,e87,e88,e89,e90,e91,e92,e93,e94,e95,e96,e97,e98,e99,e101,e102,e12,e13]
     clear e77 e78 e79 e80 e81 e82 e83 e84 e85 e86 e87 e88 e89 e90 e91 e92 e93 e94 e95 e96 e97 e98 e99 e100 f100 i100 e76 f76 i76 e101 e12
     haveI b9:Zc w9 B13 41 Zg.cells.toArray:=⟨h13⟩
     have hB:=HZ.out B13 b13
     have HZM:Hid (B13∈Z):=b13
     have HZE:Hid (x102.er=g2):=f102
     have HXD:Hid (ExD ((gA::gH::X)++Z) w9 x102):=i102
     have hk89:Kept [] w8 w9:=kp
     have HK89:=hh hk89
     have HE9:=hh ((HE8.out.keep hk89 (fun _ _=>by simp)).keep (Kept.setRow (X:=[B13]) w9 B13 x102.cells.toArray (by simp)) (fun k hk=>by simp[Value.ownBlock]at hk;simp;omega))
     have hzl:i < zs.length:=by have:=HLEN.out.1;omega
     have hng0:0≤n*g1:=Int.mul_nonneg hnb.1 hgb.1
     have hng1:n*g1≤4:=by
      have h1:n*g1≤n*2:=Int.mul_le_mul_of_nonneg_left hgb.2 hnb.1
      omega
     clear h13 b13 f102 i102 hk89 HWY
     go_wp2_with (refine Z6 rfl (.tmp 111) (.tmp 109) rfl gA _ zs HE9.out i hzl gA rfl x102 rfl rfl ?_;intro w10 ho10 hg10;have HO10:=hh ho10;have HG10:=hh hg10;clear ho10 hg10)
     have HK910:Hid (Kept [B13,gA] w9 w10):=(Kept.setRow (X:=[B13,gA]) w9 B13 _ (by simp)).trans (Kept.of_grown (X:=[B13,gA]) HG10.out (fun k hk=>by cases hk;simp))
     have HK310:Hid (Kept [gA,gH] w3 w10):=(((HK38.out.mono (Y:=[B13,gA,gH]) (by simp)).trans (HK89.out.mono (by simp))).trans (HK910.out.mono (by simp))).mono' (fun r hr hlr=>by have:=HK38.out.size;simp at hr⊢;omega)
     have HFIN:Hid (Zc3 X t params d.x.al (d.args.map G) w10 gA gH gA gH (i+1) (min 2 (n*g1)) (has.set i true) (zs.set i x102)):=by
      refine⟨by rw[HYES.out,List.map_set,HZE.out],by have:=HO10.out;exact this,Zk (Zk (X:=[]) HO8.out HK89.out (fun _ _=>by simp)) HK910.out (fun k hk=>by simp[Value.ownBlock]at hk;simp;omega),fun z hz=>?_⟩
      rcases List.mem_or_eq_of_mem_set hz with h1 | rfl
      ·exact(HST.out.ex z h1).less HK310.out (fun r hr=>by simp only[List.mem_cons,List.not_mem_nil,or_false]at hr⊢;exact hr.imp (fun h=>h) (fun h=> .inl h))
      ·exact(HXD.out.less HK910.out (fun r hr=>by simp at hr;rcases hr with rfl | rfl;exact List.mem_append.2 (.inr HZM.out);simp)).sub (fun r hr=>List.mem_append.2 (.inl hr))
     clear HE9 HG10
     go_roundw
     case rel=>exact⟨i+1,_,_,_,by go_num,by omega,rfl,rfl,HFIN.out,HKR.out.trans HK310.out⟩
     case measure=>simp[intOf];omega
    cases m3:(q.mode == 3)
    case true=>
     rw[m2,Bool.false_or,m3]at HYES HWY hgb
     generalize G y (ofP t q.sub) true=gg at*
     obtain⟨g1,g2⟩:=gg
     refine Zn [⟨77,[],false,.eq (.pointer (some ⟨R,0,none⟩))⟩,⟨78,[],false,.eq (.pointer (some ⟨y.p,0,none⟩))⟩,⟨79,[],false,.eq (.pointer (some ⟨R,0,none⟩))⟩,⟨80,[],false,.eq (.slice (some ⟨pb,po,none⟩) params.length c)⟩,⟨81,[],false,.eq (.int .i64 (i:Int))⟩,⟨82,[80,81],false,.eq (.pointer (some ⟨pb,po+i*13,none⟩))⟩,⟨83,[82],false,.eq (.pointer (some ⟨pb,po+i*13+2,none⟩))⟩,⟨84,[83],false,.eq (.int .i64 q.sub)⟩,⟨85,[79,84],false,.eq (.int .i64 (ofP t q.sub))⟩,⟨86,[],false,.eq (.slice (some ⟨pb,po,none⟩) params.length c)⟩,⟨87,[],false,.eq (.int .i64 (i:Int))⟩,⟨88,[86,87],false,.eq (.pointer (some ⟨pb,po+i*13,none⟩))⟩,⟨89,[88],false,.eq (.pointer (some ⟨pb,po+i*13+1,none⟩))⟩,⟨90,[89],false,.eq (.int .u8 q.mode)⟩,⟨91,[90],false,.eq (.bool false)⟩,⟨92,[91],false,.eq (.bool false)⟩,⟨93,[92],false,.eq (.slice (some ⟨pb,po,none⟩) params.length c)⟩,⟨94,[92],false,.eq (.int .i64 (i:Int))⟩,⟨95,[93,94,92],false,.eq (.pointer (some ⟨pb,po+i*13,none⟩))⟩,⟨96,[95,92],false,.eq (.pointer (some ⟨pb,po+i*13+1,none⟩))⟩,⟨97,[96,92],false,.eq (.int .u8 q.mode)⟩,⟨98,[97,92],false,.eq (.bool true)⟩,⟨99,[92,98],false,.eq (.bool true)⟩,⟨100,[77,78,85,99],false,.wx (gA::gH::X) (g1,g2)⟩,⟨76,[100],false,.wx (gA::gH::X) (g1,g2)⟩,⟨101,[76],false,.eq (.int .i64 g1)⟩,⟨102,[76],false,.ex (gA::gH::X) g2⟩,⟨13,[],true,.new Zg.cells.toArray 41⟩,⟨12,[101],false,.eq (.int .i64 g1)⟩] (by kernel_rfl) (by kernel_rfl) ?_
     apply Exists.intro
     refine⟨fun vs=>?_,?_⟩
     ·simp only[List.map_cons,List.map_nil,PSz.toP,Jj,Act.put,List.setIfInBounds_toArray,List.set_cons_zero,List.set_cons_succ]
      exact rfl
     refine⟨⟨?_,?_,?_,?_,?_,?_,?_,?_,?_,?_,?_,?_,?_,?_,?_,?_,?_,?_,?_,?_,?_,?_,?_,?_,?_,?_,?_,?_,?_,trivial⟩,?_⟩<;>intro vs Z w9 hk hZ hg
     all_goals
      haveI p_w9:Zb w9 _:=⟨hk⟩
      have hz_w9:=hk.size
      have HZ:=hh hZ
      clear hk hZ
      (try simp only[ZG,Zi,Z8,SZ.eq_p,SZ.ex_p,SZ.wx_p,SZ.new_p,Nat.reduceEqDiff,reduceIte,and_true]at hg)
     ·clear hg
      go_wp2_with fail
      exact⟨kp,rfl,Z,.inl ⟨rfl,rfl⟩,rfl⟩
     ·clear hg
      go_wp2_with fail
      exact⟨kp,rfl,Z,.inl ⟨rfl,rfl⟩,rfl⟩
     ·clear hg
      go_wp2_with fail
      exact⟨kp,rfl,Z,.inl ⟨rfl,rfl⟩,rfl⟩
     ·clear hg
      go_wp2_with fail
      exact⟨kp,rfl,Z,.inl ⟨rfl,rfl⟩,rfl⟩
     ·clear hg
      go_wp2_with fail
      exact⟨kp,rfl,Z,.inl ⟨rfl,rfl⟩,rfl⟩
     ·obtain⟨e80,e81⟩:=hg
      (try simp only[e80,e81])
      go_wp2_with fail
      exact⟨kp,rfl,Z,.inl ⟨rfl,rfl⟩,rfl⟩
     ·obtain e82:=hg
      (try simp only[e82])
      go_wp2_with fail
      exact⟨kp,rfl,Z,.inl ⟨rfl,rfl⟩,rfl⟩
     ·obtain e83:=hg
      (try simp only[e83])
      go_wp2_with fail
      exact⟨kp,rfl,Z,.inl ⟨rfl,rfl⟩,rfl⟩
     ·obtain⟨e79,e84⟩:=hg
      (try simp only[e79,e84])
      go_wp2_with fail
      refine(HOF.out _ _ kp).mono ?_
      rintro e w9 ⟨rfl,hk9⟩
      go_wp2_with fail
      exact⟨hk9,rfl,Z,.inl ⟨rfl,rfl⟩,rfl⟩
     ·clear hg
      go_wp2_with fail
      exact⟨kp,rfl,Z,.inl ⟨rfl,rfl⟩,rfl⟩
     ·clear hg
      go_wp2_with fail
      exact⟨kp,rfl,Z,.inl ⟨rfl,rfl⟩,rfl⟩
     ·obtain⟨e86,e87⟩:=hg
      (try simp only[e86,e87])
      go_wp2_with fail
      exact⟨kp,rfl,Z,.inl ⟨rfl,rfl⟩,rfl⟩
     ·obtain e88:=hg
      (try simp only[e88])
      go_wp2_with fail
      exact⟨kp,rfl,Z,.inl ⟨rfl,rfl⟩,rfl⟩
     ·obtain e89:=hg
      (try simp only[e89])
      go_wp2_with fail
      exact⟨kp,rfl,Z,.inl ⟨rfl,rfl⟩,rfl⟩
     ·obtain e90:=hg
      (try simp only[e90])
      go_wp2_with fail
      exact⟨kp,rfl,Z,.inl ⟨rfl,rfl⟩,rfl⟩
     ·obtain e91:=hg
      (try simp only[e91])
      go_wp2_with fail
      exact⟨kp,rfl,Z,.inl ⟨rfl,rfl⟩,rfl⟩
     ·obtain e92:=hg
      (try simp only[e92])
      go_wp2_with fail
      exact⟨kp,rfl,Z,.inl ⟨rfl,rfl⟩,rfl⟩
     ·obtain e92:=hg
      (try simp only[e92])
      go_wp2_with fail
      exact⟨kp,rfl,Z,.inl ⟨rfl,rfl⟩,rfl⟩
     ·obtain⟨e93,e94,e92⟩:=hg
      (try simp only[e93,e94,e92])
      go_wp2_with fail
      exact⟨kp,rfl,Z,.inl ⟨rfl,rfl⟩,rfl⟩
     ·obtain⟨e95,e92⟩:=hg
      (try simp only[e95,e92])
      go_wp2_with fail
      exact⟨kp,rfl,Z,.inl ⟨rfl,rfl⟩,rfl⟩
     ·obtain⟨e96,e92⟩:=hg
      (try simp only[e96,e92])
      go_wp2_with fail
      exact⟨kp,rfl,Z,.inl ⟨rfl,rfl⟩,rfl⟩
     ·obtain⟨e97,e92⟩:=hg
      (try simp only[e97,e92])
      go_wp2_with fail
      exact⟨kp,rfl,Z,.inl ⟨rfl,rfl⟩,rfl⟩
     ·obtain⟨e92,e98⟩:=hg
      (try simp only[e92,e98])
      go_wp2_with fail
      exact⟨kp,rfl,Z,.inl ⟨rfl,rfl⟩,rfl⟩
     ·obtain⟨e77,e78,e85,e99⟩:=hg
      (try simp only[e77,e78,e85,e99])
      go_wp2_with fail
      refine(HWY.out w9 Z (Kept.prev (Kept.refl _ _)) HZ.out).mono ?_
      rintro e w9 ⟨x,rfl,hp,hi,hk9⟩
      go_wp2_with fail
      exact⟨hk9,rfl,Z,.inl ⟨rfl,rfl⟩,x,rfl,hp,hi⟩
     ·obtain⟨x100,e100,f100,i100⟩:=hg
      simp only[e100]
      go_wp2_with fail
      exact⟨kp,rfl,Z,.inl ⟨rfl,rfl⟩,x100,rfl,f100,i100⟩
     ·obtain⟨x76,e76,f76,i76⟩:=hg
      simp only[e76]
      go_wp2_with fail
      exact⟨kp,rfl,Z,.inl ⟨rfl,rfl⟩,rfl⟩
     ·obtain⟨x76,e76,f76,i76⟩:=hg
      simp only[e76]
      go_wp2_with fail
      exact⟨kp,rfl,Z,.inl ⟨rfl,rfl⟩,x76,rfl,f76,i76⟩
     ·clear hg
      go_wp2_with fail
      exact⟨kp,rfl,_::Z,.inr ⟨rfl,_,rfl,rfl,Nat.le_refl _,by simp⟩,_,rfl,List.mem_cons_self,Zf rfl⟩
     ·obtain e101:=hg
      (try simp only[e101])
      go_wp2_with fail
      exact⟨kp,rfl,Z,.inl ⟨rfl,rfl⟩,rfl⟩
     obtain⟨e77,e78,e79,e80,e81,e82,e83,e84,e85,e86,e87,e88,e89,e90,e91,e92,e93,e94,e95,e96,e97,e98,e99,⟨x100,e100,f100,i100⟩,⟨x76,e76,f76,i76⟩,e101,⟨x102,e102,f102,i102⟩,⟨B13,e13,b13,h13⟩,e12⟩:=hg
     simp only[e77,e78,e79,e80,e81,e82,e83,e84,e85,e86,e87,e88,e89,e90,e91,e92,e93,e94,e95,e96,e97,e98,e99,e101,e102,e12,e13]
     clear e77 e78 e79 e80 e81 e82 e83 e84 e85 e86 e87 e88 e89 e90 e91 e92 e93 e94 e95 e96 e97 e98 e99 e100 f100 i100 e76 f76 i76 e101 e12
     haveI b9:Zc w9 B13 41 Zg.cells.toArray:=⟨h13⟩
     have hB:=HZ.out B13 b13
     have HZM:Hid (B13∈Z):=b13
     have HZE:Hid (x102.er=g2):=f102
     have HXD:Hid (ExD ((gA::gH::X)++Z) w9 x102):=i102
     have hk89:Kept [] w8 w9:=kp
     have HK89:=hh hk89
     have HE9:=hh ((HE8.out.keep hk89 (fun _ _=>by simp)).keep (Kept.setRow (X:=[B13]) w9 B13 x102.cells.toArray (by simp)) (fun k hk=>by simp[Value.ownBlock]at hk;simp;omega))
     have hzl:i < zs.length:=by have:=HLEN.out.1;omega
     have hng0:0≤n*g1:=Int.mul_nonneg hnb.1 hgb.1
     have hng1:n*g1≤4:=by
      have h1:n*g1≤n*2:=Int.mul_le_mul_of_nonneg_left hgb.2 hnb.1
      omega
     clear h13 b13 f102 i102 hk89 HWY
     go_wp2_with (refine Z6 rfl (.tmp 111) (.tmp 109) rfl gA _ zs HE9.out i hzl gA rfl x102 rfl rfl ?_;intro w10 ho10 hg10;have HO10:=hh ho10;have HG10:=hh hg10;clear ho10 hg10)
     have HK910:Hid (Kept [B13,gA] w9 w10):=(Kept.setRow (X:=[B13,gA]) w9 B13 _ (by simp)).trans (Kept.of_grown (X:=[B13,gA]) HG10.out (fun k hk=>by cases hk;simp))
     have HK310:Hid (Kept [gA,gH] w3 w10):=(((HK38.out.mono (Y:=[B13,gA,gH]) (by simp)).trans (HK89.out.mono (by simp))).trans (HK910.out.mono (by simp))).mono' (fun r hr hlr=>by have:=HK38.out.size;simp at hr⊢;omega)
     have HFIN:Hid (Zc3 X t params d.x.al (d.args.map G) w10 gA gH gA gH (i+1) (min 2 (n*g1)) (has.set i true) (zs.set i x102)):=by
      refine⟨by rw[HYES.out,List.map_set,HZE.out],by have:=HO10.out;exact this,Zk (Zk (X:=[]) HO8.out HK89.out (fun _ _=>by simp)) HK910.out (fun k hk=>by simp[Value.ownBlock]at hk;simp;omega),fun z hz=>?_⟩
      rcases List.mem_or_eq_of_mem_set hz with h1 | rfl
      ·exact(HST.out.ex z h1).less HK310.out (fun r hr=>by simp only[List.mem_cons,List.not_mem_nil,or_false]at hr⊢;exact hr.imp (fun h=>h) (fun h=> .inl h))
      ·exact(HXD.out.less HK910.out (fun r hr=>by simp at hr;rcases hr with rfl | rfl;exact List.mem_append.2 (.inr HZM.out);simp)).sub (fun r hr=>List.mem_append.2 (.inl hr))
     clear HE9 HG10
     go_roundw
     case rel=>exact⟨i+1,_,_,_,by go_num,by omega,rfl,rfl,HFIN.out,HKR.out.trans HK310.out⟩
     case measure=>simp[intOf];omega
    rw[m2,Bool.false_or,m3]at HYES HWY hgb
    generalize G y (ofP t q.sub) false=gg at*
    obtain⟨g1,g2⟩:=gg
    refine Zn [⟨77,[],false,.eq (.pointer (some ⟨R,0,none⟩))⟩,⟨78,[],false,.eq (.pointer (some ⟨y.p,0,none⟩))⟩,⟨79,[],false,.eq (.pointer (some ⟨R,0,none⟩))⟩,⟨80,[],false,.eq (.slice (some ⟨pb,po,none⟩) params.length c)⟩,⟨81,[],false,.eq (.int .i64 (i:Int))⟩,⟨82,[80,81],false,.eq (.pointer (some ⟨pb,po+i*13,none⟩))⟩,⟨83,[82],false,.eq (.pointer (some ⟨pb,po+i*13+2,none⟩))⟩,⟨84,[83],false,.eq (.int .i64 q.sub)⟩,⟨85,[79,84],false,.eq (.int .i64 (ofP t q.sub))⟩,⟨86,[],false,.eq (.slice (some ⟨pb,po,none⟩) params.length c)⟩,⟨87,[],false,.eq (.int .i64 (i:Int))⟩,⟨88,[86,87],false,.eq (.pointer (some ⟨pb,po+i*13,none⟩))⟩,⟨89,[88],false,.eq (.pointer (some ⟨pb,po+i*13+1,none⟩))⟩,⟨90,[89],false,.eq (.int .u8 q.mode)⟩,⟨91,[90],false,.eq (.bool false)⟩,⟨92,[91],false,.eq (.bool false)⟩,⟨93,[92],false,.eq (.slice (some ⟨pb,po,none⟩) params.length c)⟩,⟨94,[92],false,.eq (.int .i64 (i:Int))⟩,⟨95,[93,94,92],false,.eq (.pointer (some ⟨pb,po+i*13,none⟩))⟩,⟨96,[95,92],false,.eq (.pointer (some ⟨pb,po+i*13+1,none⟩))⟩,⟨97,[96,92],false,.eq (.int .u8 q.mode)⟩,⟨98,[97,92],false,.eq (.bool false)⟩,⟨99,[92,98],false,.eq (.bool false)⟩,⟨100,[77,78,85,99],false,.wx (gA::gH::X) (g1,g2)⟩,⟨76,[100],false,.wx (gA::gH::X) (g1,g2)⟩,⟨101,[76],false,.eq (.int .i64 g1)⟩,⟨102,[76],false,.ex (gA::gH::X) g2⟩,⟨13,[],true,.new Zg.cells.toArray 41⟩,⟨12,[101],false,.eq (.int .i64 g1)⟩] (by kernel_rfl) (by kernel_rfl) ?_
    apply Exists.intro
    refine⟨fun vs=>?_,?_⟩
    ·simp only[List.map_cons,List.map_nil,PSz.toP,Jj,Act.put,List.setIfInBounds_toArray,List.set_cons_zero,List.set_cons_succ]
     exact rfl
    refine⟨⟨?_,?_,?_,?_,?_,?_,?_,?_,?_,?_,?_,?_,?_,?_,?_,?_,?_,?_,?_,?_,?_,?_,?_,?_,?_,?_,?_,?_,?_,trivial⟩,?_⟩<;>intro vs Z w9 hk hZ hg
    all_goals
     haveI p_w9:Zb w9 _:=⟨hk⟩
     have hz_w9:=hk.size
     have HZ:=hh hZ
     clear hk hZ
     (try simp only[ZG,Zi,Z8,SZ.eq_p,SZ.ex_p,SZ.wx_p,SZ.new_p,Nat.reduceEqDiff,reduceIte,and_true]at hg)
    ·clear hg
     go_wp2_with fail
     exact⟨kp,rfl,Z,.inl ⟨rfl,rfl⟩,rfl⟩
    ·clear hg
     go_wp2_with fail
     exact⟨kp,rfl,Z,.inl ⟨rfl,rfl⟩,rfl⟩
    ·clear hg
     go_wp2_with fail
     exact⟨kp,rfl,Z,.inl ⟨rfl,rfl⟩,rfl⟩
    ·clear hg
     go_wp2_with fail
     exact⟨kp,rfl,Z,.inl ⟨rfl,rfl⟩,rfl⟩
    ·clear hg
     go_wp2_with fail
     exact⟨kp,rfl,Z,.inl ⟨rfl,rfl⟩,rfl⟩
    ·obtain⟨e80,e81⟩:=hg
     (try simp only[e80,e81])
     go_wp2_with fail
     exact⟨kp,rfl,Z,.inl ⟨rfl,rfl⟩,rfl⟩
    ·obtain e82:=hg
     (try simp only[e82])
     go_wp2_with fail
     exact⟨kp,rfl,Z,.inl ⟨rfl,rfl⟩,rfl⟩
    ·obtain e83:=hg
     (try simp only[e83])
     go_wp2_with fail
     exact⟨kp,rfl,Z,.inl ⟨rfl,rfl⟩,rfl⟩
    ·obtain⟨e79,e84⟩:=hg
     (try simp only[e79,e84])
     go_wp2_with fail
     refine(HOF.out _ _ kp).mono ?_
     rintro e w9 ⟨rfl,hk9⟩
     go_wp2_with fail
     exact⟨hk9,rfl,Z,.inl ⟨rfl,rfl⟩,rfl⟩
    ·clear hg
     go_wp2_with fail
     exact⟨kp,rfl,Z,.inl ⟨rfl,rfl⟩,rfl⟩
    ·clear hg
     go_wp2_with fail
     exact⟨kp,rfl,Z,.inl ⟨rfl,rfl⟩,rfl⟩
    ·obtain⟨e86,e87⟩:=hg
     (try simp only[e86,e87])
     go_wp2_with fail
     exact⟨kp,rfl,Z,.inl ⟨rfl,rfl⟩,rfl⟩
    ·obtain e88:=hg
     (try simp only[e88])
     go_wp2_with fail
     exact⟨kp,rfl,Z,.inl ⟨rfl,rfl⟩,rfl⟩
    ·obtain e89:=hg
     (try simp only[e89])
     go_wp2_with fail
     exact⟨kp,rfl,Z,.inl ⟨rfl,rfl⟩,rfl⟩
    ·obtain e90:=hg
     (try simp only[e90])
     go_wp2_with fail
     exact⟨kp,rfl,Z,.inl ⟨rfl,rfl⟩,rfl⟩
    ·obtain e91:=hg
     (try simp only[e91])
     go_wp2_with fail
     exact⟨kp,rfl,Z,.inl ⟨rfl,rfl⟩,rfl⟩
    ·obtain e92:=hg
     (try simp only[e92])
     go_wp2_with fail
     exact⟨kp,rfl,Z,.inl ⟨rfl,rfl⟩,rfl⟩
    ·obtain e92:=hg
     (try simp only[e92])
     go_wp2_with fail
     exact⟨kp,rfl,Z,.inl ⟨rfl,rfl⟩,rfl⟩
    ·obtain⟨e93,e94,e92⟩:=hg
     (try simp only[e93,e94,e92])
     go_wp2_with fail
     exact⟨kp,rfl,Z,.inl ⟨rfl,rfl⟩,rfl⟩
    ·obtain⟨e95,e92⟩:=hg
     (try simp only[e95,e92])
     go_wp2_with fail
     exact⟨kp,rfl,Z,.inl ⟨rfl,rfl⟩,rfl⟩
    ·obtain⟨e96,e92⟩:=hg
     (try simp only[e96,e92])
     go_wp2_with fail
     exact⟨kp,rfl,Z,.inl ⟨rfl,rfl⟩,rfl⟩
    ·obtain⟨e97,e92⟩:=hg
     (try simp only[e97,e92])
     go_wp2_with fail
     exact⟨kp,rfl,Z,.inl ⟨rfl,rfl⟩,rfl⟩
    ·obtain⟨e92,e98⟩:=hg
     (try simp only[e92,e98])
     go_wp2_with fail
     exact⟨kp,rfl,Z,.inl ⟨rfl,rfl⟩,rfl⟩
    ·obtain⟨e77,e78,e85,e99⟩:=hg
     (try simp only[e77,e78,e85,e99])
     go_wp2_with fail
     refine(HWY.out w9 Z (Kept.prev (Kept.refl _ _)) HZ.out).mono ?_
     rintro e w9 ⟨x,rfl,hp,hi,hk9⟩
     go_wp2_with fail
     exact⟨hk9,rfl,Z,.inl ⟨rfl,rfl⟩,x,rfl,hp,hi⟩
    ·obtain⟨x100,e100,f100,i100⟩:=hg
     simp only[e100]
     go_wp2_with fail
     exact⟨kp,rfl,Z,.inl ⟨rfl,rfl⟩,x100,rfl,f100,i100⟩
    ·obtain⟨x76,e76,f76,i76⟩:=hg
     simp only[e76]
     go_wp2_with fail
     exact⟨kp,rfl,Z,.inl ⟨rfl,rfl⟩,rfl⟩
    ·obtain⟨x76,e76,f76,i76⟩:=hg
     simp only[e76]
     go_wp2_with fail
     exact⟨kp,rfl,Z,.inl ⟨rfl,rfl⟩,x76,rfl,f76,i76⟩
    ·clear hg
     go_wp2_with fail
     exact⟨kp,rfl,_::Z,.inr ⟨rfl,_,rfl,rfl,Nat.le_refl _,by simp⟩,_,rfl,List.mem_cons_self,Zf rfl⟩
    ·obtain e101:=hg
     (try simp only[e101])
     go_wp2_with fail
     exact⟨kp,rfl,Z,.inl ⟨rfl,rfl⟩,rfl⟩
    obtain⟨e77,e78,e79,e80,e81,e82,e83,e84,e85,e86,e87,e88,e89,e90,e91,e92,e93,e94,e95,e96,e97,e98,e99,⟨x100,e100,f100,i100⟩,⟨x76,e76,f76,i76⟩,e101,⟨x102,e102,f102,i102⟩,⟨B13,e13,b13,h13⟩,e12⟩:=hg
    simp only[e77,e78,e79,e80,e81,e82,e83,e84,e85,e86,e87,e88,e89,e90,e91,e92,e93,e94,e95,e96,e97,e98,e99,e101,e102,e12,e13]
    clear e77 e78 e79 e80 e81 e82 e83 e84 e85 e86 e87 e88 e89 e90 e91 e92 e93 e94 e95 e96 e97 e98 e99 e100 f100 i100 e76 f76 i76 e101 e12
    haveI b9:Zc w9 B13 41 Zg.cells.toArray:=⟨h13⟩
    have hB:=HZ.out B13 b13
    have HZM:Hid (B13∈Z):=b13
    have HZE:Hid (x102.er=g2):=f102
    have HXD:Hid (ExD ((gA::gH::X)++Z) w9 x102):=i102
    have hk89:Kept [] w8 w9:=kp
    have HK89:=hh hk89
    have HE9:=hh ((HE8.out.keep hk89 (fun _ _=>by simp)).keep (Kept.setRow (X:=[B13]) w9 B13 x102.cells.toArray (by simp)) (fun k hk=>by simp[Value.ownBlock]at hk;simp;omega))
    have hzl:i < zs.length:=by have:=HLEN.out.1;omega
    have hng0:0≤n*g1:=Int.mul_nonneg hnb.1 hgb.1
    have hng1:n*g1≤4:=by
     have h1:n*g1≤n*2:=Int.mul_le_mul_of_nonneg_left hgb.2 hnb.1
     omega
    clear h13 b13 f102 i102 hk89 HWY
    go_wp2_with (refine Z6 rfl (.tmp 111) (.tmp 109) rfl gA _ zs HE9.out i hzl gA rfl x102 rfl rfl ?_;intro w10 ho10 hg10;have HO10:=hh ho10;have HG10:=hh hg10;clear ho10 hg10)
    have HK910:Hid (Kept [B13,gA] w9 w10):=(Kept.setRow (X:=[B13,gA]) w9 B13 _ (by simp)).trans (Kept.of_grown (X:=[B13,gA]) HG10.out (fun k hk=>by cases hk;simp))
    have HK310:Hid (Kept [gA,gH] w3 w10):=(((HK38.out.mono (Y:=[B13,gA,gH]) (by simp)).trans (HK89.out.mono (by simp))).trans (HK910.out.mono (by simp))).mono' (fun r hr hlr=>by have:=HK38.out.size;simp at hr⊢;omega)
    have HFIN:Hid (Zc3 X t params d.x.al (d.args.map G) w10 gA gH gA gH (i+1) (min 2 (n*g1)) (has.set i true) (zs.set i x102)):=by
     refine⟨by rw[HYES.out,List.map_set,HZE.out],by have:=HO10.out;exact this,Zk (Zk (X:=[]) HO8.out HK89.out (fun _ _=>by simp)) HK910.out (fun k hk=>by simp[Value.ownBlock]at hk;simp;omega),fun z hz=>?_⟩
     rcases List.mem_or_eq_of_mem_set hz with h1 | rfl
     ·exact(HST.out.ex z h1).less HK310.out (fun r hr=>by simp only[List.mem_cons,List.not_mem_nil,or_false]at hr⊢;exact hr.imp (fun h=>h) (fun h=> .inl h))
     ·exact(HXD.out.less HK910.out (fun r hr=>by simp at hr;rcases hr with rfl | rfl;exact List.mem_append.2 (.inr HZM.out);simp)).sub (fun r hr=>List.mem_append.2 (.inl hr))
    clear HE9 HG10
    go_roundw
    case rel=>exact⟨i+1,_,_,_,by go_num,by omega,rfl,rfl,HFIN.out,HKR.out.trans HK310.out⟩
    case measure=>simp[intOf];omega
   ·have hcl:((a.2.1.length:Int) == 0)=false:=by simpa using hcz
    have HKK:Hid (Ziu params a i=idx):=by rw[Hid,Ziu,if_neg hcz,hidx]
    go_wp2_with fail
    refine Ze 11 0 (fun _=> .cells #[] 0) (by kernel_rfl) (by kernel_rfl) (fun i o h1 h2=>by omega) (fun _ _ _ _ _ h=>h) ?_;apply Exists.intro;refine⟨fun U hU hN=>?_,?_⟩;simp only[List.take_succ_cons,List.take_zero]
    ·repeat(go_big_quiet_step (fail))
     refine wpQuiet_nil ?_
     exact rfl
    simp only[List.drop_succ_cons,List.drop_zero,List.take_succ_cons,List.take_zero]
    intro w6 hk_w6 _
    haveI p_w6:Zb w6 _:=⟨hk_w6⟩
    clear hk_w6
    go_upto_region 11 with(fail)
    by_cases h0:idx < 0
    ·have HNO:Hid (Zap t params d.x.al (d.args.map G)=(0,[])):=YN (i:=i+1) (by rw[HNX.out,Zhy,HKK.out,if_pos];simp[Zad,h0]) (by simp;omega)
     go_wp2_with fail
     refine bodyPost_ret (v:= .tuple #[.int .i64 0,.slice none 0 0]) (Qm results48 (Zh rfl) (Zh rfl)) rfl ?_
     rw[HNO.out]
     exact Zas.no X kp
    obtain⟨kn,hkn⟩:=Int.eq_ofNat_of_zero_le (by omega:0≤idx)
    subst hkn
    clear h0
    by_cases h2:params.length≤kn
    ·have HNO:Hid (Zap t params d.x.al (d.args.map G)=(0,[])):=YN (i:=i+1) (by rw[HNX.out,Zhy,HKK.out,if_pos];simp[Zad,h2]) (by simp;omega)
     have h2i:(params.length:Int)≤(kn:Int):=by omega
     go_wp2_with fail
     refine bodyPost_ret (v:= .tuple #[.int .i64 0,.slice none 0 0]) (Qm results48 (Zh rfl) (Zh rfl)) rfl ?_
     rw[HNO.out]
     exact Zas.no X kp
    obtain⟨q,hq⟩:∃q,params[kn]? =some q:=⟨_,List.getElem?_eq_getElem (by omega)⟩
    obtain⟨pb,po,rfl,hpr⟩:=HP.out.some_ hq
    haveI ip:Ye w pb (po+kn*13) q:=⟨hpr kn q hq⟩
    have HQD:Hid (params.getD kn default=q):=by rw[Hid,List.getD_eq_getElem?_getD,hq];rfl
    have hpl:kn < params.length:=by omega
    have HLEN:=hh HST.out.len
    have hhl:kn < has.length:=by have:=HLEN.out.2;omega
    have HO6:=hh (Zk (X:=[]) HST.out.oh (show Kept [] w3 w6 from kp) (fun _ _=>by simp))
    have HE6:=hh (Zgj.keep (X:=[]) HST.out.oa (show Kept [] w3 w6 from kp) (fun _ _=>by simp))
    clear hpr hq h2
    cases hhas:has.getD kn false
    case true=>
     obtain⟨qh,qf⟩:=Ym (g:=gH) (k:=kn) (u:= .bool true) HO6.out rfl (by rw[List.getElem?_map];rw[List.getD_eq_getElem?_getD,List.getElem?_eq_getElem hhl]at hhas;rw[List.getElem?_eq_getElem hhl];simpa using hhas)
     have HNO:Hid (Zap t params d.x.al (d.args.map G)=(0,[])):=YN (i:=i+1) (by rw[HNX.out,Zhy,HKK.out,if_pos];simp[Zad,-List.getD_eq_getElem?_getD,hhas]) (by simp;omega)
     go_wp2_with fail
     refine bodyPost_ret (v:= .tuple #[.int .i64 0,.slice none 0 0]) (Qm results48 (Zh rfl) (Zh rfl)) rfl ?_
     rw[HNO.out]
     exact Zas.no X kp
    obtain⟨qh,qf⟩:=Ym (g:=gH) (k:=kn) (u:= .bool false) HO6.out rfl (by rw[List.getElem?_map];rw[List.getD_eq_getElem?_getD,List.getElem?_eq_getElem hhl]at hhas;rw[List.getElem?_eq_getElem hhl];simpa using hhas)
    by_cases ho:ofP t q.sub < 0
    ·have HNO:Hid (Zap t params d.x.al (d.args.map G)=(0,[])):=YN (i:=i+1) (by rw[HNX.out,Zhy,HKK.out,if_pos];simp[Zad,-List.getD_eq_getElem?_getD,HQD.out,ho]) (by simp;omega)
     go_wp2_with fail
     refine nxt (HOF.out _ _ kp) fun w7 p_w7=>?_;have hz_w7:=szk w w7
     go_wp2_with fail
     refine bodyPost_ret (v:= .tuple #[.int .i64 0,.slice none 0 0]) (Qm results48 (Zh rfl) (Zh rfl)) rfl ?_
     rw[HNO.out]
     exact Zas.no X kp
    go_wp2_with fail
    refine nxt (HOF.out _ _ kp) fun w7 p_w7=>?_;have hz_w7:=szk w w7
    have HO7:=hh (Zk (X:=[]) HO6.out (show Kept [] w6 w7 from kp) (fun _ _=>by simp))
    have HE7:=hh (HE6.out.keep (X:=[]) (show Kept [] w6 w7 from kp) (fun _ _=>by simp))
    obtain⟨qh7,qf7⟩:=Ym (g:=gH) (k:=kn) (u:= .bool false) HO7.out rfl (by rw[List.getElem?_map];rw[List.getD_eq_getElem?_getD,List.getElem?_eq_getElem hhl]at hhas;rw[List.getElem?_eq_getElem hhl];simpa using hhas)
    have HYES:Hid (Zbs t params d.x.al (d.args.map G) (i+1)=some (min 2 (n*(G y (ofP t q.sub) (q.mode == 2 || q.mode == 3)).1),(zs.map ExV.er).set kn (G y (ofP t q.sub) (q.mode == 2 || q.mode == 3)).2,has.set kn true)):=by
     rw[Hid,HNX.out,Zhy,HKK.out,if_neg (by simp[Zad,-List.getD_eq_getElem?_getD,HQD.out,hhas];omega)]
     simp only[ZsP,Int.toNat_natCast,HQD.out]
    have hgb:=HGB.out y HYM.out (ofP t q.sub) (q.mode == 2 || q.mode == 3)
    go_upto_region 14 with(fail)
    refine Zm ?_
    intro w8 hw8
    have hk8:Kept [gH] w7 w8:=by rw[hw8];exact Kept.setCell _ _ _ (by simp)
    have HK7:Hid (Kept [] w w7):=kp
    have HK8:Hid (Kept [] w w8):=HK7.out.above hk8 (fun z hz=>by simp at hz;omega)
    have HK38:Hid (Kept [gA,gH] w3 w8):=((show Kept [] w3 w7 from kp).mono (by simp)).trans (hk8.mono (by simp))
    have HO8:Hid (w8.ownsRow gH 4 1 (.slice (some ⟨gH,0,none⟩) params.length params.length) params.length ((has.set kn true).map Value.bool)):=by
     rw[hw8,Hid,List.map_set]
     exact ZgR HO7.out rfl hpl _
    have HE8:=hh (HE7.out.keep hk8 (fun k hk=>by simp[Value.ownBlock]at hk;simp;omega))
    haveI p_w8:Zb w8 w:=⟨HK8.out⟩
    have hz8:w2.heap.size≤w8.heap.size:=by
     have h1:=HKR.out.size
     have h2:=HK38.out.size
     omega
    have HWY:Hid (∀W Z,Kept [] w8 W→zIn w8 Z W→Calls prog 32 #[.pointer (some ⟨R,0,none⟩),.pointer (some ⟨y.p,0,none⟩),.int .i64 (ofP t q.sub),.bool (q.mode == 2 || q.mode == 3)] W (Zjn ((gA::gH::X)++Z) (G y (ofP t q.sub) (q.mode == 2 || q.mode == 3)) W)):=fun W Z hk hz=>
     HW.out y _ _ W _ HYM.out (HK8.out.trans hk) (fun r hr=>by
      rcases List.mem_append.1 hr with h1 | h1
      ·rcases List.mem_cons.1 h1 with rfl | h1
       ·exact .inr (by omega)
       ·rcases List.mem_cons.1 h1 with rfl | h1
        ·exact .inr (by omega)
        ·exact .inl h1
      ·exact .inr (Nat.le_trans HK8.out.size (hz r h1).1)) (fun r hr=>by
      have hs:=hk.size
      rcases List.mem_append.1 hr with h1 | h1
      ·rcases List.mem_cons.1 h1 with rfl | h1
       ·omega
       ·rcases List.mem_cons.1 h1 with rfl | h1
        ·omega
        ·have:=HX.out r h1
         have:=HK8.out.size
         omega
      ·exact(hz r h1).2)
    clear hw8 hk8 qh qf qh7 qf7 HO6 HE6 HO7 HE7 hhas HNX HKK p_w7 p_w6 p_w5 p_w4
    cases m2:(q.mode == 2)
    case true=>
     rw[m2,Bool.true_or]at HYES HWY hgb
     generalize G y (ofP t q.sub) true=gg at*
     obtain⟨g1,g2⟩:=gg
     refine Zn [⟨77,[],false,.eq (.pointer (some ⟨R,0,none⟩))⟩,⟨78,[],false,.eq (.pointer (some ⟨y.p,0,none⟩))⟩,⟨79,[],false,.eq (.pointer (some ⟨R,0,none⟩))⟩,⟨80,[],false,.eq (.slice (some ⟨pb,po,none⟩) params.length c)⟩,⟨81,[],false,.eq (.int .i64 (kn:Int))⟩,⟨82,[80,81],false,.eq (.pointer (some ⟨pb,po+kn*13,none⟩))⟩,⟨83,[82],false,.eq (.pointer (some ⟨pb,po+kn*13+2,none⟩))⟩,⟨84,[83],false,.eq (.int .i64 q.sub)⟩,⟨85,[79,84],false,.eq (.int .i64 (ofP t q.sub))⟩,⟨86,[],false,.eq (.slice (some ⟨pb,po,none⟩) params.length c)⟩,⟨87,[],false,.eq (.int .i64 (kn:Int))⟩,⟨88,[86,87],false,.eq (.pointer (some ⟨pb,po+kn*13,none⟩))⟩,⟨89,[88],false,.eq (.pointer (some ⟨pb,po+kn*13+1,none⟩))⟩,⟨90,[89],false,.eq (.int .u8 q.mode)⟩,⟨91,[90],false,.eq (.bool true)⟩,⟨92,[91],false,.eq (.bool true)⟩,⟨93,[92],false,.eq undef⟩,⟨94,[92],false,.eq undef⟩,⟨95,[92],false,.eq undef⟩,⟨96,[92],false,.eq undef⟩,⟨97,[92],false,.eq undef⟩,⟨98,[92],false,.eq undef⟩,⟨99,[92,98],false,.eq (.bool true)⟩,⟨100,[77,78,85,99],false,.wx (gA::gH::X) (g1,g2)⟩,⟨76,[100],false,.wx (gA::gH::X) (g1,g2)⟩,⟨101,[76],false,.eq (.int .i64 g1)⟩,⟨102,[76],false,.ex (gA::gH::X) g2⟩,⟨13,[],true,.new Zg.cells.toArray 41⟩,⟨12,[101],false,.eq (.int .i64 g1)⟩] (by kernel_rfl) (by kernel_rfl) ?_
     apply Exists.intro
     refine⟨fun vs=>?_,?_⟩
     ·simp only[List.map_cons,List.map_nil,PSz.toP,Jj,Act.put,List.setIfInBounds_toArray,List.set_cons_zero,List.set_cons_succ]
      exact rfl
     refine⟨⟨?_,?_,?_,?_,?_,?_,?_,?_,?_,?_,?_,?_,?_,?_,?_,?_,?_,?_,?_,?_,?_,?_,?_,?_,?_,?_,?_,?_,?_,trivial⟩,?_⟩<;>intro vs Z w9 hk hZ hg
     all_goals
      haveI p_w9:Zb w9 _:=⟨hk⟩
      have hz_w9:=hk.size
      have HZ:=hh hZ
      clear hk hZ
      (try simp only[ZG,Zi,Z8,SZ.eq_p,SZ.ex_p,SZ.wx_p,SZ.new_p,Nat.reduceEqDiff,reduceIte,and_true]at hg)
     ·clear hg
      go_wp2_with fail
      exact⟨kp,rfl,Z,.inl ⟨rfl,rfl⟩,rfl⟩
     ·clear hg
      go_wp2_with fail
      exact⟨kp,rfl,Z,.inl ⟨rfl,rfl⟩,rfl⟩
     ·clear hg
      go_wp2_with fail
      exact⟨kp,rfl,Z,.inl ⟨rfl,rfl⟩,rfl⟩
     ·clear hg
      go_wp2_with fail
      exact⟨kp,rfl,Z,.inl ⟨rfl,rfl⟩,rfl⟩
     ·clear hg
      go_wp2_with fail
      exact⟨kp,rfl,Z,.inl ⟨rfl,rfl⟩,rfl⟩
     ·obtain⟨e80,e81⟩:=hg
      (try simp only[e80,e81])
      go_wp2_with fail
      exact⟨kp,rfl,Z,.inl ⟨rfl,rfl⟩,rfl⟩
     ·obtain e82:=hg
      (try simp only[e82])
      go_wp2_with fail
      exact⟨kp,rfl,Z,.inl ⟨rfl,rfl⟩,rfl⟩
     ·obtain e83:=hg
      (try simp only[e83])
      go_wp2_with fail
      exact⟨kp,rfl,Z,.inl ⟨rfl,rfl⟩,rfl⟩
     ·obtain⟨e79,e84⟩:=hg
      (try simp only[e79,e84])
      go_wp2_with fail
      refine(HOF.out _ _ kp).mono ?_
      rintro e w9 ⟨rfl,hk9⟩
      go_wp2_with fail
      exact⟨hk9,rfl,Z,.inl ⟨rfl,rfl⟩,rfl⟩
     ·clear hg
      go_wp2_with fail
      exact⟨kp,rfl,Z,.inl ⟨rfl,rfl⟩,rfl⟩
     ·clear hg
      go_wp2_with fail
      exact⟨kp,rfl,Z,.inl ⟨rfl,rfl⟩,rfl⟩
     ·obtain⟨e86,e87⟩:=hg
      (try simp only[e86,e87])
      go_wp2_with fail
      exact⟨kp,rfl,Z,.inl ⟨rfl,rfl⟩,rfl⟩
     ·obtain e88:=hg
      (try simp only[e88])
      go_wp2_with fail
      exact⟨kp,rfl,Z,.inl ⟨rfl,rfl⟩,rfl⟩
     ·obtain e89:=hg
      (try simp only[e89])
      go_wp2_with fail
      exact⟨kp,rfl,Z,.inl ⟨rfl,rfl⟩,rfl⟩
     ·obtain e90:=hg
      (try simp only[e90])
      go_wp2_with fail
      exact⟨kp,rfl,Z,.inl ⟨rfl,rfl⟩,rfl⟩
     ·obtain e91:=hg
      (try simp only[e91])
      go_wp2_with fail
      exact⟨kp,rfl,Z,.inl ⟨rfl,rfl⟩,rfl⟩
     ·obtain e92:=hg
      (try simp only[e92])
      go_wp2_with fail
      exact⟨kp,rfl,Z,.inl ⟨rfl,rfl⟩,rfl⟩
     ·obtain e92:=hg
      (try simp only[e92])
      go_wp2_with fail
      exact⟨kp,rfl,Z,.inl ⟨rfl,rfl⟩,rfl⟩
     ·obtain e92:=hg
      (try simp only[e92])
      go_wp2_with fail
      exact⟨kp,rfl,Z,.inl ⟨rfl,rfl⟩,rfl⟩
     ·obtain e92:=hg
      (try simp only[e92])
      go_wp2_with fail
      exact⟨kp,rfl,Z,.inl ⟨rfl,rfl⟩,rfl⟩
     ·obtain e92:=hg
      (try simp only[e92])
      go_wp2_with fail
      exact⟨kp,rfl,Z,.inl ⟨rfl,rfl⟩,rfl⟩
     ·obtain e92:=hg
      (try simp only[e92])
      go_wp2_with fail
      exact⟨kp,rfl,Z,.inl ⟨rfl,rfl⟩,rfl⟩
     ·obtain⟨e92,e98⟩:=hg
      (try simp only[e92,e98])
      go_wp2_with fail
      exact⟨kp,rfl,Z,.inl ⟨rfl,rfl⟩,rfl⟩
     ·obtain⟨e77,e78,e85,e99⟩:=hg
      (try simp only[e77,e78,e85,e99])
      go_wp2_with fail
      refine(HWY.out w9 Z (Kept.prev (Kept.refl _ _)) HZ.out).mono ?_
      rintro e w9 ⟨x,rfl,hp,hi,hk9⟩
      go_wp2_with fail
      exact⟨hk9,rfl,Z,.inl ⟨rfl,rfl⟩,x,rfl,hp,hi⟩
     ·obtain⟨x100,e100,f100,i100⟩:=hg
      simp only[e100]
      go_wp2_with fail
      exact⟨kp,rfl,Z,.inl ⟨rfl,rfl⟩,x100,rfl,f100,i100⟩
     ·obtain⟨x76,e76,f76,i76⟩:=hg
      simp only[e76]
      go_wp2_with fail
      exact⟨kp,rfl,Z,.inl ⟨rfl,rfl⟩,rfl⟩
     ·obtain⟨x76,e76,f76,i76⟩:=hg
      simp only[e76]
      go_wp2_with fail
      exact⟨kp,rfl,Z,.inl ⟨rfl,rfl⟩,x76,rfl,f76,i76⟩
     ·clear hg
      go_wp2_with fail
      exact⟨kp,rfl,_::Z,.inr ⟨rfl,_,rfl,rfl,Nat.le_refl _,by simp⟩,_,rfl,List.mem_cons_self,Zf rfl⟩
     ·obtain e101:=hg
      (try simp only[e101])
      go_wp2_with fail
      exact⟨kp,rfl,Z,.inl ⟨rfl,rfl⟩,rfl⟩
     obtain⟨e77,e78,e79,e80,e81,e82,e83,e84,e85,e86,e87,e88,e89,e90,e91,e92,e93,e94,e95,e96,e97,e98,e99,⟨x100,e100,f100,i100⟩,⟨x76,e76,f76,i76⟩,e101,⟨x102,e102,f102,i102⟩,⟨B13,e13,b13,h13⟩,e12⟩:=hg
     simp only[e77,e78,e79,e80,e81,e82,e83,e84,e85,e86,e87,e88,e89,e90,e91,e92,e93,e94,e95,e96,e97,e98,e99,e101,e102,e12,e13]
     clear e77 e78 e79 e80 e81 e82 e83 e84 e85 e86 e87 e88 e89 e90 e91 e92 e93 e94 e95 e96 e97 e98 e99 e100 f100 i100 e76 f76 i76 e101 e12
     haveI b9:Zc w9 B13 41 Zg.cells.toArray:=⟨h13⟩
     have hB:=HZ.out B13 b13
     have HZM:Hid (B13∈Z):=b13
     have HZE:Hid (x102.er=g2):=f102
     have HXD:Hid (ExD ((gA::gH::X)++Z) w9 x102):=i102
     have hk89:Kept [] w8 w9:=kp
     have HK89:=hh hk89
     have HE9:=hh ((HE8.out.keep hk89 (fun _ _=>by simp)).keep (Kept.setRow (X:=[B13]) w9 B13 x102.cells.toArray (by simp)) (fun k hk=>by simp[Value.ownBlock]at hk;simp;omega))
     have hzl:kn < zs.length:=by have:=HLEN.out.1;omega
     have hng0:0≤n*g1:=Int.mul_nonneg hnb.1 hgb.1
     have hng1:n*g1≤4:=by
      have h1:n*g1≤n*2:=Int.mul_le_mul_of_nonneg_left hgb.2 hnb.1
      omega
     clear h13 b13 f102 i102 hk89 HWY
     go_wp2_with (refine Z6 rfl (.tmp 111) (.tmp 109) rfl gA _ zs HE9.out kn hzl gA rfl x102 rfl rfl ?_;intro w10 ho10 hg10;have HO10:=hh ho10;have HG10:=hh hg10;clear ho10 hg10)
     have HK910:Hid (Kept [B13,gA] w9 w10):=(Kept.setRow (X:=[B13,gA]) w9 B13 _ (by simp)).trans (Kept.of_grown (X:=[B13,gA]) HG10.out (fun k hk=>by cases hk;simp))
     have HK310:Hid (Kept [gA,gH] w3 w10):=(((HK38.out.mono (Y:=[B13,gA,gH]) (by simp)).trans (HK89.out.mono (by simp))).trans (HK910.out.mono (by simp))).mono' (fun r hr hlr=>by have:=HK38.out.size;simp at hr⊢;omega)
     have HFIN:Hid (Zc3 X t params d.x.al (d.args.map G) w10 gA gH gA gH (i+1) (min 2 (n*g1)) (has.set kn true) (zs.set kn x102)):=by
      refine⟨by rw[HYES.out,List.map_set,HZE.out],by have:=HO10.out;exact this,Zk (Zk (X:=[]) HO8.out HK89.out (fun _ _=>by simp)) HK910.out (fun k hk=>by simp[Value.ownBlock]at hk;simp;omega),fun z hz=>?_⟩
      rcases List.mem_or_eq_of_mem_set hz with h1 | rfl
      ·exact(HST.out.ex z h1).less HK310.out (fun r hr=>by simp only[List.mem_cons,List.not_mem_nil,or_false]at hr⊢;exact hr.imp (fun h=>h) (fun h=> .inl h))
      ·exact(HXD.out.less HK910.out (fun r hr=>by simp at hr;rcases hr with rfl | rfl;exact List.mem_append.2 (.inr HZM.out);simp)).sub (fun r hr=>List.mem_append.2 (.inl hr))
     clear HE9 HG10
     go_roundw
     case rel=>exact⟨i+1,_,_,_,by go_num,by omega,rfl,rfl,HFIN.out,HKR.out.trans HK310.out⟩
     case measure=>simp[intOf];omega
    cases m3:(q.mode == 3)
    case true=>
     rw[m2,Bool.false_or,m3]at HYES HWY hgb
     generalize G y (ofP t q.sub) true=gg at*
     obtain⟨g1,g2⟩:=gg
     refine Zn [⟨77,[],false,.eq (.pointer (some ⟨R,0,none⟩))⟩,⟨78,[],false,.eq (.pointer (some ⟨y.p,0,none⟩))⟩,⟨79,[],false,.eq (.pointer (some ⟨R,0,none⟩))⟩,⟨80,[],false,.eq (.slice (some ⟨pb,po,none⟩) params.length c)⟩,⟨81,[],false,.eq (.int .i64 (kn:Int))⟩,⟨82,[80,81],false,.eq (.pointer (some ⟨pb,po+kn*13,none⟩))⟩,⟨83,[82],false,.eq (.pointer (some ⟨pb,po+kn*13+2,none⟩))⟩,⟨84,[83],false,.eq (.int .i64 q.sub)⟩,⟨85,[79,84],false,.eq (.int .i64 (ofP t q.sub))⟩,⟨86,[],false,.eq (.slice (some ⟨pb,po,none⟩) params.length c)⟩,⟨87,[],false,.eq (.int .i64 (kn:Int))⟩,⟨88,[86,87],false,.eq (.pointer (some ⟨pb,po+kn*13,none⟩))⟩,⟨89,[88],false,.eq (.pointer (some ⟨pb,po+kn*13+1,none⟩))⟩,⟨90,[89],false,.eq (.int .u8 q.mode)⟩,⟨91,[90],false,.eq (.bool false)⟩,⟨92,[91],false,.eq (.bool false)⟩,⟨93,[92],false,.eq (.slice (some ⟨pb,po,none⟩) params.length c)⟩,⟨94,[92],false,.eq (.int .i64 (kn:Int))⟩,⟨95,[93,94,92],false,.eq (.pointer (some ⟨pb,po+kn*13,none⟩))⟩,⟨96,[95,92],false,.eq (.pointer (some ⟨pb,po+kn*13+1,none⟩))⟩,⟨97,[96,92],false,.eq (.int .u8 q.mode)⟩,⟨98,[97,92],false,.eq (.bool true)⟩,⟨99,[92,98],false,.eq (.bool true)⟩,⟨100,[77,78,85,99],false,.wx (gA::gH::X) (g1,g2)⟩,⟨76,[100],false,.wx (gA::gH::X) (g1,g2)⟩,⟨101,[76],false,.eq (.int .i64 g1)⟩,⟨102,[76],false,.ex (gA::gH::X) g2⟩,⟨13,[],true,.new Zg.cells.toArray 41⟩,⟨12,[101],false,.eq (.int .i64 g1)⟩] (by kernel_rfl) (by kernel_rfl) ?_
     apply Exists.intro
     refine⟨fun vs=>?_,?_⟩
     ·simp only[List.map_cons,List.map_nil,PSz.toP,Jj,Act.put,List.setIfInBounds_toArray,List.set_cons_zero,List.set_cons_succ]
      exact rfl
     refine⟨⟨?_,?_,?_,?_,?_,?_,?_,?_,?_,?_,?_,?_,?_,?_,?_,?_,?_,?_,?_,?_,?_,?_,?_,?_,?_,?_,?_,?_,?_,trivial⟩,?_⟩<;>intro vs Z w9 hk hZ hg
     all_goals
      haveI p_w9:Zb w9 _:=⟨hk⟩
      have hz_w9:=hk.size
      have HZ:=hh hZ
      clear hk hZ
      (try simp only[ZG,Zi,Z8,SZ.eq_p,SZ.ex_p,SZ.wx_p,SZ.new_p,Nat.reduceEqDiff,reduceIte,and_true]at hg)
     ·clear hg
      go_wp2_with fail
      exact⟨kp,rfl,Z,.inl ⟨rfl,rfl⟩,rfl⟩
     ·clear hg
      go_wp2_with fail
      exact⟨kp,rfl,Z,.inl ⟨rfl,rfl⟩,rfl⟩
     ·clear hg
      go_wp2_with fail
      exact⟨kp,rfl,Z,.inl ⟨rfl,rfl⟩,rfl⟩
     ·clear hg
      go_wp2_with fail
      exact⟨kp,rfl,Z,.inl ⟨rfl,rfl⟩,rfl⟩
     ·clear hg
      go_wp2_with fail
      exact⟨kp,rfl,Z,.inl ⟨rfl,rfl⟩,rfl⟩
     ·obtain⟨e80,e81⟩:=hg
      (try simp only[e80,e81])
      go_wp2_with fail
      exact⟨kp,rfl,Z,.inl ⟨rfl,rfl⟩,rfl⟩
     ·obtain e82:=hg
      (try simp only[e82])
      go_wp2_with fail
      exact⟨kp,rfl,Z,.inl ⟨rfl,rfl⟩,rfl⟩
     ·obtain e83:=hg
      (try simp only[e83])
      go_wp2_with fail
      exact⟨kp,rfl,Z,.inl ⟨rfl,rfl⟩,rfl⟩
     ·obtain⟨e79,e84⟩:=hg
      (try simp only[e79,e84])
      go_wp2_with fail
      refine(HOF.out _ _ kp).mono ?_
      rintro e w9 ⟨rfl,hk9⟩
      go_wp2_with fail
      exact⟨hk9,rfl,Z,.inl ⟨rfl,rfl⟩,rfl⟩
     ·clear hg
      go_wp2_with fail
      exact⟨kp,rfl,Z,.inl ⟨rfl,rfl⟩,rfl⟩
     ·clear hg
      go_wp2_with fail
      exact⟨kp,rfl,Z,.inl ⟨rfl,rfl⟩,rfl⟩
     ·obtain⟨e86,e87⟩:=hg
      (try simp only[e86,e87])
      go_wp2_with fail
      exact⟨kp,rfl,Z,.inl ⟨rfl,rfl⟩,rfl⟩
     ·obtain e88:=hg
      (try simp only[e88])
      go_wp2_with fail
      exact⟨kp,rfl,Z,.inl ⟨rfl,rfl⟩,rfl⟩
     ·obtain e89:=hg
      (try simp only[e89])
      go_wp2_with fail
      exact⟨kp,rfl,Z,.inl ⟨rfl,rfl⟩,rfl⟩
     ·obtain e90:=hg
      (try simp only[e90])
      go_wp2_with fail
      exact⟨kp,rfl,Z,.inl ⟨rfl,rfl⟩,rfl⟩
     ·obtain e91:=hg
      (try simp only[e91])
      go_wp2_with fail
      exact⟨kp,rfl,Z,.inl ⟨rfl,rfl⟩,rfl⟩
     ·obtain e92:=hg
      (try simp only[e92])
      go_wp2_with fail
      exact⟨kp,rfl,Z,.inl ⟨rfl,rfl⟩,rfl⟩
     ·obtain e92:=hg
      (try simp only[e92])
      go_wp2_with fail
      exact⟨kp,rfl,Z,.inl ⟨rfl,rfl⟩,rfl⟩
     ·obtain⟨e93,e94,e92⟩:=hg
      (try simp only[e93,e94,e92])
      go_wp2_with fail
      exact⟨kp,rfl,Z,.inl ⟨rfl,rfl⟩,rfl⟩
     ·obtain⟨e95,e92⟩:=hg
      (try simp only[e95,e92])
      go_wp2_with fail
      exact⟨kp,rfl,Z,.inl ⟨rfl,rfl⟩,rfl⟩
     ·obtain⟨e96,e92⟩:=hg
      (try simp only[e96,e92])
      go_wp2_with fail
      exact⟨kp,rfl,Z,.inl ⟨rfl,rfl⟩,rfl⟩
     ·obtain⟨e97,e92⟩:=hg
      (try simp only[e97,e92])
      go_wp2_with fail
      exact⟨kp,rfl,Z,.inl ⟨rfl,rfl⟩,rfl⟩
     ·obtain⟨e92,e98⟩:=hg
      (try simp only[e92,e98])
      go_wp2_with fail
      exact⟨kp,rfl,Z,.inl ⟨rfl,rfl⟩,rfl⟩
     ·obtain⟨e77,e78,e85,e99⟩:=hg
      (try simp only[e77,e78,e85,e99])
      go_wp2_with fail
      refine(HWY.out w9 Z (Kept.prev (Kept.refl _ _)) HZ.out).mono ?_
      rintro e w9 ⟨x,rfl,hp,hi,hk9⟩
      go_wp2_with fail
      exact⟨hk9,rfl,Z,.inl ⟨rfl,rfl⟩,x,rfl,hp,hi⟩
     ·obtain⟨x100,e100,f100,i100⟩:=hg
      simp only[e100]
      go_wp2_with fail
      exact⟨kp,rfl,Z,.inl ⟨rfl,rfl⟩,x100,rfl,f100,i100⟩
     ·obtain⟨x76,e76,f76,i76⟩:=hg
      simp only[e76]
      go_wp2_with fail
      exact⟨kp,rfl,Z,.inl ⟨rfl,rfl⟩,rfl⟩
     ·obtain⟨x76,e76,f76,i76⟩:=hg
      simp only[e76]
      go_wp2_with fail
      exact⟨kp,rfl,Z,.inl ⟨rfl,rfl⟩,x76,rfl,f76,i76⟩
     ·clear hg
      go_wp2_with fail
      exact⟨kp,rfl,_::Z,.inr ⟨rfl,_,rfl,rfl,Nat.le_refl _,by simp⟩,_,rfl,List.mem_cons_self,Zf rfl⟩
     ·obtain e101:=hg
      (try simp only[e101])
      go_wp2_with fail
      exact⟨kp,rfl,Z,.inl ⟨rfl,rfl⟩,rfl⟩
     obtain⟨e77,e78,e79,e80,e81,e82,e83,e84,e85,e86,e87,e88,e89,e90,e91,e92,e93,e94,e95,e96,e97,e98,e99,⟨x100,e100,f100,i100⟩,⟨x76,e76,f76,i76⟩,e101,⟨x102,e102,f102,i102⟩,⟨B13,e13,b13,h13⟩,e12⟩:=hg
     simp only[e77,e78,e79,e80,e81,e82,e83,e84,e85,e86,e87,e88,e89,e90,e91,e92,e93,e94,e95,e96,e97,e98,e99,e101,e102,e12,e13]
     clear e77 e78 e79 e80 e81 e82 e83 e84 e85 e86 e87 e88 e89 e90 e91 e92 e93 e94 e95 e96 e97 e98 e99 e100 f100 i100 e76 f76 i76 e101 e12
     haveI b9:Zc w9 B13 41 Zg.cells.toArray:=⟨h13⟩
     have hB:=HZ.out B13 b13
     have HZM:Hid (B13∈Z):=b13
     have HZE:Hid (x102.er=g2):=f102
     have HXD:Hid (ExD ((gA::gH::X)++Z) w9 x102):=i102
     have hk89:Kept [] w8 w9:=kp
     have HK89:=hh hk89
     have HE9:=hh ((HE8.out.keep hk89 (fun _ _=>by simp)).keep (Kept.setRow (X:=[B13]) w9 B13 x102.cells.toArray (by simp)) (fun k hk=>by simp[Value.ownBlock]at hk;simp;omega))
     have hzl:kn < zs.length:=by have:=HLEN.out.1;omega
     have hng0:0≤n*g1:=Int.mul_nonneg hnb.1 hgb.1
     have hng1:n*g1≤4:=by
      have h1:n*g1≤n*2:=Int.mul_le_mul_of_nonneg_left hgb.2 hnb.1
      omega
     clear h13 b13 f102 i102 hk89 HWY
     go_wp2_with (refine Z6 rfl (.tmp 111) (.tmp 109) rfl gA _ zs HE9.out kn hzl gA rfl x102 rfl rfl ?_;intro w10 ho10 hg10;have HO10:=hh ho10;have HG10:=hh hg10;clear ho10 hg10)
     have HK910:Hid (Kept [B13,gA] w9 w10):=(Kept.setRow (X:=[B13,gA]) w9 B13 _ (by simp)).trans (Kept.of_grown (X:=[B13,gA]) HG10.out (fun k hk=>by cases hk;simp))
     have HK310:Hid (Kept [gA,gH] w3 w10):=(((HK38.out.mono (Y:=[B13,gA,gH]) (by simp)).trans (HK89.out.mono (by simp))).trans (HK910.out.mono (by simp))).mono' (fun r hr hlr=>by have:=HK38.out.size;simp at hr⊢;omega)
     have HFIN:Hid (Zc3 X t params d.x.al (d.args.map G) w10 gA gH gA gH (i+1) (min 2 (n*g1)) (has.set kn true) (zs.set kn x102)):=by
      refine⟨by rw[HYES.out,List.map_set,HZE.out],by have:=HO10.out;exact this,Zk (Zk (X:=[]) HO8.out HK89.out (fun _ _=>by simp)) HK910.out (fun k hk=>by simp[Value.ownBlock]at hk;simp;omega),fun z hz=>?_⟩
      rcases List.mem_or_eq_of_mem_set hz with h1 | rfl
      ·exact(HST.out.ex z h1).less HK310.out (fun r hr=>by simp only[List.mem_cons,List.not_mem_nil,or_false]at hr⊢;exact hr.imp (fun h=>h) (fun h=> .inl h))
      ·exact(HXD.out.less HK910.out (fun r hr=>by simp at hr;rcases hr with rfl | rfl;exact List.mem_append.2 (.inr HZM.out);simp)).sub (fun r hr=>List.mem_append.2 (.inl hr))
     clear HE9 HG10
     go_roundw
     case rel=>exact⟨i+1,_,_,_,by go_num,by omega,rfl,rfl,HFIN.out,HKR.out.trans HK310.out⟩
     case measure=>simp[intOf];omega
    rw[m2,Bool.false_or,m3]at HYES HWY hgb
    generalize G y (ofP t q.sub) false=gg at*
    obtain⟨g1,g2⟩:=gg
    refine Zn [⟨77,[],false,.eq (.pointer (some ⟨R,0,none⟩))⟩,⟨78,[],false,.eq (.pointer (some ⟨y.p,0,none⟩))⟩,⟨79,[],false,.eq (.pointer (some ⟨R,0,none⟩))⟩,⟨80,[],false,.eq (.slice (some ⟨pb,po,none⟩) params.length c)⟩,⟨81,[],false,.eq (.int .i64 (kn:Int))⟩,⟨82,[80,81],false,.eq (.pointer (some ⟨pb,po+kn*13,none⟩))⟩,⟨83,[82],false,.eq (.pointer (some ⟨pb,po+kn*13+2,none⟩))⟩,⟨84,[83],false,.eq (.int .i64 q.sub)⟩,⟨85,[79,84],false,.eq (.int .i64 (ofP t q.sub))⟩,⟨86,[],false,.eq (.slice (some ⟨pb,po,none⟩) params.length c)⟩,⟨87,[],false,.eq (.int .i64 (kn:Int))⟩,⟨88,[86,87],false,.eq (.pointer (some ⟨pb,po+kn*13,none⟩))⟩,⟨89,[88],false,.eq (.pointer (some ⟨pb,po+kn*13+1,none⟩))⟩,⟨90,[89],false,.eq (.int .u8 q.mode)⟩,⟨91,[90],false,.eq (.bool false)⟩,⟨92,[91],false,.eq (.bool false)⟩,⟨93,[92],false,.eq (.slice (some ⟨pb,po,none⟩) params.length c)⟩,⟨94,[92],false,.eq (.int .i64 (kn:Int))⟩,⟨95,[93,94,92],false,.eq (.pointer (some ⟨pb,po+kn*13,none⟩))⟩,⟨96,[95,92],false,.eq (.pointer (some ⟨pb,po+kn*13+1,none⟩))⟩,⟨97,[96,92],false,.eq (.int .u8 q.mode)⟩,⟨98,[97,92],false,.eq (.bool false)⟩,⟨99,[92,98],false,.eq (.bool false)⟩,⟨100,[77,78,85,99],false,.wx (gA::gH::X) (g1,g2)⟩,⟨76,[100],false,.wx (gA::gH::X) (g1,g2)⟩,⟨101,[76],false,.eq (.int .i64 g1)⟩,⟨102,[76],false,.ex (gA::gH::X) g2⟩,⟨13,[],true,.new Zg.cells.toArray 41⟩,⟨12,[101],false,.eq (.int .i64 g1)⟩] (by kernel_rfl) (by kernel_rfl) ?_
    apply Exists.intro
    refine⟨fun vs=>?_,?_⟩
    ·simp only[List.map_cons,List.map_nil,PSz.toP,Jj,Act.put,List.setIfInBounds_toArray,List.set_cons_zero,List.set_cons_succ]
     exact rfl
    refine⟨⟨?_,?_,?_,?_,?_,?_,?_,?_,?_,?_,?_,?_,?_,?_,?_,?_,?_,?_,?_,?_,?_,?_,?_,?_,?_,?_,?_,?_,?_,trivial⟩,?_⟩<;>intro vs Z w9 hk hZ hg
    all_goals
     haveI p_w9:Zb w9 _:=⟨hk⟩
     have hz_w9:=hk.size
     have HZ:=hh hZ
     clear hk hZ
     (try simp only[ZG,Zi,Z8,SZ.eq_p,SZ.ex_p,SZ.wx_p,SZ.new_p,Nat.reduceEqDiff,reduceIte,and_true]at hg)
    ·clear hg
     go_wp2_with fail
     exact⟨kp,rfl,Z,.inl ⟨rfl,rfl⟩,rfl⟩
    ·clear hg
     go_wp2_with fail
     exact⟨kp,rfl,Z,.inl ⟨rfl,rfl⟩,rfl⟩
    ·clear hg
     go_wp2_with fail
     exact⟨kp,rfl,Z,.inl ⟨rfl,rfl⟩,rfl⟩
    ·clear hg
     go_wp2_with fail
     exact⟨kp,rfl,Z,.inl ⟨rfl,rfl⟩,rfl⟩
    ·clear hg
     go_wp2_with fail
     exact⟨kp,rfl,Z,.inl ⟨rfl,rfl⟩,rfl⟩
    ·obtain⟨e80,e81⟩:=hg
     (try simp only[e80,e81])
     go_wp2_with fail
     exact⟨kp,rfl,Z,.inl ⟨rfl,rfl⟩,rfl⟩
    ·obtain e82:=hg
     (try simp only[e82])
     go_wp2_with fail
     exact⟨kp,rfl,Z,.inl ⟨rfl,rfl⟩,rfl⟩
    ·obtain e83:=hg
     (try simp only[e83])
     go_wp2_with fail
     exact⟨kp,rfl,Z,.inl ⟨rfl,rfl⟩,rfl⟩
    ·obtain⟨e79,e84⟩:=hg
     (try simp only[e79,e84])
     go_wp2_with fail
     refine(HOF.out _ _ kp).mono ?_
     rintro e w9 ⟨rfl,hk9⟩
     go_wp2_with fail
     exact⟨hk9,rfl,Z,.inl ⟨rfl,rfl⟩,rfl⟩
    ·clear hg
     go_wp2_with fail
     exact⟨kp,rfl,Z,.inl ⟨rfl,rfl⟩,rfl⟩
    ·clear hg
     go_wp2_with fail
     exact⟨kp,rfl,Z,.inl ⟨rfl,rfl⟩,rfl⟩
    ·obtain⟨e86,e87⟩:=hg
     (try simp only[e86,e87])
     go_wp2_with fail
     exact⟨kp,rfl,Z,.inl ⟨rfl,rfl⟩,rfl⟩
    ·obtain e88:=hg
     (try simp only[e88])
     go_wp2_with fail
     exact⟨kp,rfl,Z,.inl ⟨rfl,rfl⟩,rfl⟩
    ·obtain e89:=hg
     (try simp only[e89])
     go_wp2_with fail
     exact⟨kp,rfl,Z,.inl ⟨rfl,rfl⟩,rfl⟩
    ·obtain e90:=hg
     (try simp only[e90])
     go_wp2_with fail
     exact⟨kp,rfl,Z,.inl ⟨rfl,rfl⟩,rfl⟩
    ·obtain e91:=hg
     (try simp only[e91])
     go_wp2_with fail
     exact⟨kp,rfl,Z,.inl ⟨rfl,rfl⟩,rfl⟩
    ·obtain e92:=hg
     (try simp only[e92])
     go_wp2_with fail
     exact⟨kp,rfl,Z,.inl ⟨rfl,rfl⟩,rfl⟩
    ·obtain e92:=hg
     (try simp only[e92])
     go_wp2_with fail
     exact⟨kp,rfl,Z,.inl ⟨rfl,rfl⟩,rfl⟩
    ·obtain⟨e93,e94,e92⟩:=hg
     (try simp only[e93,e94,e92])
     go_wp2_with fail
     exact⟨kp,rfl,Z,.inl ⟨rfl,rfl⟩,rfl⟩
    ·obtain⟨e95,e92⟩:=hg
     (try simp only[e95,e92])
     go_wp2_with fail
     exact⟨kp,rfl,Z,.inl ⟨rfl,rfl⟩,rfl⟩
    ·obtain⟨e96,e92⟩:=hg
     (try simp only[e96,e92])
     go_wp2_with fail
     exact⟨kp,rfl,Z,.inl ⟨rfl,rfl⟩,rfl⟩
    ·obtain⟨e97,e92⟩:=hg
     (try simp only[e97,e92])
     go_wp2_with fail
     exact⟨kp,rfl,Z,.inl ⟨rfl,rfl⟩,rfl⟩
    ·obtain⟨e92,e98⟩:=hg
     (try simp only[e92,e98])
     go_wp2_with fail
     exact⟨kp,rfl,Z,.inl ⟨rfl,rfl⟩,rfl⟩
    ·obtain⟨e77,e78,e85,e99⟩:=hg
     (try simp only[e77,e78,e85,e99])
     go_wp2_with fail
     refine(HWY.out w9 Z (Kept.prev (Kept.refl _ _)) HZ.out).mono ?_
     rintro e w9 ⟨x,rfl,hp,hi,hk9⟩
     go_wp2_with fail
     exact⟨hk9,rfl,Z,.inl ⟨rfl,rfl⟩,x,rfl,hp,hi⟩
    ·obtain⟨x100,e100,f100,i100⟩:=hg
     simp only[e100]
     go_wp2_with fail
     exact⟨kp,rfl,Z,.inl ⟨rfl,rfl⟩,x100,rfl,f100,i100⟩
    ·obtain⟨x76,e76,f76,i76⟩:=hg
     simp only[e76]
     go_wp2_with fail
     exact⟨kp,rfl,Z,.inl ⟨rfl,rfl⟩,rfl⟩
    ·obtain⟨x76,e76,f76,i76⟩:=hg
     simp only[e76]
     go_wp2_with fail
     exact⟨kp,rfl,Z,.inl ⟨rfl,rfl⟩,x76,rfl,f76,i76⟩
    ·clear hg
     go_wp2_with fail
     exact⟨kp,rfl,_::Z,.inr ⟨rfl,_,rfl,rfl,Nat.le_refl _,by simp⟩,_,rfl,List.mem_cons_self,Zf rfl⟩
    ·obtain e101:=hg
     (try simp only[e101])
     go_wp2_with fail
     exact⟨kp,rfl,Z,.inl ⟨rfl,rfl⟩,rfl⟩
    obtain⟨e77,e78,e79,e80,e81,e82,e83,e84,e85,e86,e87,e88,e89,e90,e91,e92,e93,e94,e95,e96,e97,e98,e99,⟨x100,e100,f100,i100⟩,⟨x76,e76,f76,i76⟩,e101,⟨x102,e102,f102,i102⟩,⟨B13,e13,b13,h13⟩,e12⟩:=hg
    simp only[e77,e78,e79,e80,e81,e82,e83,e84,e85,e86,e87,e88,e89,e90,e91,e92,e93,e94,e95,e96,e97,e98,e99,e101,e102,e12,e13]
    clear e77 e78 e79 e80 e81 e82 e83 e84 e85 e86 e87 e88 e89 e90 e91 e92 e93 e94 e95 e96 e97 e98 e99 e100 f100 i100 e76 f76 i76 e101 e12
    haveI b9:Zc w9 B13 41 Zg.cells.toArray:=⟨h13⟩
    have hB:=HZ.out B13 b13
    have HZM:Hid (B13∈Z):=b13
    have HZE:Hid (x102.er=g2):=f102
    have HXD:Hid (ExD ((gA::gH::X)++Z) w9 x102):=i102
    have hk89:Kept [] w8 w9:=kp
    have HK89:=hh hk89
    have HE9:=hh ((HE8.out.keep hk89 (fun _ _=>by simp)).keep (Kept.setRow (X:=[B13]) w9 B13 x102.cells.toArray (by simp)) (fun k hk=>by simp[Value.ownBlock]at hk;simp;omega))
    have hzl:kn < zs.length:=by have:=HLEN.out.1;omega
    have hng0:0≤n*g1:=Int.mul_nonneg hnb.1 hgb.1
    have hng1:n*g1≤4:=by
     have h1:n*g1≤n*2:=Int.mul_le_mul_of_nonneg_left hgb.2 hnb.1
     omega
    clear h13 b13 f102 i102 hk89 HWY
    go_wp2_with (refine Z6 rfl (.tmp 111) (.tmp 109) rfl gA _ zs HE9.out kn hzl gA rfl x102 rfl rfl ?_;intro w10 ho10 hg10;have HO10:=hh ho10;have HG10:=hh hg10;clear ho10 hg10)
    have HK910:Hid (Kept [B13,gA] w9 w10):=(Kept.setRow (X:=[B13,gA]) w9 B13 _ (by simp)).trans (Kept.of_grown (X:=[B13,gA]) HG10.out (fun k hk=>by cases hk;simp))
    have HK310:Hid (Kept [gA,gH] w3 w10):=(((HK38.out.mono (Y:=[B13,gA,gH]) (by simp)).trans (HK89.out.mono (by simp))).trans (HK910.out.mono (by simp))).mono' (fun r hr hlr=>by have:=HK38.out.size;simp at hr⊢;omega)
    have HFIN:Hid (Zc3 X t params d.x.al (d.args.map G) w10 gA gH gA gH (i+1) (min 2 (n*g1)) (has.set kn true) (zs.set kn x102)):=by
     refine⟨by rw[HYES.out,List.map_set,HZE.out],by have:=HO10.out;exact this,Zk (Zk (X:=[]) HO8.out HK89.out (fun _ _=>by simp)) HK910.out (fun k hk=>by simp[Value.ownBlock]at hk;simp;omega),fun z hz=>?_⟩
     rcases List.mem_or_eq_of_mem_set hz with h1 | rfl
     ·exact(HST.out.ex z h1).less HK310.out (fun r hr=>by simp only[List.mem_cons,List.not_mem_nil,or_false]at hr⊢;exact hr.imp (fun h=>h) (fun h=> .inl h))
     ·exact(HXD.out.less HK910.out (fun r hr=>by simp at hr;rcases hr with rfl | rfl;exact List.mem_append.2 (.inr HZM.out);simp)).sub (fun r hr=>List.mem_append.2 (.inl hr))
    clear HE9 HG10
    go_roundw
    case rel=>exact⟨i+1,_,_,_,by go_num,by omega,rfl,rfl,HFIN.out,HKR.out.trans HK310.out⟩
    case measure=>simp[intOf];omega
  ·obtain rfl:i=d.args.length:=by omega
   have HFN:Hid (Zap t params d.x.al (d.args.map G)=if has.all id then(n,(zs.map ExV.er).map asE)else(0,[])):=by
    rw[Hid,Zap,List.length_map,HST.out.st]
   have HLEN:=hh HST.out.len
   have HA:Hid ((∀j,j < params.length→has.getD j false=true)→has.all id=true):=fun h=>by
    rw[List.all_eq_true]
    intro b hb
    obtain⟨j,hj,rfl⟩:=List.getElem_of_mem hb
    have:=h j (by have:=HLEN.out.2;omega)
    rw[List.getD_eq_getElem?_getD,List.getElem?_eq_getElem hj]at this
    simpa using this
   have HB:Hid (∀j,j < params.length→has.getD j false=false→has.all id=false):=fun j hj h=>by
    rw[List.all_eq_false]
    have hj2:j < has.length:=by have:=HLEN.out.2;omega
    refine⟨has[j],List.getElem_mem _,?_⟩
    rw[List.getD_eq_getElem?_getD,List.getElem?_eq_getElem hj2]at h
    simpa using h
   have HOW:=hh (fun W (hk:Kept [] w3 W)=>HST.out.oa.keep hk (fun _ _=>by simp))
   have HOH:=hh (fun W (hk:Kept [] w3 W) k (b:Bool) (hkl:k < params.length) (hb:has.getD k false=b)=>(Ym (g:=gH) (k:=k) (u:= .bool b) (Zk HST.out.oh hk (fun _ _=>by simp)) rfl (by
    have hj2:k < has.length:=by have:=HLEN.out.2;omega
    rw[List.getElem?_map];rw[List.getD_eq_getElem?_getD,List.getElem?_eq_getElem hj2]at hb;rw[List.getElem?_eq_getElem hj2];simpa using hb)).1)
   have HEX:=hh (fun z hz=>(HST.out.ex z hz).sub (Y:=X) (fun r hr=>by simp[hr]))
   clear HST
   go_wp2_with fail
   go_loopw [115,6,7] (fun s115 s6 s7 wr=>∃k:Nat,s115= .int .i64 k∧k≤params.length∧s6= .int .i64 n∧s7= .slice (some ⟨gA,0,none⟩) params.length params.length∧(∀j,j < k→has.getD j false=true)∧Kept [] w3 wr) (fun s115 _ _ _=>params.length - (intOf s115).toNat)
   case atStart=>exact⟨0,rfl,Nat.zero_le _,rfl,rfl,fun j hj=>by omega,Kept.refl _ _⟩
   case round=>
    obtain⟨k,rfl,hk,rfl,rfl,hall,hkr⟩:=hrel
    have HALL:=hh hall
    have HKR4:=hh hkr
    obtain⟨w4,rfl⟩:∃w4:World,w4=wr:=⟨_,rfl⟩
    haveI p_w4:Zb w4 w3:=⟨hkr⟩
    clear hall hkr
    by_cases hlt2:k < params.length
    ·obtain⟨q,hq⟩:∃q,params[k]? =some q:=⟨_,List.getElem?_eq_getElem hlt2⟩
     obtain⟨pb,po,rfl,hpr⟩:=HP.out.some_ hq
     haveI ip:Ye w pb (po+k*13) q:=⟨hpr k q hq⟩
     have hqd:=HD.out q (List.mem_of_getElem? hq)
     clear hpr hq
     cases hh:has.getD k false
     ·have HNO:Hid (Zap t params d.x.al (d.args.map G)=(0,[])):=by rw[Hid,HFN.out,HB.out k hlt2 hh];rfl
      have qb2:∀ob,(w4.alloc ob).cell? ⟨gH,k,none⟩=some (.bool false):=fun ob=>HOH.out _ kp k false hlt2 hh
      go_wp2_with fail
      refine bodyPost_ret (v:= .tuple #[.int .i64 0,.slice none 0 0]) (Qm results48 (Zh rfl) (Zh rfl)) rfl ?_
      rw[HNO.out]
      exact Zas.no X kp
     ·have qb2:∀ob,(w4.alloc ob).cell? ⟨gH,k,none⟩=some (.bool true):=fun ob=>HOH.out _ kp k true hlt2 hh
      have HALL2:Hid (∀j,j < k+1→has.getD j false=true):=fun j hj=>by
       by_cases e:j=k
       ·rw[e];exact hh
       ·exact HALL.out j (by omega)
      clear hh
      go_wp2_with fail
      go_roundw
      case rel=>exact⟨k+1,by go_num,by omega,rfl,rfl,HALL2.out,kp⟩
      case measure=>simp[intOf];omega
    ·obtain rfl:k=params.length:=by omega
     have HYES:Hid (Zap t params d.x.al (d.args.map G)=(n,(zs.map ExV.er).map asE)):=by rw[Hid,HFN.out,HA.out HALL.out];rfl
     go_wp2_with fail
     refine bodyPost_ret (v:= .tuple #[.int .i64 n,.slice (some ⟨gA,0,none⟩) params.length params.length]) (Qm results48 (Zh rfl) (Zh rfl)) rfl ?_
     rw[HYES.out]
     obtain⟨A',c',e,hr⟩:=(HOW.out w4 HKR4.out).rowsA (X:=X) (fun q hq=>by have:=HX.out q hq;omega)
     have hpz:zs.length=params.length:=HLEN.out.1
     refine⟨some ⟨gA,0,none⟩,params.length,zs,by rw[List.length_map,hpz],?_,?_,fun z hz=>(HEX.out z hz).kept HKR4.out,kp⟩
     ·rw[List.map_map,List.map_map]
      exact List.map_congr_left (fun z _=>by simp[asE,AsV.er])
     ·have e1:A'=some ⟨gA,0,none⟩:=by
       injection e with e1
       exact e1.symm
      rw[e1]at hr
      exact hr
end
end Go.Proofs.YtfaecpkocgcofaaGreatDoor
