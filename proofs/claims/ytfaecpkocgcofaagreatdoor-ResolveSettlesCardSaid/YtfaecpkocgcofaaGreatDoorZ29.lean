/- Lemmas for ResolveSettles, printed small: N14. -/
import Derived.Test.YtfaecpkocgcofaaGreatDoorZ28
set_option linter.all false
set_option maxRecDepth 100000
set_option maxHeartbeats 8000000
open Go.Proofs.Tryz
namespace Go.Proofs.YtfaecpkocgcofaaGreatDoor
section
open Go.RowKit
theorem ExD.setAs {X:List Nat} {w:World} {x:ExV} {A:Option Addr} {zs:List ExV} (c:Nat) (h:ExD X w x) (hr:St X w (fun w'=>Zo AsV 10 AsV.cells w' A (zs.map asE))) (hl:zs.length≤140737488355328) (hd:∀z,z∈zs→ExD X w z):ExD X w (x.setA A c (zs.map asE)):=by
 obtain⟨n,hn⟩:=h
 obtain⟨m,hm⟩:=Zhl hd
 refine⟨n+m+1,fun w' hk=>?_⟩
 have h1:=(hn w' hk).mono (show n≤n+m+1 by omega)
 refine⟨h1.1,h1.2.1,hr w' hk,fun z hz=>?_,h1.2.2.2.2.1,by simpa [ExV.setA,ExV.al]using hl,h1.2.2.2.2.2.2.1,h1.2.2.2.2.2.2.2.1,fun z hz=>?_⟩
 ·obtain⟨y,hy,rfl⟩:=List.mem_map.1 (show z∈zs.map asE from hz)
  exact(hm y hy w' hk).mono (by omega)
 ·obtain⟨y,hy,rfl⟩:=List.mem_map.1 (show z∈zs.map asE from hz)
  exact⟨.inl rfl,by simp[asE],fun c hc=>by simp[asE]at hc⟩
theorem ExD.mem_ls {X:List Nat} {w:World} {x y:ExV} (h:ExD X w x) (hy:y∈x.ls):ExD X w y:=by
 obtain⟨n,h⟩:=h
 cases n with
 | zero=>exact(h w (Kept.refl _ _)).elim
 | succ n=>exact⟨n,fun w' hk=>(h w' hk).2.1 y hy⟩
def ZqW (x f:ExV) (al:List AsV) (i ty:Int):ExV:= .mk x.kind x.oper x.n x.s none 0 [f] none 0 al x.line i ty
theorem Zou (x f:ExV) (A B:Option Addr) (c e:Nat) (zs:List ExV) (i ty:Int):((((x.setL A c [f]).setA B e (zs.map asE)).setEnt i).setT ty).er=ZqW x.er f.er ((zs.map asE).map AsV.er) i ty:=by
 rw[ExV.er_setT,ExV.er_setEnt,ExV.er_setA,ExV.er_setL]
 cases x
 simp only[ExV.er_mk]
 rfl
def Zos (t:Tab) (x l0:ExV) (al:List AsV) (gs:List (Int→Bool→Int×ExV)) (i:Int) (y:Zx):MeV:=
 ⟨y.t,(Zap t y.params al gs).1,false,ZqW x (Zbz l0 i y.t) (Zap t y.params al gs).2 i y.t⟩
def Jg (t:Tab) (x l0:ExV) (al:List AsV) (gs:List (Int→Bool→Int×ExV)) (acc:List MeV) (i:Int):List MeV:=
 if(t.ents.getD i.toNat default).kind == 4 && !(t.ents.getD i.toNat default).generic then Zac acc (Zos t x l0 al gs i (t.ents.getD i.toNat default))else acc
def Zc0 (t:Tab) (h:WhV) (x l0:ExV) (al:List AsV) (gs:List (Int→Bool→Int×ExV)):List MeV:=(Q7 t h l0).foldl (Jg t x l0 al gs) []
theorem Zjh {t:Tab} {x l0:ExV} {al:List AsV} {gs:List (Int→Bool→Int×ExV)} {xs:List Int} {k:Nat} {i:Int} (h:xs[k]? =some i):(xs.take (k+1)).foldl (Jg t x l0 al gs) []=Jg t x l0 al gs ((xs.take k).foldl (Jg t x l0 al gs) []) i:=by
 obtain⟨hk,rfl⟩:=List.getElem?_eq_some_iff.1 h
 rw[List.take_succ_eq_append_getElem hk,List.foldl_append]
 rfl
theorem Zf1 (t:Tab) (x l0:ExV) (al:List AsV) (gs:List (Int→Bool→Int×ExV)):∀(xs:List Int) (acc:List MeV),(xs.foldl (Jg t x l0 al gs) acc).length≤acc.length+xs.length
 | [],acc=>by simp
 | i::xs,acc=>by
  rw[List.foldl_cons,List.length_cons]
  have h1:=Zf1 t x l0 al gs xs (Jg t x l0 al gs acc i)
  have h2:(Jg t x l0 al gs acc i).length≤acc.length+1:=by
   unfold Jg
   split
   ·exact Zit _ _
   ·omega
  omega
theorem ZoD (t:Tab) (params:List Zd) (al:List AsV) (gs:List (Int→Bool→Int×ExV)):(Zap t params al gs).2.length≤params.length:=by
 unfold Zap
 split
 ·simp
 ·rename_i s hs
  have:=ZeK hs
  split
  ·simp[this.1]
  ·simp
def ZlU (y:Zx):Prop:=(y.kind == 4 && !y.generic)=true∨((y.kind == 4 && !y.generic)=false∧(y.kind == 5)=false∧(y.kind == 6)=false∧Za9 y.kind=false)
theorem ZlT (X:List Nat) (w:World) (R mr:Nat) (v:Zp) (t:Tab) (h:WhV) (d:NdV) (l0:ExV) (lr:List ExV) (hR:Qo w R mr v t h) (hd:NdT X w d) (hX:∀q,q∈X→q < w.heap.size) (hls:d.x.ls=l0::lr) (h4:l0.kind≠4) (hwa:ZbX l0=false)
 (hal:d.x.al.length=d.args.length) (h9:∀y,y∈d.args→y.x.kind≠9) (hdef:∀y,y∈t.ents→∀q,q∈y.params→q.d.kind=0) (hok:∀(i:Nat) y,(i:Int)∈Q7 t h l0→t.ents[i]? =some y→ZlU y):
 Calls prog 63 #[.pointer (some ⟨R,0,none⟩),.pointer (some ⟨d.p,0,none⟩)] w (Zc1 X (Zc0 t h d.x.er l0.er d.x.al (d.args.map (fun y ty obj=>QR t h (y.ms.map MeV.er) ty obj))) w):=by
 have HX:=hh hX
 obtain⟨n0,hn0⟩:=hd.here
 haveI bd:=hn0.is
 have HWA:=hh (fun W=>Zgm W l0)
 have HAL:=hh hn0.2.1
 cases n0 with
 | zero=>exact hn0.2.1.elim
 | succ n0=>
 obtain⟨lb,lo,hla,hlr⟩:=hn0.2.1.1.some_ (j:=0) (x:=l0) (by rw[hls];rfl)
 haveI il:Q1 w lb lo l0:=⟨by have:=hlr 0 l0 (by rw[hls];rfl);simpa using this⟩
 have hll:d.x.ls.length=lr.length+1:=by rw[hls];rfl
 have hll2:=hn0.2.1.2.2.2.2.1
 have hals:=hn0.2.1.2.2.1
 have hall:=hn0.2.1.2.2.2.2.2.1
 have hasn:=fun a (ha:a∈d.x.al)=>hn0.2.1.asIn ha
 clear hlr hn0
 go_enter func63,ntmps63
 go_upto_region 1 with(fail)
 go_cut [5] (fun v5 wc=>(∃s:Bool,v5= .bool s)∧wc=w)
 ·match hae:d.x.al with
  | []=>
   have hae1:d.x.al.length=0:=by rw[hae];rfl
   clear hals hasn HAL
   go_wp2_with fail
   go_meet
   exact⟨⟨_,rfl⟩,rfl⟩
  | a::b::r=>
   have hae1:d.x.al.length=r.length+2:=by rw[hae];rfl
   have hae2:((r.length:Int)+2 == 1)=false:=by simp;omega
   clear hals hasn HAL
   go_wp2_with fail
   go_meet
   exact⟨⟨_,rfl⟩,rfl⟩
  | [a]=>
   have hae1:d.x.al.length=1:=by rw[hae];rfl
   obtain⟨ab,ao,haa,har⟩:=hals.some_ (j:=0) (x:=a) (by rw[hae];rfl)
   haveI ia:QH w ab ao a:=⟨by have:=har 0 a (by rw[hae];rfl);simpa using this⟩
   have hac:=(hasn a (by rw[hae];simp)).2.1
   clear hals hasn HAL har
   go_wp2_with fail
   go_meet
   exact⟨⟨_,rfl⟩,rfl⟩
 case rest=>
  obtain⟨⟨sg,rfl⟩,hwc⟩:=hcut
  replace hwc:=hwc.symm
  subst hwc
  have HND:=hh hd
  have HRR:=hh hR
  have HOB:=hh (fun w' k=>Zdd w' k)
  have HDN:=hh (fun w' (hk:Kept [] w w')=>ZcB w' R mr v t h l0 (hR.kept hk) h4)
  have hdl:=ZfV hR.tab.sm5.1 h l0
  have HROW:Hid (∀i,i∈Q7 t h l0→∃(n:Nat) (y:Zx),i=(n:Int)∧t.ents[n]? =some y∧ZlU y):=fun i hi=>by
   obtain⟨n,y,rfl,hy⟩:=ZfU hi
   exact⟨n,y,rfl,hy,hok n y hi hy⟩
  have HV:Hid (Zc0 t h d.x.er l0.er d.x.al (d.args.map (fun y ty obj=>QR t h (y.ms.map MeV.er) ty obj))=(Q7 t h l0).foldl (Jg t d.x.er l0.er d.x.al (d.args.map (fun y ty obj=>QR t h (y.ms.map MeV.er) ty obj))) []):=by
   have e1:Q7 t h l0.er=Q7 t h l0:=by
    unfold Q7 Zam
    rw[ExV.er_kind,ExV.er_s]
   rw[Hid,Zc0,e1]
  have HACT:Hid (∀W Y y,Kept [] w W→(∀q,q∈Y→q∈X∨w.heap.size≤q)→(∀q,q∈Y→q < W.heap.size)→y∈t.ents→Calls prog 48 #[.pointer (some ⟨R,0,none⟩),.slice y.pa y.params.length y.pc,.pointer (some ⟨d.p,0,none⟩)] W (Zas Y (Zap t y.params d.x.al (d.args.map (fun y ty obj=>QR t h (y.ms.map MeV.er) ty obj))) W)):=fun W Y y hk hY hYs hy=>
   Zf6 Y W R mr v t h y.pa y.pc y.params d (fun y ty obj=>QR t h (y.ms.map MeV.er) ty obj) (hR.kept hk) ((hR.tab.ps y hy).kept hk) (hR.tab.pl y hy) (hdef y hy) (hd.nd.kept hk) hal
    (fun z hz a b=>ZdB (fun m hm=>by
     obtain⟨m0,hm0,rfl⟩:=List.mem_map.1 hm
     obtain⟨n1,hn1⟩:=(hd.arg hz).here
     exact(hn1.2.2.2.1 m0 hm0).2.1)) hYs
    (fun z ty obj W2 Y2 hz hk2 hY2 hYs2=>ZdA Y2 W2 R mr v t h z ty obj (hR.kept (hk.trans hk2)) ((hd.later (hk.trans hk2) (fun q hq=>(hY2 q hq).elim (fun h=>hY q h) (fun h=> .inr (Nat.le_trans hk.size h)))).arg hz) (.inl (h9 z hz)))
  have HNM:Hid (∀W Y (i:Nat) y,Kept [] w W→(∀q,q∈Y→q∈X∨w.heap.size≤q)→(∀q,q∈Y→q < W.heap.size)→t.ents[i]? =some y→Calls prog 49 #[.pointer (some ⟨R,0,none⟩),.agg l0.cells.toArray,.int .i64 i] W (Zjo Y (Zbz l0.er i y.t) W)):=fun W Y i y hk hY hYs hy=>
   Zdg Y W R mr v t h l0 i y (hR.kept hk) hy h4 ((hd.later hk hY).x.mem_ls (by rw[hls];simp)) hYs
  have HXD:Hid (∀W Y,Kept [] w W→(∀q,q∈Y→q∈X∨w.heap.size≤q)→ExD Y W d.x):=fun W Y hk hY=>(hd.later hk hY).x
  have HEN:Hid (∀(i:Nat) y,t.ents[i]? =some y→∃b o,v.ea=some ⟨b,o,none⟩∧YO w b (o+i*22) y):=fun i y hy=>by
   obtain⟨y',b,o,hy',ha,hat,_⟩:=Zb5 hR.tab (List.getElem?_eq_some_iff.1 hy).1
   obtain rfl:y'=y:=by rw[hy]at hy';exact(Option.some.inj hy').symm
   exact⟨b,o,ha,hat⟩
  have q1:=hR.tab.el
  have HPL:Hid (∀y,y∈t.ents→y.params.length≤5000):=hR.tab.pl
  haveI bR:=hR.is
  clear hR hd hX hls h4 hal h9 hdef hok HND HRR hals hasn HAL
  generalize hgs:d.args.map (fun y ty obj=>QR t h (y.ms.map MeV.er) ty obj)=gs at*
  have HGS:=hh hgs
  clear hgs
  generalize Q7 t h l0=xs at*
  go_wp2_with fail
  refine nxt (HWA.out _) fun w1 p_w1=>?_;have hz_w1:=szk w w1
  rw[hwa]
  go_wp2_with fail
  refine(HDN.out _ kp).mono ?_
  rintro e w2 ⟨vf,rfl,ho2,hk2⟩
  obtain⟨A,c,rfl⟩:=Zq ho2
  have hin:ZM w2 A xs:=by
   obtain⟨A',c',e,_,_,_,hi⟩:=Yb.of_owns ho2
   cases e
   exact hi
  have HIN:=hh hin
  haveI p_w2:Zb w2 w1:=⟨hk2⟩
  have HK2:Hid (Kept [] w w2):=kp
  clear ho2 hk2 hin HDN HWA
  go_wp2_with fail
  go_loopw [4,62] (fun s4 s62 wr=>∃(k:Nat) (u:Value) (ms:List MeV),s62= .int .i64 k∧s4=u∧k≤xs.length∧Zbf wr w2.heap.size u ms∧ms.map MeV.er=(xs.take k).foldl (Jg t d.x.er l0.er d.x.al gs) []∧MsD (Qd u X) wr ms∧Kept [] w2 wr) (fun _ s62 _=>xs.length - (intOf s62).toNat)
  case atStart=>exact⟨0,_,[],rfl,rfl,Nat.zero_le _,Zbf.nil _ _,rfl,fun m hm=>by simp at hm,Kept.refl _ _⟩
  case round=>
   obtain⟨k,s4,ms,rfl,hv,hk,ho,he,hdm,hkr⟩:=hrel
   replace hv:=hv.symm
   subst hv
   have HO:=hh ho
   have HE:=hh he
   have HD:=hh hdm
   have HKR:=hh hkr
   have hml:ms.length≤1000000000:=by
    have h1:=congrArg List.length he
    have h2:=Zf1 t d.x.er l0.er d.x.al gs (xs.take k) []
    rw[List.length_map]at h1
    rw[List.length_take]at h2
    simp only[List.length_nil]at h2
    omega
   obtain⟨w3,rfl⟩:∃w3:World,w3=wr:=⟨_,rfl⟩
   haveI p_w3:Zb w3 w2:=⟨hkr⟩
   clear ho he hdm hkr
   by_cases hlt:k < xs.length
   ·obtain⟨i,hi⟩:∃i,xs[k]? =some i:=⟨_,List.getElem?_eq_getElem hlt⟩
    obtain⟨n,y,rfl,hy,hoky⟩:=HROW.out i (List.mem_of_getElem? hi)
    have HS:Hid ((xs.take (k+1)).foldl (Jg t d.x.er l0.er d.x.al gs) []=if y.kind == 4 && !y.generic then Zac ((xs.take k).foldl (Jg t d.x.er l0.er d.x.al gs) []) (Zos t d.x.er l0.er d.x.al gs n y)else(xs.take k).foldl (Jg t d.x.er l0.er d.x.al gs) []):=by
     rw[Hid,Zjh hi,Jg]
     simp[List.getD_eq_getElem?_getD,hy]
    obtain⟨eb,eo,hea,hat⟩:=HEN.out n y hy
    have hnl:=(List.getElem?_eq_some_iff.1 hy).1
    have hnl2:(n:Int) < (t.ents.length:Int):=by omega
    rcases HIN.out with h0 | ⟨b,o,rfl,hcx⟩
    ·rw[h0]at hlt;simp at hlt
    have qx:=HKR.out.cell (hcx k n hi) (by simp)
    have HYM:Hid (y∈t.ents):=List.mem_of_getElem? hy
    have HY0:Hid (∀q,q∈Qd s4 X→q∈X∨w.heap.size≤q):=fun q hq=>(Zl.1 hq).elim (fun h=> .inr (Nat.le_trans HK2.out.size (HO.out.lt q h).1)) .inl
    have HK3:Hid (Kept [] w w3):=kp
    have HY1:Hid (∀W,Kept [] w3 W→∀q,q∈Qd s4 X→q < W.heap.size):=fun W hk q hq=>(Zl.1 hq).elim (fun h=>Nat.lt_of_lt_of_le (HO.out.lt q h).2 hk.size) (fun h=>Nat.lt_of_lt_of_le (HX.out q h) (Nat.le_trans HK3.out.size hk.size))
    have HNY:=hh (fun W (hk:Kept [] w3 W)=>HNM.out W (Qd s4 X) n y (HK3.out.trans hk) HY0.out (HY1.out W hk) hy)
    clear hcx hi hy
    go_wp2_with fail
    refine(HNY.out _ kp).mono ?_
    rintro e w4 ⟨z,rfl,hze,hzd,hk4⟩
    have HZE:=hh hze
    have HZD:=hh hzd
    haveI p_w4:Zb w4 (w3.alloc (.cells y.cells.toArray 95)):=⟨hk4⟩
    clear hze hzd hk4 HNY
    rcases hoky with hf | ⟨hf,h5,h6,hob⟩
    ·as_aux_lemma=>
      simp only[Bool.and_eq_true,Bool.not_eq_true']at hf
      obtain⟨hf1,hf2⟩:=hf
      rw[hf1,hf2]at HS
      have HAY:=hh (fun W (hk:Kept [] w3 W)=>HACT.out W (Qd s4 X) y (HK3.out.trans hk) HY0.out (HY1.out W hk) HYM.out)
      have HPLY:=HPL.out y HYM.out
      go_upto_region 12 with(fail)
      go_wp2_with fail
      refine(HAY.out _ kp).mono ?_
      rintro e w5 ⟨A5,c5,as5,rfl,hae,har,had,hk5⟩
      have HAE:=hh hae
      have HAR:=hh har
      have HAD:=hh had
      haveI p_w5:Zb w5 (w4.alloc (.cells z.cells.toArray 41)):=⟨hk5⟩
      clear hae har had hk5 HAY
      go_upto_region 14 with(fail)
      have HS14:Hid (∀(B:Nat) (j k:Int),(((d.x.cells.set 4 (.slice (some ⟨B,0,none⟩) 1 1)).set 5 (.slice A5 as5.length c5)).set 7 (.int .i64 j)).set 8 (.int .i64 k)=((((d.x.setL (some ⟨B,0,none⟩) 1 [z]).setA A5 c5 (as5.map asE)).setEnt j).setT k).cells):=fun B j k=>by
       rw[show as5.length=(as5.map asE).length by simp];rfl
      have HLT:Hid (∀q,q∈Qd s4 X→q < w5.heap.size):=fun q hq=>Nat.lt_of_lt_of_le (HY1.out w3 (Kept.refl _ _) q hq) (Kept.size (X:=[]) kp)
      have HAL5:Hid (as5.length≤5000):=by
       have h1:=congrArg List.length HAE.out
       have h2:=ZoD t y.params d.x.al gs
       simp only[List.length_map]at h1
       rw[Hid]
       omega
      go_region
      rw[HS14.out]
      obtain⟨w6,hw6⟩:∃w6,w6=((w5.alloc (.cells ((((d.x.setL (some ⟨w5.heap.size+1,0,none⟩) 1 [z]).setA A5 c5 (as5.map asE)).setEnt n).setT y.t).cells.toArray 41)).alloc (.cells z.cells.toArray 41)).drew:=⟨_,rfl⟩
      rw[←hw6]
      haveI p_w6:Zb w6 w5:=⟨by rw[hw6];exact kp⟩
      haveI b6:Zc w6 w5.heap.size 41 ((((d.x.setL (some ⟨w5.heap.size+1,0,none⟩) 1 [z]).setA A5 c5 (as5.map asE)).setEnt n).setT y.t).cells.toArray:=by rw[hw6];infer_instance
      have HB6:Hid (w6.heap[w5.heap.size+1]? =some (.cells z.cells.toArray 41 (0,0))):=by rw[Hid,hw6];exact Zf (by simp)
      clear hw6
      have HED:Hid (ExD (Qd s4 X) w6 ((((d.x.setL (some ⟨w5.heap.size+1,0,none⟩) 1 [z]).setA A5 c5 (as5.map asE)).setEnt n).setT y.t)):=by
       have hk56:Kept [] w5 w6:=Zb.kept
       refine((((HXD.out w6 (Qd s4 X) kp HY0.out).setL 1 (Zkl HB6.out (fun hm=>by have:=HLT.out _ hm;omega)) (by simp) (fun q hq=>?_)).setAs c5 (HAR.out.kept hk56) (by have:=HAL5.out;omega) (fun q hq=>(HAD.out q hq).kept hk56)).setEnt _).setT _
       obtain rfl:q=z:=by simpa using hq
       exact HZD.out.kept kp
      have HEM:Hid (((((d.x.setL (some ⟨w5.heap.size+1,0,none⟩) 1 [z]).setA A5 c5 (as5.map asE)).setEnt n).setT y.t).er=ZqW d.x.er (Zbz l0.er n y.t) (Zap t y.params d.x.al gs).2 n y.t):=by
       rw[Hid,Zou,HZE.out,HAE.out]
      generalize ((((d.x.setL (some ⟨w5.heap.size+1,0,none⟩) 1 [z]).setA A5 c5 (as5.map asE)).setEnt n).setT y.t)=ze at*
      clear HS14 HAR HAD HZD HB6
      have HADD:=hh (fun W (hk:Kept [] w3 W)=>Zma W w2.heap.size s4 ms ⟨y.t,(Zap t y.params d.x.al gs).1,false,ze⟩ (HO.out.keep hk (fun _ _=>by simp)) hml (HKR.out.trans hk).size)
      generalize hN1:(Zap t y.params d.x.al gs).1=n1 at*
      go_wp2_with fail
      refine(HADD.out _ kp).mono ?_
      rintro e w7 ⟨v',rfl,ho7,hg7,ha7⟩
      have HO7:=hh ho7
      have hk36:Kept [] w3 w6:=kp
      have HK27:Hid (Kept [] w2 w7):=(HKR.out.trans hk36).grown hg7 (fun q hq=>(HO.out.lt q hq).1)
      have HD7:Hid (MsD (Qd v' X) w7 (Zac ms ⟨y.t,n1,false,ze⟩)):=by
       intro m' hm'
       rcases Zis hm' with h1 | h1 | h1
       ·exact((HD.out m' h1).kept hk36).grow hg7 ha7
       ·rw[h1];exact ZaX _ _
       ·rw[h1];exact HED.out.grow hg7 ha7
      have HE7:Hid ((Zac ms ⟨y.t,n1,false,ze⟩).map MeV.er=(xs.take (k+1)).foldl (Jg t d.x.er l0.er d.x.al gs) []):=by
       rw[Hid,HS.out,Zmb,HE.out]
       simp only[Bool.not_false,Bool.and_self,if_true,beq_self_eq_true]
       congr 1
       simp only[MeV.er,Zos,HEM.out,hN1]
      clear ho7 hg7 ha7 HADD
      go_wp2_with fail
      go_roundw
      case rel=>exact⟨k+1,v',Zac ms ⟨y.t,n1,false,ze⟩,by go_num,rfl,by omega,HO7.out,HE7.out,HD7.out,HK27.out⟩
      case measure=>simp[intOf];omega
    ·as_aux_lemma=>
      rw[hf]at HS
      simp only[Bool.false_eq_true,if_false]at HS
      clear HACT
      cases hk4:(y.kind == 4)
      case false=>
       cases sg
       ·go_wp2_with fail
        go_roundw
        case rel=>exact⟨k+1,s4,ms,by go_num,rfl,by omega,HO.out.keep (X:=[]) kp (fun _ _=>by simp),by rw[HS.out,←HE.out],fun m hm=>(HD.out m hm).kept kp,kp⟩
        case measure=>simp[intOf];omega
       ·go_wp2_with fail
        refine nxt (HOB.out _ _) fun w5 p_w5=>?_;have hz_w5:=szk w w5
        rw[hob]
        go_wp2_with fail
        go_roundw
        case rel=>exact⟨k+1,s4,ms,by go_num,rfl,by omega,HO.out.keep (X:=[]) kp (fun _ _=>by simp),by rw[HS.out,←HE.out],fun m hm=>(HD.out m hm).kept kp,kp⟩
        case measure=>simp[intOf];omega
      case true=>
       have hg:y.generic=true:=by simpa [hk4]using hf
       cases sg
       ·go_wp2_with fail
        go_roundw
        case rel=>exact⟨k+1,s4,ms,by go_num,rfl,by omega,HO.out.keep (X:=[]) kp (fun _ _=>by simp),by rw[HS.out,←HE.out],fun m hm=>(HD.out m hm).kept kp,kp⟩
        case measure=>simp[intOf];omega
       ·go_wp2_with fail
        refine nxt (HOB.out _ _) fun w5 p_w5=>?_;have hz_w5:=szk w w5
        rw[hob]
        go_wp2_with fail
        go_roundw
        case rel=>exact⟨k+1,s4,ms,by go_num,rfl,by omega,HO.out.keep (X:=[]) kp (fun _ _=>by simp),by rw[HS.out,←HE.out],fun m hm=>(HD.out m hm).kept kp,kp⟩
        case measure=>simp[intOf];omega
   ·as_aux_lemma=>
     obtain rfl:k=xs.length:=by omega
     have HE2:=hh (by have:=HE.out;rw[List.take_length]at this;exact this)
     clear HE
     go_wp2_with fail
     go_ret
     rw[HGS.out,HV.out]
     exact⟨_,ms,rfl,HO.out.base' HK2.out.size,HE2.out,HD.out,kp⟩
end
end Go.Proofs.YtfaecpkocgcofaaGreatDoor
