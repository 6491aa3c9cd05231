/- Lemmas for ResolveSettles, printed small: L14. -/
import Derived.Test.YtfaecpkocgcofaaGreatDoorZ43
import Derived.Test.YtfaecpkocgcofaaGreatDoorZ48
set_option linter.all false
set_option maxRecDepth 100000
set_option maxHeartbeats 8000000
open Go.Proofs.Tryz
namespace Go.Proofs.YtfaecpkocgcofaaGreatDoor
section
open Go.RowKit
theorem Zjq.kept {w w':World} {A:Option Addr} {xs:List Int} (h:Zjq w A xs) (hk:Kept [] w w'):Zjq w' A xs:=⟨h.1.imp (fun h=>h) (fun⟨b,o,e,hc⟩=>⟨b,o,e,fun j x hx=>hk.cell (hc j x hx) (by simp)⟩),h.2⟩
section
variable (kl k1 k2 la lb:Nat) (q:Nat→Option Addr×Nat)
theorem ZjT {s:Nat} {x u:ExV} (hU:Uni s x u) (hs:s≤18):YC (exT kl k1 k2 la lb q) x 0 (u,0):=
 ⟨(hU.look 20 (by omega)).2,hU.sel 20 (by omega),fun _=>by
  rw[(hU.look 20 (by omega)).1,Zcs,if_pos (by decide),ZuI]
  exact hU.st 20 (by omega),hU.expr0 (by omega) (by omega)⟩
theorem ZjS {s:Nat} {x u:ExV} (hU:Uni s x u) (hs:s≤18) {r:ExV×Int} (hr:Yd (exT kl k1 k2 la lb q) exW 20 x 1=r):YC (exT kl k1 k2 la lb q) x 1 r:=
 ⟨(hU.look 20 (by omega)).2,hU.sel 20 (by omega),fun _=>by
  rw[(hU.look 20 (by omega)).1,Zcs,if_pos (by decide),Ztt _ _ _ (ZfO kl k1 k2 la lb q)]
  exact hU.st 20 (by omega),hr⟩
theorem ZjR {s:Nat} {x u:ExV} (hU:Uni s x u) (hs:s≤18) {r:ExV×Int} (hr:Yd (exT kl k1 k2 la lb q) exW 20 (QD 9 x (ZQ nN)) (-4)=r):YC (exT kl k1 k2 la lb q) (QD 9 x (ZQ nN)) (-4) r:=by
 obtain⟨h1,h2,h3,h4⟩:=hU.ltOk (n:=20) (ZfO kl k1 k2 la lb q) (Zlx kl k1 k2 la lb q) (Zec kl k1 k2 la lb q) (by omega)
 refine⟨h2,h3,fun _=>?_,hr⟩
 rw[h1]
 show ZbI _ 20 (QS (QG (exT kl k1 k2 la lb q) exW) [⟨2,1,false,YI 9 2 u (YA nN 22 1)⟩]).2
 have e:(QS (QG (exT kl k1 k2 la lb q) exW) [⟨2,1,false,YI 9 2 u (YA nN 22 1)⟩]).2=YI 9 2 u (YA nN 22 1):=by
  show(if QG (exT kl k1 k2 la lb q) exW 2=true then((0:Int)+1,YI 9 2 u (YA nN 22 1))else(0,Zg)).2=_
  rw[Zly]
  rfl
 rw[e]
 exact h4
theorem ZmL {s:Nat} {x u:ExV} (hU:Uni s x u) (hs:s≤18):
 (Zms (exT kl k1 k2 la lb q) 20 u∧Yd (exT kl k1 k2 la lb q) exW 20 x 1=(Jd (Zv (exT kl k1 k2 la lb q) 20 u).1 0 1,0)∧Yd (exT kl k1 k2 la lb q) exW 20 (QD 9 x (ZQ nN)) (-4)=(YI 9 2 (Jd (Zv (exT kl k1 k2 la lb q) 20 u).1 0 1) (YA nN 22 1),0))∨
 (¬Zms (exT kl k1 k2 la lb q) 20 u∧Yd (exT kl k1 k2 la lb q) exW 20 x 1=(Zg,71)∧Yd (exT kl k1 k2 la lb q) exW 20 (QD 9 x (ZQ nN)) (-4)=(Zg,71)):=by
 rcases hU.expr1 (t:=exT kl k1 k2 la lb q) (h:=exW) (n:=20) (ZbP ..) (Zeb ..) (ZfO ..) (by omega) (by omega)with⟨a,b⟩ | ⟨a,b⟩
 ·rcases hU.exprLt (t:=exT kl k1 k2 la lb q) (h:=exW) (n:=20) (ZbP ..) (Zeb ..) (ZfO ..) (Zlx ..) (Zly ..) (j:=22) (by decide) (Zec kl k1 k2 la lb q) Zcx.1 (by rw[Zed];simp) (by omega) (by omega)with⟨c,d⟩ | ⟨c,d⟩
  ·exact .inl ⟨a,b,d⟩
  ·exact absurd a c
 ·rcases hU.exprLt (t:=exT kl k1 k2 la lb q) (h:=exW) (n:=20) (ZbP ..) (Zeb ..) (ZfO ..) (Zlx ..) (Zly ..) (j:=22) (by decide) (Zec kl k1 k2 la lb q) Zcx.1 (by rw[Zed];simp) (by omega) (by omega)with⟨c,d⟩ | ⟨c,d⟩
  ·exact absurd c a
  ·exact .inr ⟨a,b,d⟩
end
theorem ZgD (w:World) (hTab:Zf8 w) (A:Option Addr) (c:Nat) (xs:List Int) (hI:Zjq w A xs) (hxl:xs.length≤140737488355328):Calls prog 3 #[.slice A xs.length c] w (ZE (.bool true) w):=by
 have HTW:=hh hTab
 have HI0:=hh hI
 have HWK:=hh (fun W (hk:Kept [] w W)=>ZjE W (hTab.kept hk))
 clear hTab hI
 by_cases hlen:15 < xs.length
 ·have hl':(15:Int) < (xs.length:Int):=by omega
  go_enter func3,ntmps3
  go_wp2_with fail
  refine nxt (HWK.out _ kp) fun w1 p_w1=>?_;have hz_w1:=szk w w1
  go_wp2_with fail
  exact Za rfl (Zj results3 (Zh rfl)) kp
 ·have hl':¬(15:Int) < (xs.length:Int):=by omega
  go_enter func3,ntmps3
  go_wp2_with fail
  refine(Ze6 _).mono ?_
  rintro e w1 ⟨v,kl,k1,k2,la,lb,q,rfl,hT,hk1⟩
  have HK1:Hid (Kept [] w w1):=hk1
  haveI p_w1:Zb w1 w:=⟨hk1⟩
  have HT:=hh hT
  clear hT hk1
  go_wp2_with fail
  refine(ZdD [] _ A c xs (HI0.out.kept kp) (by omega) (by simp)).mono ?_
  rintro e w2 ⟨z,u,s,rfl,hU,hs,hzk,hk2⟩
  haveI p_w2:Zb w2 _:=⟨hk2⟩
  have hs18:s≤18:=by omega
  have HU:=hh hU
  have HZK:=hh hzk
  have HEX:Hid (∀(W:World) (X:List Nat) (x:ExV) (want:Int) (r:ExV×Int),Kept [] w1 W→YC (exT kl k1 k2 la lb q) x.er want r→ExD X W x→(∀q,q∈X→q < W.heap.size)→Calls prog 10 #[.agg #[.slice v.ta 6 v.tc,.slice v.sa 7 v.sc,.slice v.ea 26 v.ec,.slice v.ga v.gn v.gc,.slice v.ia v.im v.ic],.agg #[.int .i64 15,.int .i64 26,.slice none 0 0,.slice none 0 0],.agg x.cells.toArray,.int .i64 want] W (ZaU X 20 r W)):=
   fun W X x want r hk hc hx hX=>ZfM (HT.out.kept hk) (HTW.out.kept (HK1.out.trans hk)) hc hx hX
  have HVL:Hid (∀(W:World) (x:ExV),Kept [] w1 W→Qe W 20 x→Calls prog 11 #[.agg #[.slice v.ta 6 v.tc,.slice v.sa 7 v.sc,.slice v.ea 26 v.ec,.slice v.ga v.gn v.gc,.slice v.ia v.im v.ic],.agg x.cells.toArray] W (ZE (.tuple #[.int .i64 (Zv (exT kl k1 k2 la lb q) 20 x).1,.int .i64 (Zv (exT kl k1 k2 la lb q) 20 x).2]) W)):=
   fun W x hk hx=>ZbR W v (exT kl k1 k2 la lb q) x 20 (Zb0 v (exT kl k1 k2 la lb q) 20) (HT.out.kept hk) hx
  have HC0:=hh (ZjT kl k1 k2 la lb q hU hs18)
  have HBO:=hh (ZmL kl k1 k2 la lb q hU hs18)
  obtain⟨r1,hr1⟩:∃r1,Yd (exT kl k1 k2 la lb q) exW 20 z.er 1=r1:=⟨_,rfl⟩
  obtain⟨r2,hr2⟩:∃r2,Yd (exT kl k1 k2 la lb q) exW 20 (QD 9 z.er (ZQ nN)) (-4)=r2:=⟨_,rfl⟩
  have HC1:=hh (ZjS kl k1 k2 la lb q hU hs18 hr1)
  have HCL:=hh (ZjR kl k1 k2 la lb q hU hs18 hr2)
  have HVU:=hh (hU.val (t:=exT kl k1 k2 la lb q) (n:=20) (ZbP ..) (by omega))
  rw[hr1,hr2]at HBO
  clear hU hzk hk2 hr1 hr2 HT HTW hs
  go_wp2_with fail
  refine(HEX.out _ [] z 0 _ kp HC0.out ⟨_,HZK.out.kept kp⟩ (by simp)).mono ?_
  rintro e w3 ⟨x,rfl,hx1,hx2,hk3⟩
  haveI p_w3:Zb w3 _:=⟨hk3⟩
  have HX1:Hid (x.er=u):=hx1
  have HX2:=hh hx2
  clear hx1 hx2 hk3
  go_wp2_with fail
  have hvx:Zv (exT kl k1 k2 la lb q) 20 x=Zv (exT kl k1 k2 la lb q) 20 u:=by rw[←HX1.out,ZbZ]
  have HVX:=hh (fun(W:World) (hk:Kept [] w1 W) (hx:Qe W 20 x)=>by have h:=HVL.out W x hk hx;rw[hvx]at h;exact h)
  clear hvx HVL
  obtain⟨vp,hvp⟩:∃vp,Zv (exT kl k1 k2 la lb q) 20 u=vp:=⟨_,rfl⟩
  unfold Zms at HBO
  rw[hvp]at HBO HVU HVX
  clear hvp
  refine(HVX.out _ kp (HX2.out.kept kp).in).mono ?_
  rintro e w8 ⟨rfl,hk8⟩
  haveI p_w8:Zb w8 _:=⟨hk8⟩
  clear hk8
  go_wp2_with fail
  refine(HEX.out _ [] z 1 _ kp HC1.out ⟨_,HZK.out.kept kp⟩ (by simp)).mono ?_
  rintro e w9 ⟨y,rfl,hy1,hy2,hk9⟩
  haveI p_w9:Zb w9 _:=⟨hk9⟩
  have HY1:=hh hy1
  have HY2:=hh hy2
  clear hy1 hy2 hk9
  go_wp2_with fail
  refine Zm ?_
  intro v5 hv5
  haveI p_v5:Zb v5 w9:=⟨by rw[hv5];exact kp⟩
  haveI bY:Zc v5 w9.heap.size 41 y.cells.toArray:=by rw[hv5];infer_instance
  clear hv5
  have HZK5:Hid (ExK [] v5 18 z):=(HZK.out.kept kp).mono hs18
  clear HC0 HC1 HZK HX1 HX2 HVX
  go_cut [11,12] (fun s11 s12 wc=>∃(B:Nat) (z:ExV),s11= .pointer (some ⟨B,0,none⟩)∧s12= .int .i64 r2.2∧z.er=r2.1∧wc.heap[B]? =some (.cells z.cells.toArray 41 (0,0))∧ExK [] wc 20 z∧Kept [] v5 wc)
  case first=>
   as_aux_lemma=>
    refine ZH [] [(0,⟨51,[],false,.eq (.agg #[.slice v.ta 6 v.tc,.slice v.sa 7 v.sc,.slice v.ea 26 v.ec,.slice v.ga v.gn v.gc,.slice v.ia v.im v.ic])⟩),(1,⟨52,[],false,.eq (.agg #[.int .i64 15,.int .i64 26,.slice none 0 0,.slice none 0 0])⟩),(2,⟨53,[],false,.eq (.agg z.cells.toArray)⟩),(3,⟨54,[],false,.kx [] 1 (ZQ nN)⟩),(4,⟨55,[53,54],false,.kx [] 19 (QD 9 z.er (ZQ nN))⟩),(5,⟨56,[51,52,55],false,.sx [] 20 r2⟩),(6,⟨50,[56],false,.sx [] 20 r2⟩),(7,⟨57,[50],false,.kx [] 20 r2.1⟩),(9,⟨11,[],true,.new Zg.cells.toArray 41⟩)] 8 ⟨58,[50],false,.eq (.int .i64 r2.2)⟩ 10 [11] (by kernel_rfl) (by kernel_rfl) ⟨rfl,by kernel_rfl⟩ (by kernel_rfl) (fun _ _ _ _ _ h=>h) (by repeat(first | exact trivial | refine And.intro rfl ?_)) (H:=[(0,⟨51,[],false,.eq (.agg #[.slice v.ta 6 v.tc,.slice v.sa 7 v.sc,.slice v.ea 26 v.ec,.slice v.ga v.gn v.gc,.slice v.ia v.im v.ic])⟩),(1,⟨52,[],false,.eq (.agg #[.int .i64 15,.int .i64 26,.slice none 0 0,.slice none 0 0])⟩),(2,⟨53,[],false,.eq (.agg z.cells.toArray)⟩),(3,⟨54,[],false,.kx [] 1 (ZQ nN)⟩),(4,⟨55,[53,54],false,.kx [] 19 (QD 9 z.er (ZQ nN))⟩),(5,⟨56,[51,52,55],false,.sx [] 20 r2⟩),(6,⟨50,[56],false,.sx [] 20 r2⟩),(7,⟨57,[50],false,.kx [] 20 r2.1⟩),(9,⟨11,[],true,.new Zg.cells.toArray 41⟩),(8,⟨58,[50],false,.eq (.int .i64 r2.2)⟩)]) rfl ?_
    apply Exists.intro
    refine⟨fun vs=>?_,?_⟩
    ·simp only[List.map_cons,List.map_nil,Q5,Jj,Act.put,List.setIfInBounds_toArray,List.set_cons_zero,List.set_cons_succ]
     exact rfl
    refine⟨⟨?_,?_,?_,?_,?_,?_,?_,?_,?_,?_,trivial⟩,?_,?_⟩<;>intro vs Z w4 hk hZ hg
    all_goals
     simp only[ZW,List.flatMap_cons,List.flatMap_nil,List.getElem?_cons_zero,List.getElem?_cons_succ,Option.toList_some,List.cons_append,List.nil_append]
     haveI p_w4:Zb w4 _:=⟨hk⟩
     have hz_w4:=hk.size
     have HZ:=hh hZ
     clear hk hZ
     (try simp only[List.map_cons,List.map_nil,ZG,Zi,Z8,SZ.eq_p,SZ.ex_p,SZ.wx_p,SZ.new_p,SZ.kx_p,SZ.sx_p,Nat.reduceEqDiff,reduceIte,and_true]at hg)
    ·clear hg
     go_wp2_with fail
     exact⟨kp,rfl,Z,.inl ⟨rfl,rfl⟩,rfl⟩
    ·clear hg
     go_wp2_with fail
     exact⟨kp,rfl,Z,.inl ⟨rfl,rfl⟩,rfl⟩
    ·clear hg
     go_wp2_with fail
     exact⟨kp,rfl,Z,.inl ⟨rfl,rfl⟩,rfl⟩
    ·clear hg
     go_wp2_with fail
     refine(Jc ([]++Z) w4 nN).mono ?_
     rintro e w8 ⟨z,rfl,hz1,hz2,hk8⟩
     go_wp2_with fail
     exact⟨hk8,rfl,Z,.inl ⟨rfl,rfl⟩,z,rfl,hz1,hz2⟩
    ·obtain⟨e53,⟨z54,e54,f54,i54⟩⟩:=hg
     (try simp only[e53])
     simp only[e53,e54]
     have hZ2:∀q,q∈ []++Z→q < w4.heap.size:=fun q hq=>(HZ.out q (by simpa using hq)).2
     have hzz:ExK ([]++Z) w4 18 z:=HZK5.out.later kp (fun q hq=> .inr (HZ.out q (by simpa using hq)).1)
     go_wp2_with fail
     refine(ZdG ([]++Z) w4 9 18 z z54 hzz (i54.mono (by decide)) hZ2).mono ?_
     rintro e w8 ⟨z9,rfl,hz1,hz2,hk8⟩
     rw[f54]at hz1
     go_wp2_with fail
     exact⟨hk8,rfl,Z,.inl ⟨rfl,rfl⟩,z9,rfl,hz1,hz2⟩
    ·obtain⟨e51,e52,⟨z55,e55,f55,i55⟩⟩:=hg
     (try simp only[e51,e52])
     simp only[e55]
     have hZ2:∀q,q∈ []++Z→q < w4.heap.size:=fun q hq=>(HZ.out q (by simpa using hq)).2
     go_wp2_with fail
     refine(HEX.out w4 ([]++Z) z55 (-4) _ kp (by rw[f55];exact HCL.out) ⟨_,i55⟩ hZ2).mono ?_
     rintro e w8 ⟨z9,rfl,hz1,hz2,hk8⟩
     go_wp2_with fail
     exact⟨hk8,rfl,Z,.inl ⟨rfl,rfl⟩,z9,rfl,hz1,hz2⟩
    ·obtain⟨z56,e56,f56,i56⟩:=hg
     simp only[e56]
     go_wp2_with fail
     exact⟨kp,rfl,Z,.inl ⟨rfl,rfl⟩,z56,rfl,f56,i56⟩
    ·obtain⟨z50,e50,f50,i50⟩:=hg
     simp only[e50]
     go_wp2_with fail
     exact⟨kp,rfl,Z,.inl ⟨rfl,rfl⟩,z50,rfl,f50,i50⟩
    ·clear hg
     go_wp2_with fail
     exact⟨kp,rfl,_::Z,.inr ⟨rfl,_,rfl,rfl,Nat.le_refl _,by simp⟩,_,rfl,List.mem_cons_self,Zf rfl⟩
    ·obtain⟨z50,e50,f50,i50⟩:=hg
     simp only[e50]
     go_wp2_with fail
     exact⟨kp,rfl,Z,.inl ⟨rfl,rfl⟩,rfl⟩
    obtain⟨e51,e52,e53,⟨z54,e54,f54,i54⟩,⟨z55,e55,f55,i55⟩,⟨z56,e56,f56,i56⟩,⟨z50,e50,f50,i50⟩,⟨z57,e57,f57,i57⟩,⟨B9,e9,b9,h9⟩,e58⟩:=hg
    simp only[e58]
    rotate_left
    obtain⟨e51,e52,e53,⟨z54,e54,f54,i54⟩,⟨z55,e55,f55,i55⟩,⟨z56,e56,f56,i56⟩,⟨z50,e50,f50,i50⟩,⟨z57,e57,f57,i57⟩,⟨B9,e9,b9,h9⟩⟩:=hg
    all_goals
     simp only[e51,e52,e53,e54,e55,e56,e50,e57,e9]
     haveI bB9:Zc w4 B9 41 Zg.cells.toArray:=⟨h9⟩
     have hBz:=HZ.out B9 b9
     have HK4:Hid (Kept [] v5 w4):=kp
     have HI:=hh i57
     have HF:=hh f57
     clear e51 e52 e53 e54 f54 i54 e55 f55 i55 e56 f56 i56 e50 f50 i50 e57 f57 i57 e9
     go_wp2_with fail
     go_meet
     exact⟨B9,z57,rfl,rfl,HF.out,Zc.has,(HI.out.less (Y:=[B9]) (Kept.setRow _ _ _ (by simp)) (fun q hq=>by obtain rfl:=List.mem_singleton.1 hq;simpa using b9)).sub (fun q hq=>by simp at hq),HK4.out.row' _ _ (by omega)⟩
  case rest=>
   obtain⟨B11,zl,rfl,rfl,f11,h11,i11,hk11⟩:=hcut
   obtain⟨v6,rfl⟩:∃W:World,W=wc:=⟨_,rfl⟩
   haveI p_v6:Zb v6 v5:=⟨hk11⟩
   haveI b11:Zc v6 B11 41 zl.cells.toArray:=⟨h11⟩
   have HKE:Hid (Kept [] w v6):=kp
   clear HEX HCL h11 hk11
   rcases HBO.out with⟨⟨g1,g2,g3⟩,e1,e2⟩ | ⟨g,e1,e2⟩
   ·subst e1 e2
    have q1:y.kind=1:=by rw[←ExV.er_kind,HY1.out];rfl
    have q2:y.n=vp.1:=by rw[←ExV.er_n,HY1.out];rfl
    have q3:y.t=1:=by rw[←ExV.er_t,HY1.out];rfl
    obtain⟨bl,ol,yl,hal,hyl,hel,hll⟩:=ZgY i11 (by rw[f11];rfl)
    haveI iyl:Q1 v6 bl ol yl:=hyl
    have q4:yl.kind=1:=by rw[←ExV.er_kind,hel];rfl
    have q5:yl.n=vp.1:=by rw[←ExV.er_n,hel];rfl
    have q6:zl.ls.length=2:=hll
    have g4:¬vp.1 < -2147483648:=by omega
    have g5:¬2147483647 < vp.1:=by omega
    clear hll hel hyl f11 i11 HBO HVU HY1 HY2 g2 g3 HU HZK5
    go_wp2_with fail
    refine nxt (HWK.out _ (HKE.out.trans kp)) fun w10 p_w10=>?_;have hz_w10:=szk w w10
    go_wp2_with fail
    exact Za rfl (Zj results3 (Zh rfl)) (HKE.out.trans kp)
   ·subst e1 e2
    clear f11 i11 HBO HY1 HY2 HU HZK5
    rcases HVU.out with h0 | h0
    ·by_cases h1:vp.1 < -2147483648
     ·clear g HVU
      go_wp2_with fail
      refine nxt (HWK.out _ (HKE.out.trans kp)) fun w10 p_w10=>?_;have hz_w10:=szk w w10
      go_wp2_with fail
      exact Za rfl (Zj results3 (Zh rfl)) (HKE.out.trans kp)
     ·have h2:2147483647 < vp.1:=by omega
      clear g HVU
      go_wp2_with fail
      refine nxt (HWK.out _ (HKE.out.trans kp)) fun w10 p_w10=>?_;have hz_w10:=szk w w10
      go_wp2_with fail
      exact Za rfl (Zj results3 (Zh rfl)) (HKE.out.trans kp)
    ·clear g HVU
     go_wp2_with fail
     refine nxt (HWK.out _ (HKE.out.trans kp)) fun w10 p_w10=>?_;have hz_w10:=szk w w10
     go_wp2_with fail
     exact Za rfl (Zj results3 (Zh rfl)) (HKE.out.trans kp)
end
end Go.Proofs.YtfaecpkocgcofaaGreatDoor
