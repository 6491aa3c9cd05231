/- Lemmas for ResolveSettles, printed small: L13. -/
import Derived.Test.YtfaecpkocgcofaaGreatDoorZ47
set_option linter.all false
set_option maxRecDepth 100000
set_option maxHeartbeats 8000000
open Go.Proofs.Tryz
namespace Go.Proofs.YtfaecpkocgcofaaGreatDoor
section
open Go.RowKit
theorem Zsp (w:World):ZmB w exW:=⟨.inl rfl,Nat.le_refl _,Nat.zero_le _,.inl rfl,Nat.le_refl _,Nat.zero_le _,⟨Nat.zero_le _,Nat.zero_le _⟩⟩
theorem ZfM {X:List Nat} {w:World} {v:Zp} {kl k1 k2 la lb:Nat} {q:Nat→Option Addr×Nat} {x:ExV} {want:Int} {r:ExV×Int} (hT:Zw w v (exT kl k1 k2 la lb q)) (hTab:Zf8 w) (hc:YC (exT kl k1 k2 la lb q) x.er want r) (hx:ExD X w x) (hX:∀q,q∈X→q < w.heap.size):
 Calls prog 10 #[.agg #[.slice v.ta 6 v.tc,.slice v.sa 7 v.sc,.slice v.ea 26 v.ec,.slice v.ga v.gn v.gc,.slice v.ia v.im v.ic],.agg #[.int .i64 15,.int .i64 26,.slice none 0 0,.slice none 0 0],.agg x.cells.toArray,.int .i64 want] w (ZaU X 20 r w):=by
 have:=ZoN X w v (exT kl k1 k2 la lb q) exW 19 x want hT (Zsp w) hTab (Zso kl k1 k2 la lb q) hx hX hc.ok hc.sel hc.st
 rw[hc.run]at this
 exact this
theorem ZgY {w:World} {m:Nat} {z a:ExV} {r:List ExV} (h:ExK [] w (m+1) z) (e:z.er.ls=a::r):∃b o y,z.la=some ⟨b,o,none⟩∧Q1 w b o y∧y.er=a∧z.ls.length=r.length+1:=by
 rw[ExV.er_ls]at e
 obtain⟨y,l,hl,h1,h2⟩:=List.map_eq_cons_iff.1 e
 obtain⟨b,o,ha,hr⟩:=h.in.1.some_ (j:=0) (x:=y) (by rw[hl];rfl)
 refine⟨b,o,y,ha,⟨by have:=hr 0 y (by rw[hl];rfl);simpa using this⟩,h1,?_⟩
 rw[hl,←h2,List.length_cons,List.length_map]
theorem Zra {w:World} {m:Nat} {z:ExV} {a:AsV} {r:List AsV} (h:ExK [] w (m+1) z) (e:z.er.al=a::r):∃b o y,z.aa=some ⟨b,o,none⟩∧QH w b o y∧y.er=a∧z.al.length=r.length+1:=by
 rw[ExV.er_al]at e
 obtain⟨y,l,hl,h1,h2⟩:=List.map_eq_cons_iff.1 e
 obtain⟨b,o,ha,hr⟩:=h.in.2.2.1.some_ (j:=0) (x:=y) (by rw[hl];rfl)
 refine⟨b,o,y,ha,⟨by have:=hr 0 y (by rw[hl];rfl);simpa using this⟩,h1,?_⟩
 rw[hl,←h2,List.length_cons,List.length_map]
@[go_sem] theorem Zvj (w:World) (b o:Nat) (x:ExV) [h:Q1 w b o x]:w.cell? ⟨b,o+7,none⟩=some (.int .i64 x.ent):=h.range 7 _ rfl
@[go_sem] theorem Zvl (w:World) (b o:Nat) (x:ExV) [h:Q1 w b o x]:w.cell? ⟨b,o+2,none⟩=some (.int .i64 x.n):=h.range 2 _ rfl
@[go_sem] theorem Zvi (w:World) (b o:Nat) (x:ExV) [h:Q1 w b o x]:w.cell? ⟨b,o+8,none⟩=some (.int .i64 x.t):=h.range 8 _ rfl
def ZoK (w:World) (e:Ending) (w':World):Prop:=∃v kl k1 k2 la lb q,e= .returned (.tuple #[.agg #[.slice v.ta 6 v.tc,.slice v.sa 7 v.sc,.slice v.ea 26 v.ec,.slice v.ga v.gn v.gc,.slice v.ia v.im v.ic],.agg #[.int .i64 15,.int .i64 26,.slice none 0 0,.slice none 0 0]])∧Zw w' v (exT kl k1 k2 la lb q)∧Kept [] w w'
theorem Ze6 (w:World):Calls prog 8 #[] w (ZoK w):=(ZmW w).mono fun _ _ ⟨v,kl,k1,k2,la,lb,q,h1,h2,h3⟩=>⟨v,kl,k1,k2,la,lb,q,h1,h2,h3⟩
theorem ZjE (w:World) (hTab:Zf8 w):Calls prog 7 #[] w (ZE (.bool true) w):=by
 have HTW:=hh hTab
 clear hTab
 go_enter func7,ntmps7
 go_wp2_with fail
 refine(Ze6 _).mono ?_
 rintro e w1 ⟨v,kl,k1,k2,la,lb,q,rfl,hT,hk1⟩
 have HK1:Hid (Kept [] w w1):=hk1
 haveI p_w1:Zb w1 w:=⟨hk1⟩
 have HT:=hh hT
 clear hT hk1
 go_wp2_with fail
 refine Zm ?_
 intro v1 hv1
 haveI p_v1:Zb v1 w1:=⟨by rw[hv1];exact kp⟩
 haveI bT:Zc v1 w1.heap.size 30 #[.slice v.ta 6 v.tc,.slice v.sa 7 v.sc,.slice v.ea 26 v.ec,.slice v.ga v.gn v.gc,.slice v.ia v.im v.ic]:=by rw[hv1];infer_instance
 haveI bW:Zc v1 (w1.heap.size+1) 33 #[.int .i64 15,.int .i64 26,.slice none 0 0,.slice none 0 0]:=by rw[hv1];infer_instance
 clear hv1
 have HEX:Hid (∀(W:World) (X:List Nat) (x:ExV) (want:Int) (r:ExV×Int),Kept [] w1 W→YC (exT kl k1 k2 la lb q) x.er want r→ExD X W x→(∀q,q∈X→q < W.heap.size)→Calls prog 10 #[.agg #[.slice v.ta 6 v.tc,.slice v.sa 7 v.sc,.slice v.ea 26 v.ec,.slice v.ga v.gn v.gc,.slice v.ia v.im v.ic],.agg #[.int .i64 15,.int .i64 26,.slice none 0 0,.slice none 0 0],.agg x.cells.toArray,.int .i64 want] W (ZaU X 20 r W)):=
  fun W X x want r hk hc hx hX=>ZfM (HT.out.kept hk) (HTW.out.kept (HK1.out.trans hk)) hc hx hX
 clear HT HTW
 generalize w1.heap.size=BT at*
 go_cut [3,4] (fun s3 s4 wc=>∃(B:Nat) (z:ExV),s3= .pointer (some ⟨B,0,none⟩)∧s4= .int .i64 0∧z.er=Ys 18 5∧wc.heap[B]? =some (.cells z.cells.toArray 41 (0,0))∧ExK [] wc 20 z∧Kept [] v1 wc)
 case first=>
  as_aux_lemma=>
   refine ZH [] [(0,⟨26,[],false,.eq (.agg #[.slice v.ta 6 v.tc,.slice v.sa 7 v.sc,.slice v.ea 26 v.ec,.slice v.ga v.gn v.gc,.slice v.ia v.im v.ic])⟩),(1,⟨27,[],false,.eq (.agg #[.int .i64 15,.int .i64 26,.slice none 0 0,.slice none 0 0])⟩),(2,⟨28,[],false,.kx [] 1 (ZQ ZD)⟩),(3,⟨29,[26,27,28],false,.sx [] 20 (Ys 18 5,0)⟩),(4,⟨25,[29],false,.sx [] 20 (Ys 18 5,0)⟩),(5,⟨30,[25],false,.kx [] 20 (Ys 18 5)⟩),(7,⟨3,[],true,.new Zg.cells.toArray 41⟩)] 6 ⟨31,[25],false,.eq (.int .i64 0)⟩ 8 [9] (by kernel_rfl) (by kernel_rfl) ⟨rfl,by kernel_rfl⟩ (by kernel_rfl) (fun _ _ _ _ _ h=>h) (by repeat(first | exact trivial | refine And.intro rfl ?_)) (H:=[(0,⟨26,[],false,.eq (.agg #[.slice v.ta 6 v.tc,.slice v.sa 7 v.sc,.slice v.ea 26 v.ec,.slice v.ga v.gn v.gc,.slice v.ia v.im v.ic])⟩),(1,⟨27,[],false,.eq (.agg #[.int .i64 15,.int .i64 26,.slice none 0 0,.slice none 0 0])⟩),(2,⟨28,[],false,.kx [] 1 (ZQ ZD)⟩),(3,⟨29,[26,27,28],false,.sx [] 20 (Ys 18 5,0)⟩),(4,⟨25,[29],false,.sx [] 20 (Ys 18 5,0)⟩),(5,⟨30,[25],false,.kx [] 20 (Ys 18 5)⟩),(7,⟨3,[],true,.new Zg.cells.toArray 41⟩),(6,⟨31,[25],false,.eq (.int .i64 0)⟩)]) rfl ?_
   apply Exists.intro
   refine⟨fun vs=>?_,?_⟩
   ·simp only[List.map_cons,List.map_nil,Q5,Jj,Act.put,List.setIfInBounds_toArray,List.set_cons_zero,List.set_cons_succ]
    exact rfl
   refine⟨⟨?_,?_,?_,?_,?_,?_,?_,?_,trivial⟩,?_,?_⟩<;>intro vs Z w4 hk hZ hg
   all_goals
    simp only[ZW,List.flatMap_cons,List.flatMap_nil,List.getElem?_cons_zero,List.getElem?_cons_succ,Option.toList_some,List.cons_append,List.nil_append]
    haveI p_w4:Zb w4 _:=⟨hk⟩
    have hz_w4:=hk.size
    have HZ:=hh hZ
    clear hk hZ
    (try simp only[List.map_cons,List.map_nil,ZG,Zi,Z8,SZ.eq_p,SZ.ex_p,SZ.wx_p,SZ.new_p,SZ.kx_p,SZ.sx_p,Nat.reduceEqDiff,reduceIte,and_true]at hg)
   ·clear hg
    go_wp2_with fail
    exact⟨kp,rfl,Z,.inl ⟨rfl,rfl⟩,rfl⟩
   ·clear hg
    go_wp2_with fail
    exact⟨kp,rfl,Z,.inl ⟨rfl,rfl⟩,rfl⟩
   ·clear hg
    go_wp2_with fail
    refine(Jc ([]++Z) w4 ZD).mono ?_
    rintro e w8 ⟨z,rfl,hz1,hz2,hk8⟩
    go_wp2_with fail
    exact⟨hk8,rfl,Z,.inl ⟨rfl,rfl⟩,z,rfl,hz1,hz2⟩
   ·obtain⟨e26,e27,⟨z28,e28,f28,i28⟩⟩:=hg
    (try simp only[e26,e27])
    simp only[e28]
    have hZ2:∀q,q∈ []++Z→q < w4.heap.size:=fun q hq=>(HZ.out q (by simpa using hq)).2
    go_wp2_with fail
    refine(HEX.out w4 ([]++Z) z28 5 _ kp (by rw[f28];exact Zvu kl k1 k2 la lb q) ⟨_,i28⟩ hZ2).mono ?_
    rintro e w8 ⟨z,rfl,hz1,hz2,hk8⟩
    go_wp2_with fail
    exact⟨hk8,rfl,Z,.inl ⟨rfl,rfl⟩,z,rfl,hz1,hz2⟩
   ·obtain⟨z29,e29,f29,i29⟩:=hg
    simp only[e29]
    go_wp2_with fail
    exact⟨kp,rfl,Z,.inl ⟨rfl,rfl⟩,z29,rfl,f29,i29⟩
   ·obtain⟨z25,e25,f25,i25⟩:=hg
    simp only[e25]
    go_wp2_with fail
    exact⟨kp,rfl,Z,.inl ⟨rfl,rfl⟩,z25,rfl,f25,i25⟩
   ·clear hg
    go_wp2_with fail
    exact⟨kp,rfl,_::Z,.inr ⟨rfl,_,rfl,rfl,Nat.le_refl _,by simp⟩,_,rfl,List.mem_cons_self,Zf rfl⟩
   ·obtain⟨z25,e25,f25,i25⟩:=hg
    simp only[e25]
    go_wp2_with fail
    exact⟨kp,rfl,Z,.inl ⟨rfl,rfl⟩,rfl⟩
   obtain⟨e26,e27,⟨z28,e28,f28,i28⟩,⟨z29,e29,f29,i29⟩,⟨z25,e25,f25,i25⟩,⟨z30,e30,f30,i30⟩,⟨B9,e9,b9,h9⟩,e31⟩:=hg
   simp only[e31]
   clear e31
   rotate_left
   obtain⟨e26,e27,⟨z28,e28,f28,i28⟩,⟨z29,e29,f29,i29⟩,⟨z25,e25,f25,i25⟩,⟨z30,e30,f30,i30⟩,⟨B9,e9,b9,h9⟩⟩:=hg
   all_goals
    simp only[e26,e27,e28,e29,e25,e30,e9]
    haveI bB9:Zc w4 B9 41 Zg.cells.toArray:=⟨h9⟩
    have hBz:=HZ.out B9 b9
    have HK4:Hid (Kept [] v1 w4):=kp
    have HI:=hh i30
    have HF:=hh f30
    clear e26 e27 e28 e29 e25 e30 e9 f28 i28 f29 i29 f25 i25 f30 i30
    go_wp2_with fail
    go_meet
    exact⟨B9,z30,rfl,rfl,HF.out,Zc.has,(HI.out.less (Y:=[B9]) (Kept.setRow _ _ _ (by simp)) (fun q hq=>by obtain rfl:=List.mem_singleton.1 hq;simpa using b9)).sub (fun q hq=>by simp at hq),HK4.out.row' _ _ (by omega)⟩
 case rest=>
  obtain⟨B1,z1,rfl,rfl,f1,h1,i1,hk1⟩:=hcut
  obtain⟨v2,rfl⟩:∃W:World,W=wc:=⟨_,rfl⟩
  haveI p_v2:Zb v2 v1:=⟨hk1⟩
  haveI b1:Zc v2 B1 41 z1.cells.toArray:=⟨h1⟩
  have F1:=hh f1
  have I1:=hh i1
  clear f1 h1 i1 hk1
  go_wp2_with fail
  go_cut [5,6] (fun s5 s6 wc=>∃(B:Nat) (z:ExV),s5= .pointer (some ⟨B,0,none⟩)∧s6= .int .i64 91∧z.er=Zg∧wc.heap[B]? =some (.cells z.cells.toArray 41 (0,0))∧ExK [] wc 20 z∧Kept [] v2 wc)
  case first=>
   as_aux_lemma=>
    refine ZH [] [(0,⟨33,[],false,.eq (.agg #[.slice v.ta 6 v.tc,.slice v.sa 7 v.sc,.slice v.ea 26 v.ec,.slice v.ga v.gn v.gc,.slice v.ia v.im v.ic])⟩),(1,⟨34,[],false,.eq (.agg #[.int .i64 15,.int .i64 26,.slice none 0 0,.slice none 0 0])⟩),(2,⟨35,[],false,.kx [] 1 (ZQ ZD)⟩),(3,⟨36,[],false,.kx [] 1 (ZQ ZD)⟩),(4,⟨37,[35,36],false,.kx [] 2 (QD 7 (ZQ ZD) (ZQ ZD))⟩),(5,⟨38,[33,34,37],false,.sx [] 20 (Zg,91)⟩),(6,⟨32,[38],false,.sx [] 20 (Zg,91)⟩),(7,⟨39,[32],false,.kx [] 20 (Zg)⟩),(9,⟨5,[],true,.new Zg.cells.toArray 41⟩)] 8 ⟨40,[32],false,.eq (.int .i64 91)⟩ 10 [11] (by kernel_rfl) (by kernel_rfl) ⟨rfl,by kernel_rfl⟩ (by kernel_rfl) (fun _ _ _ _ _ h=>h) (by repeat(first | exact trivial | refine And.intro rfl ?_)) (H:=[(0,⟨33,[],false,.eq (.agg #[.slice v.ta 6 v.tc,.slice v.sa 7 v.sc,.slice v.ea 26 v.ec,.slice v.ga v.gn v.gc,.slice v.ia v.im v.ic])⟩),(1,⟨34,[],false,.eq (.agg #[.int .i64 15,.int .i64 26,.slice none 0 0,.slice none 0 0])⟩),(2,⟨35,[],false,.kx [] 1 (ZQ ZD)⟩),(3,⟨36,[],false,.kx [] 1 (ZQ ZD)⟩),(4,⟨37,[35,36],false,.kx [] 2 (QD 7 (ZQ ZD) (ZQ ZD))⟩),(5,⟨38,[33,34,37],false,.sx [] 20 (Zg,91)⟩),(6,⟨32,[38],false,.sx [] 20 (Zg,91)⟩),(7,⟨39,[32],false,.kx [] 20 (Zg)⟩),(9,⟨5,[],true,.new Zg.cells.toArray 41⟩),(8,⟨40,[32],false,.eq (.int .i64 91)⟩)]) rfl ?_
    apply Exists.intro
    refine⟨fun vs=>?_,?_⟩
    ·simp only[List.map_cons,List.map_nil,Q5,Jj,Act.put,List.setIfInBounds_toArray,List.set_cons_zero,List.set_cons_succ]
     exact rfl
    refine⟨⟨?_,?_,?_,?_,?_,?_,?_,?_,?_,?_,trivial⟩,?_,?_⟩<;>intro vs Z w4 hk hZ hg
    all_goals
     simp only[ZW,List.flatMap_cons,List.flatMap_nil,List.getElem?_cons_zero,List.getElem?_cons_succ,Option.toList_some,List.cons_append,List.nil_append]
     haveI p_w4:Zb w4 _:=⟨hk⟩
     have hz_w4:=hk.size
     have HZ:=hh hZ
     clear hk hZ
     (try simp only[List.map_cons,List.map_nil,ZG,Zi,Z8,SZ.eq_p,SZ.ex_p,SZ.wx_p,SZ.new_p,SZ.kx_p,SZ.sx_p,Nat.reduceEqDiff,reduceIte,and_true]at hg)
    ·clear hg
     go_wp2_with fail
     exact⟨kp,rfl,Z,.inl ⟨rfl,rfl⟩,rfl⟩
    ·clear hg
     go_wp2_with fail
     exact⟨kp,rfl,Z,.inl ⟨rfl,rfl⟩,rfl⟩
    ·clear hg
     go_wp2_with fail
     refine(Jc ([]++Z) w4 ZD).mono ?_
     rintro e w8 ⟨z,rfl,hz1,hz2,hk8⟩
     go_wp2_with fail
     exact⟨hk8,rfl,Z,.inl ⟨rfl,rfl⟩,z,rfl,hz1,hz2⟩
    ·clear hg
     go_wp2_with fail
     refine(Jc ([]++Z) w4 ZD).mono ?_
     rintro e w8 ⟨z,rfl,hz1,hz2,hk8⟩
     go_wp2_with fail
     exact⟨hk8,rfl,Z,.inl ⟨rfl,rfl⟩,z,rfl,hz1,hz2⟩
    ·obtain⟨⟨z35,e35,f35,i35⟩,⟨z36,e36,f36,i36⟩⟩:=hg
     simp only[e35,e36]
     have hZ2:∀q,q∈ []++Z→q < w4.heap.size:=fun q hq=>(HZ.out q (by simpa using hq)).2
     go_wp2_with fail
     refine(ZdG ([]++Z) w4 7 1 z35 z36 (i35.mono (by decide)) (i36.mono (by decide)) hZ2).mono ?_
     rintro e w8 ⟨z,rfl,hz1,hz2,hk8⟩
     rw[f35,f36]at hz1
     go_wp2_with fail
     exact⟨hk8,rfl,Z,.inl ⟨rfl,rfl⟩,z,rfl,hz1,hz2⟩
    ·obtain⟨e33,e34,⟨z37,e37,f37,i37⟩⟩:=hg
     (try simp only[e33,e34])
     simp only[e37]
     have hZ2:∀q,q∈ []++Z→q < w4.heap.size:=fun q hq=>(HZ.out q (by simpa using hq)).2
     go_wp2_with fail
     refine(HEX.out w4 ([]++Z) z37 (-4) _ kp (by rw[f37];exact Zvt kl k1 k2 la lb q) ⟨_,i37⟩ hZ2).mono ?_
     rintro e w8 ⟨z,rfl,hz1,hz2,hk8⟩
     go_wp2_with fail
     exact⟨hk8,rfl,Z,.inl ⟨rfl,rfl⟩,z,rfl,hz1,hz2⟩
    ·obtain⟨z38,e38,f38,i38⟩:=hg
     simp only[e38]
     go_wp2_with fail
     exact⟨kp,rfl,Z,.inl ⟨rfl,rfl⟩,z38,rfl,f38,i38⟩
    ·obtain⟨z32,e32,f32,i32⟩:=hg
     simp only[e32]
     go_wp2_with fail
     exact⟨kp,rfl,Z,.inl ⟨rfl,rfl⟩,z32,rfl,f32,i32⟩
    ·clear hg
     go_wp2_with fail
     exact⟨kp,rfl,_::Z,.inr ⟨rfl,_,rfl,rfl,Nat.le_refl _,by simp⟩,_,rfl,List.mem_cons_self,Zf rfl⟩
    ·obtain⟨z32,e32,f32,i32⟩:=hg
     simp only[e32]
     go_wp2_with fail
     exact⟨kp,rfl,Z,.inl ⟨rfl,rfl⟩,rfl⟩
    obtain⟨e33,e34,⟨z35,e35,f35,i35⟩,⟨z36,e36,f36,i36⟩,⟨z37,e37,f37,i37⟩,⟨z38,e38,f38,i38⟩,⟨z32,e32,f32,i32⟩,⟨z39,e39,f39,i39⟩,⟨B9,e9,b9,h9⟩,e40⟩:=hg
    simp only[e40]
    clear e40
    rotate_left
    obtain⟨e33,e34,⟨z35,e35,f35,i35⟩,⟨z36,e36,f36,i36⟩,⟨z37,e37,f37,i37⟩,⟨z38,e38,f38,i38⟩,⟨z32,e32,f32,i32⟩,⟨z39,e39,f39,i39⟩,⟨B9,e9,b9,h9⟩⟩:=hg
    all_goals
     simp only[e33,e34,e35,e36,e37,e38,e32,e39,e9]
     haveI bB9:Zc w4 B9 41 Zg.cells.toArray:=⟨h9⟩
     have hBz:=HZ.out B9 b9
     have HK4:Hid (Kept [] v2 w4):=kp
     have HI:=hh i39
     have HF:=hh f39
     clear e33 e34 e35 e36 e37 e38 e32 e39 e9 f35 i35 f36 i36 f37 i37 f38 i38 f32 i32 f39 i39
     go_wp2_with fail
     go_meet
     exact⟨B9,z39,rfl,rfl,HF.out,Zc.has,(HI.out.less (Y:=[B9]) (Kept.setRow _ _ _ (by simp)) (fun q hq=>by obtain rfl:=List.mem_singleton.1 hq;simpa using b9)).sub (fun q hq=>by simp at hq),HK4.out.row' _ _ (by omega)⟩
  case rest=>
   obtain⟨B2,z2,rfl,rfl,f2,h2,i2,hk2⟩:=hcut
   obtain⟨v3,rfl⟩:∃W:World,W=wc:=⟨_,rfl⟩
   haveI p_v3:Zb v3 v2:=⟨hk2⟩
   haveI b2:Zc v3 B2 41 z2.cells.toArray:=⟨h2⟩
   have F2:=hh f2
   have I2:=hh i2
   clear f2 h2 i2 hk2
   go_wp2_with fail
   go_cut [7,8] (fun s7 s8 wc=>∃(B:Nat) (z:ExV),s7= .pointer (some ⟨B,0,none⟩)∧s8= .int .i64 0∧z.er=YI 7 2 (Ys 18 5) (YA QM 19 5)∧wc.heap[B]? =some (.cells z.cells.toArray 41 (0,0))∧ExK [] wc 20 z∧Kept [] v3 wc)
   case first=>
    as_aux_lemma=>
     refine ZH [] [(0,⟨42,[],false,.eq (.agg #[.slice v.ta 6 v.tc,.slice v.sa 7 v.sc,.slice v.ea 26 v.ec,.slice v.ga v.gn v.gc,.slice v.ia v.im v.ic])⟩),(1,⟨43,[],false,.eq (.agg #[.int .i64 15,.int .i64 26,.slice none 0 0,.slice none 0 0])⟩),(2,⟨44,[],false,.kx [] 1 (ZQ ZD)⟩),(3,⟨45,[],false,.kx [] 1 (ZQ QM)⟩),(4,⟨46,[44,45],false,.kx [] 2 (QD 7 (ZQ ZD) (ZQ QM))⟩),(5,⟨47,[42,43,46],false,.sx [] 20 (YI 7 2 (Ys 18 5) (YA QM 19 5),0)⟩),(6,⟨41,[47],false,.sx [] 20 (YI 7 2 (Ys 18 5) (YA QM 19 5),0)⟩),(7,⟨48,[41],false,.kx [] 20 (YI 7 2 (Ys 18 5) (YA QM 19 5))⟩),(9,⟨7,[],true,.new Zg.cells.toArray 41⟩)] 8 ⟨49,[41],false,.eq (.int .i64 0)⟩ 10 [11] (by kernel_rfl) (by kernel_rfl) ⟨rfl,by kernel_rfl⟩ (by kernel_rfl) (fun _ _ _ _ _ h=>h) (by repeat(first | exact trivial | refine And.intro rfl ?_)) (H:=[(0,⟨42,[],false,.eq (.agg #[.slice v.ta 6 v.tc,.slice v.sa 7 v.sc,.slice v.ea 26 v.ec,.slice v.ga v.gn v.gc,.slice v.ia v.im v.ic])⟩),(1,⟨43,[],false,.eq (.agg #[.int .i64 15,.int .i64 26,.slice none 0 0,.slice none 0 0])⟩),(2,⟨44,[],false,.kx [] 1 (ZQ ZD)⟩),(3,⟨45,[],false,.kx [] 1 (ZQ QM)⟩),(4,⟨46,[44,45],false,.kx [] 2 (QD 7 (ZQ ZD) (ZQ QM))⟩),(5,⟨47,[42,43,46],false,.sx [] 20 (YI 7 2 (Ys 18 5) (YA QM 19 5),0)⟩),(6,⟨41,[47],false,.sx [] 20 (YI 7 2 (Ys 18 5) (YA QM 19 5),0)⟩),(7,⟨48,[41],false,.kx [] 20 (YI 7 2 (Ys 18 5) (YA QM 19 5))⟩),(9,⟨7,[],true,.new Zg.cells.toArray 41⟩),(8,⟨49,[41],false,.eq (.int .i64 0)⟩)]) rfl ?_
     apply Exists.intro
     refine⟨fun vs=>?_,?_⟩
     ·simp only[List.map_cons,List.map_nil,Q5,Jj,Act.put,List.setIfInBounds_toArray,List.set_cons_zero,List.set_cons_succ]
      exact rfl
     refine⟨⟨?_,?_,?_,?_,?_,?_,?_,?_,?_,?_,trivial⟩,?_,?_⟩<;>intro vs Z w4 hk hZ hg
     all_goals
      simp only[ZW,List.flatMap_cons,List.flatMap_nil,List.getElem?_cons_zero,List.getElem?_cons_succ,Option.toList_some,List.cons_append,List.nil_append]
      haveI p_w4:Zb w4 _:=⟨hk⟩
      have hz_w4:=hk.size
      have HZ:=hh hZ
      clear hk hZ
      (try simp only[List.map_cons,List.map_nil,ZG,Zi,Z8,SZ.eq_p,SZ.ex_p,SZ.wx_p,SZ.new_p,SZ.kx_p,SZ.sx_p,Nat.reduceEqDiff,reduceIte,and_true]at hg)
     ·clear hg
      go_wp2_with fail
      exact⟨kp,rfl,Z,.inl ⟨rfl,rfl⟩,rfl⟩
     ·clear hg
      go_wp2_with fail
      exact⟨kp,rfl,Z,.inl ⟨rfl,rfl⟩,rfl⟩
     ·clear hg
      go_wp2_with fail
      refine(Jc ([]++Z) w4 ZD).mono ?_
      rintro e w8 ⟨z,rfl,hz1,hz2,hk8⟩
      go_wp2_with fail
      exact⟨hk8,rfl,Z,.inl ⟨rfl,rfl⟩,z,rfl,hz1,hz2⟩
     ·clear hg
      go_wp2_with fail
      refine(Jc ([]++Z) w4 QM).mono ?_
      rintro e w8 ⟨z,rfl,hz1,hz2,hk8⟩
      go_wp2_with fail
      exact⟨hk8,rfl,Z,.inl ⟨rfl,rfl⟩,z,rfl,hz1,hz2⟩
     ·obtain⟨⟨z44,e44,f44,i44⟩,⟨z45,e45,f45,i45⟩⟩:=hg
      simp only[e44,e45]
      have hZ2:∀q,q∈ []++Z→q < w4.heap.size:=fun q hq=>(HZ.out q (by simpa using hq)).2
      go_wp2_with fail
      refine(ZdG ([]++Z) w4 7 1 z44 z45 (i44.mono (by decide)) (i45.mono (by decide)) hZ2).mono ?_
      rintro e w8 ⟨z,rfl,hz1,hz2,hk8⟩
      rw[f44,f45]at hz1
      go_wp2_with fail
      exact⟨hk8,rfl,Z,.inl ⟨rfl,rfl⟩,z,rfl,hz1,hz2⟩
     ·obtain⟨e42,e43,⟨z46,e46,f46,i46⟩⟩:=hg
      (try simp only[e42,e43])
      simp only[e46]
      have hZ2:∀q,q∈ []++Z→q < w4.heap.size:=fun q hq=>(HZ.out q (by simpa using hq)).2
      go_wp2_with fail
      refine(HEX.out w4 ([]++Z) z46 (-4) _ kp (by rw[f46];exact Zvs kl k1 k2 la lb q) ⟨_,i46⟩ hZ2).mono ?_
      rintro e w8 ⟨z,rfl,hz1,hz2,hk8⟩
      go_wp2_with fail
      exact⟨hk8,rfl,Z,.inl ⟨rfl,rfl⟩,z,rfl,hz1,hz2⟩
     ·obtain⟨z47,e47,f47,i47⟩:=hg
      simp only[e47]
      go_wp2_with fail
      exact⟨kp,rfl,Z,.inl ⟨rfl,rfl⟩,z47,rfl,f47,i47⟩
     ·obtain⟨z41,e41,f41,i41⟩:=hg
      simp only[e41]
      go_wp2_with fail
      exact⟨kp,rfl,Z,.inl ⟨rfl,rfl⟩,z41,rfl,f41,i41⟩
     ·clear hg
      go_wp2_with fail
      exact⟨kp,rfl,_::Z,.inr ⟨rfl,_,rfl,rfl,Nat.le_refl _,by simp⟩,_,rfl,List.mem_cons_self,Zf rfl⟩
     ·obtain⟨z41,e41,f41,i41⟩:=hg
      simp only[e41]
      go_wp2_with fail
      exact⟨kp,rfl,Z,.inl ⟨rfl,rfl⟩,rfl⟩
     obtain⟨e42,e43,⟨z44,e44,f44,i44⟩,⟨z45,e45,f45,i45⟩,⟨z46,e46,f46,i46⟩,⟨z47,e47,f47,i47⟩,⟨z41,e41,f41,i41⟩,⟨z48,e48,f48,i48⟩,⟨B9,e9,b9,h9⟩,e49⟩:=hg
     simp only[e49]
     clear e49
     rotate_left
     obtain⟨e42,e43,⟨z44,e44,f44,i44⟩,⟨z45,e45,f45,i45⟩,⟨z46,e46,f46,i46⟩,⟨z47,e47,f47,i47⟩,⟨z41,e41,f41,i41⟩,⟨z48,e48,f48,i48⟩,⟨B9,e9,b9,h9⟩⟩:=hg
     all_goals
      simp only[e42,e43,e44,e45,e46,e47,e41,e48,e9]
      haveI bB9:Zc w4 B9 41 Zg.cells.toArray:=⟨h9⟩
      have hBz:=HZ.out B9 b9
      have HK4:Hid (Kept [] v3 w4):=kp
      have HI:=hh i48
      have HF:=hh f48
      clear e42 e43 e44 e45 e46 e47 e41 e48 e9 f44 i44 f45 i45 f46 i46 f47 i47 f41 i41 f48 i48
      go_wp2_with fail
      go_meet
      exact⟨B9,z48,rfl,rfl,HF.out,Zc.has,(HI.out.less (Y:=[B9]) (Kept.setRow _ _ _ (by simp)) (fun q hq=>by obtain rfl:=List.mem_singleton.1 hq;simpa using b9)).sub (fun q hq=>by simp at hq),HK4.out.row' _ _ (by omega)⟩
   case rest=>
    obtain⟨B3,z3,rfl,rfl,f3,h3,i3,hk3⟩:=hcut
    obtain⟨v4,rfl⟩:∃W:World,W=wc:=⟨_,rfl⟩
    haveI p_v4:Zb v4 v3:=⟨hk3⟩
    haveI b3:Zc v4 B3 41 z3.cells.toArray:=⟨h3⟩
    have F3:=hh f3
    have I3:=hh i3
    clear f3 h3 i3 hk3
    go_wp2_with fail
    go_cut [9,10] (fun s9 s10 wc=>∃(B:Nat) (z:ExV),s9= .pointer (some ⟨B,0,none⟩)∧s10= .int .i64 0∧z.er=Zbq∧wc.heap[B]? =some (.cells z.cells.toArray 41 (0,0))∧ExK [] wc 20 z∧Kept [] v4 wc)
    case first=>
     as_aux_lemma=>
      refine ZH [] [(0,⟨51,[],false,.eq (.agg #[.slice v.ta 6 v.tc,.slice v.sa 7 v.sc,.slice v.ea 26 v.ec,.slice v.ga v.gn v.gc,.slice v.ia v.im v.ic])⟩),(1,⟨52,[],false,.eq (.agg #[.int .i64 15,.int .i64 26,.slice none 0 0,.slice none 0 0])⟩),(2,⟨53,[],false,.kx [] 1 (ZQ nF)⟩),(3,⟨54,[],false,.kx [] 1 (ZQ ZD)⟩),(4,⟨55,[53,54],false,.kx [] 2 (ZcZ (ZQ nF) (ZQ ZD))⟩),(5,⟨56,[51,52,55],false,.sx [] 20 (Zbq,0)⟩),(6,⟨50,[56],false,.sx [] 20 (Zbq,0)⟩),(7,⟨57,[50],false,.kx [] 20 (Zbq)⟩),(9,⟨9,[],true,.new Zg.cells.toArray 41⟩)] 8 ⟨58,[50],false,.eq (.int .i64 0)⟩ 10 [11] (by kernel_rfl) (by kernel_rfl) ⟨rfl,by kernel_rfl⟩ (by kernel_rfl) (fun _ _ _ _ _ h=>h) (by repeat(first | exact trivial | refine And.intro rfl ?_)) (H:=[(0,⟨51,[],false,.eq (.agg #[.slice v.ta 6 v.tc,.slice v.sa 7 v.sc,.slice v.ea 26 v.ec,.slice v.ga v.gn v.gc,.slice v.ia v.im v.ic])⟩),(1,⟨52,[],false,.eq (.agg #[.int .i64 15,.int .i64 26,.slice none 0 0,.slice none 0 0])⟩),(2,⟨53,[],false,.kx [] 1 (ZQ nF)⟩),(3,⟨54,[],false,.kx [] 1 (ZQ ZD)⟩),(4,⟨55,[53,54],false,.kx [] 2 (ZcZ (ZQ nF) (ZQ ZD))⟩),(5,⟨56,[51,52,55],false,.sx [] 20 (Zbq,0)⟩),(6,⟨50,[56],false,.sx [] 20 (Zbq,0)⟩),(7,⟨57,[50],false,.kx [] 20 (Zbq)⟩),(9,⟨9,[],true,.new Zg.cells.toArray 41⟩),(8,⟨58,[50],false,.eq (.int .i64 0)⟩)]) rfl ?_
      apply Exists.intro
      refine⟨fun vs=>?_,?_⟩
      ·simp only[List.map_cons,List.map_nil,Q5,Jj,Act.put,List.setIfInBounds_toArray,List.set_cons_zero,List.set_cons_succ]
       exact rfl
      refine⟨⟨?_,?_,?_,?_,?_,?_,?_,?_,?_,?_,trivial⟩,?_,?_⟩<;>intro vs Z w4 hk hZ hg
      all_goals
       simp only[ZW,List.flatMap_cons,List.flatMap_nil,List.getElem?_cons_zero,List.getElem?_cons_succ,Option.toList_some,List.cons_append,List.nil_append]
       haveI p_w4:Zb w4 _:=⟨hk⟩
       have hz_w4:=hk.size
       have HZ:=hh hZ
       clear hk hZ
       (try simp only[List.map_cons,List.map_nil,ZG,Zi,Z8,SZ.eq_p,SZ.ex_p,SZ.wx_p,SZ.new_p,SZ.kx_p,SZ.sx_p,Nat.reduceEqDiff,reduceIte,and_true]at hg)
      ·clear hg
       go_wp2_with fail
       exact⟨kp,rfl,Z,.inl ⟨rfl,rfl⟩,rfl⟩
      ·clear hg
       go_wp2_with fail
       exact⟨kp,rfl,Z,.inl ⟨rfl,rfl⟩,rfl⟩
      ·clear hg
       go_wp2_with fail
       refine(Jc ([]++Z) w4 nF).mono ?_
       rintro e w8 ⟨z,rfl,hz1,hz2,hk8⟩
       go_wp2_with fail
       exact⟨hk8,rfl,Z,.inl ⟨rfl,rfl⟩,z,rfl,hz1,hz2⟩
      ·clear hg
       go_wp2_with fail
       refine(Jc ([]++Z) w4 ZD).mono ?_
       rintro e w8 ⟨z,rfl,hz1,hz2,hk8⟩
       go_wp2_with fail
       exact⟨hk8,rfl,Z,.inl ⟨rfl,rfl⟩,z,rfl,hz1,hz2⟩
      ·obtain⟨⟨z53,e53,f53,i53⟩,⟨z54,e54,f54,i54⟩⟩:=hg
       simp only[e53,e54]
       have hZ2:∀q,q∈ []++Z→q < w4.heap.size:=fun q hq=>(HZ.out q (by simpa using hq)).2
       go_wp2_with fail
       refine(Zpx ([]++Z) w4 1 z53 z54 (i53.mono (by decide)) (i54.mono (by decide)) hZ2).mono ?_
       rintro e w8 ⟨z,rfl,hz1,hz2,hk8⟩
       rw[f53,f54]at hz1
       go_wp2_with fail
       exact⟨hk8,rfl,Z,.inl ⟨rfl,rfl⟩,z,rfl,hz1,hz2⟩
      ·obtain⟨e51,e52,⟨z55,e55,f55,i55⟩⟩:=hg
       (try simp only[e51,e52])
       simp only[e55]
       have hZ2:∀q,q∈ []++Z→q < w4.heap.size:=fun q hq=>(HZ.out q (by simpa using hq)).2
       go_wp2_with fail
       refine(HEX.out w4 ([]++Z) z55 1 _ kp (by rw[f55];exact Zvr kl k1 k2 la lb q) ⟨_,i55⟩ hZ2).mono ?_
       rintro e w8 ⟨z,rfl,hz1,hz2,hk8⟩
       go_wp2_with fail
       exact⟨hk8,rfl,Z,.inl ⟨rfl,rfl⟩,z,rfl,hz1,hz2⟩
      ·obtain⟨z56,e56,f56,i56⟩:=hg
       simp only[e56]
       go_wp2_with fail
       exact⟨kp,rfl,Z,.inl ⟨rfl,rfl⟩,z56,rfl,f56,i56⟩
      ·obtain⟨z50,e50,f50,i50⟩:=hg
       simp only[e50]
       go_wp2_with fail
       exact⟨kp,rfl,Z,.inl ⟨rfl,rfl⟩,z50,rfl,f50,i50⟩
      ·clear hg
       go_wp2_with fail
       exact⟨kp,rfl,_::Z,.inr ⟨rfl,_,rfl,rfl,Nat.le_refl _,by simp⟩,_,rfl,List.mem_cons_self,Zf rfl⟩
      ·obtain⟨z50,e50,f50,i50⟩:=hg
       simp only[e50]
       go_wp2_with fail
       exact⟨kp,rfl,Z,.inl ⟨rfl,rfl⟩,rfl⟩
      obtain⟨e51,e52,⟨z53,e53,f53,i53⟩,⟨z54,e54,f54,i54⟩,⟨z55,e55,f55,i55⟩,⟨z56,e56,f56,i56⟩,⟨z50,e50,f50,i50⟩,⟨z57,e57,f57,i57⟩,⟨B9,e9,b9,h9⟩,e58⟩:=hg
      simp only[e58]
      clear e58
      rotate_left
      obtain⟨e51,e52,⟨z53,e53,f53,i53⟩,⟨z54,e54,f54,i54⟩,⟨z55,e55,f55,i55⟩,⟨z56,e56,f56,i56⟩,⟨z50,e50,f50,i50⟩,⟨z57,e57,f57,i57⟩,⟨B9,e9,b9,h9⟩⟩:=hg
      all_goals
       simp only[e51,e52,e53,e54,e55,e56,e50,e57,e9]
       haveI bB9:Zc w4 B9 41 Zg.cells.toArray:=⟨h9⟩
       have hBz:=HZ.out B9 b9
       have HK4:Hid (Kept [] v4 w4):=kp
       have HI:=hh i57
       have HF:=hh f57
       clear e51 e52 e53 e54 e55 e56 e50 e57 e9 f53 i53 f54 i54 f55 i55 f56 i56 f50 i50 f57 i57
       go_wp2_with fail
       go_meet
       exact⟨B9,z57,rfl,rfl,HF.out,Zc.has,(HI.out.less (Y:=[B9]) (Kept.setRow _ _ _ (by simp)) (fun q hq=>by obtain rfl:=List.mem_singleton.1 hq;simpa using b9)).sub (fun q hq=>by simp at hq),HK4.out.row' _ _ (by omega)⟩
    case rest=>
     obtain⟨B4,z4,rfl,rfl,f4,h4,i4,hk4⟩:=hcut
     obtain⟨v5,rfl⟩:∃W:World,W=wc:=⟨_,rfl⟩
     haveI p_v5:Zb v5 v4:=⟨hk4⟩
     haveI b4:Zc v5 B4 41 z4.cells.toArray:=⟨h4⟩
     have F4:=hh f4
     have I4:=hh i4
     clear f4 h4 i4 hk4
     go_wp2_with fail
     go_cut [11,12] (fun s11 s12 wc=>∃(B:Nat) (z:ExV),s11= .pointer (some ⟨B,0,none⟩)∧s12= .int .i64 91∧z.er=Zg∧wc.heap[B]? =some (.cells z.cells.toArray 41 (0,0))∧ExK [] wc 20 z∧Kept [] v5 wc)
     case first=>
      as_aux_lemma=>
       refine ZH [] [(0,⟨60,[],false,.eq (.agg #[.slice v.ta 6 v.tc,.slice v.sa 7 v.sc,.slice v.ea 26 v.ec,.slice v.ga v.gn v.gc,.slice v.ia v.im v.ic])⟩),(1,⟨61,[],false,.eq (.agg #[.int .i64 15,.int .i64 26,.slice none 0 0,.slice none 0 0])⟩),(2,⟨62,[],false,.kx [] 1 (ZQ nF)⟩),(3,⟨63,[],false,.kx [] 1 (ZQ ZD)⟩),(4,⟨64,[62,63],false,.kx [] 2 (ZcZ (ZQ nF) (ZQ ZD))⟩),(5,⟨65,[60,61,64],false,.sx [] 20 (Zg,91)⟩),(6,⟨59,[65],false,.sx [] 20 (Zg,91)⟩),(7,⟨66,[59],false,.kx [] 20 (Zg)⟩),(9,⟨11,[],true,.new Zg.cells.toArray 41⟩)] 8 ⟨67,[59],false,.eq (.int .i64 91)⟩ 10 [11] (by kernel_rfl) (by kernel_rfl) ⟨rfl,by kernel_rfl⟩ (by kernel_rfl) (fun _ _ _ _ _ h=>h) (by repeat(first | exact trivial | refine And.intro rfl ?_)) (H:=[(0,⟨60,[],false,.eq (.agg #[.slice v.ta 6 v.tc,.slice v.sa 7 v.sc,.slice v.ea 26 v.ec,.slice v.ga v.gn v.gc,.slice v.ia v.im v.ic])⟩),(1,⟨61,[],false,.eq (.agg #[.int .i64 15,.int .i64 26,.slice none 0 0,.slice none 0 0])⟩),(2,⟨62,[],false,.kx [] 1 (ZQ nF)⟩),(3,⟨63,[],false,.kx [] 1 (ZQ ZD)⟩),(4,⟨64,[62,63],false,.kx [] 2 (ZcZ (ZQ nF) (ZQ ZD))⟩),(5,⟨65,[60,61,64],false,.sx [] 20 (Zg,91)⟩),(6,⟨59,[65],false,.sx [] 20 (Zg,91)⟩),(7,⟨66,[59],false,.kx [] 20 (Zg)⟩),(9,⟨11,[],true,.new Zg.cells.toArray 41⟩),(8,⟨67,[59],false,.eq (.int .i64 91)⟩)]) rfl ?_
       apply Exists.intro
       refine⟨fun vs=>?_,?_⟩
       ·simp only[List.map_cons,List.map_nil,Q5,Jj,Act.put,List.setIfInBounds_toArray,List.set_cons_zero,List.set_cons_succ]
        exact rfl
       refine⟨⟨?_,?_,?_,?_,?_,?_,?_,?_,?_,?_,trivial⟩,?_,?_⟩<;>intro vs Z w4 hk hZ hg
       all_goals
        simp only[ZW,List.flatMap_cons,List.flatMap_nil,List.getElem?_cons_zero,List.getElem?_cons_succ,Option.toList_some,List.cons_append,List.nil_append]
        haveI p_w4:Zb w4 _:=⟨hk⟩
        have hz_w4:=hk.size
        have HZ:=hh hZ
        clear hk hZ
        (try simp only[List.map_cons,List.map_nil,ZG,Zi,Z8,SZ.eq_p,SZ.ex_p,SZ.wx_p,SZ.new_p,SZ.kx_p,SZ.sx_p,Nat.reduceEqDiff,reduceIte,and_true]at hg)
       ·clear hg
        go_wp2_with fail
        exact⟨kp,rfl,Z,.inl ⟨rfl,rfl⟩,rfl⟩
       ·clear hg
        go_wp2_with fail
        exact⟨kp,rfl,Z,.inl ⟨rfl,rfl⟩,rfl⟩
       ·clear hg
        go_wp2_with fail
        refine(Jc ([]++Z) w4 nF).mono ?_
        rintro e w8 ⟨z,rfl,hz1,hz2,hk8⟩
        go_wp2_with fail
        exact⟨hk8,rfl,Z,.inl ⟨rfl,rfl⟩,z,rfl,hz1,hz2⟩
       ·clear hg
        go_wp2_with fail
        refine(Jc ([]++Z) w4 ZD).mono ?_
        rintro e w8 ⟨z,rfl,hz1,hz2,hk8⟩
        go_wp2_with fail
        exact⟨hk8,rfl,Z,.inl ⟨rfl,rfl⟩,z,rfl,hz1,hz2⟩
       ·obtain⟨⟨z62,e62,f62,i62⟩,⟨z63,e63,f63,i63⟩⟩:=hg
        simp only[e62,e63]
        have hZ2:∀q,q∈ []++Z→q < w4.heap.size:=fun q hq=>(HZ.out q (by simpa using hq)).2
        go_wp2_with fail
        refine(Zpx ([]++Z) w4 1 z62 z63 (i62.mono (by decide)) (i63.mono (by decide)) hZ2).mono ?_
        rintro e w8 ⟨z,rfl,hz1,hz2,hk8⟩
        rw[f62,f63]at hz1
        go_wp2_with fail
        exact⟨hk8,rfl,Z,.inl ⟨rfl,rfl⟩,z,rfl,hz1,hz2⟩
       ·obtain⟨e60,e61,⟨z64,e64,f64,i64⟩⟩:=hg
        (try simp only[e60,e61])
        simp only[e64]
        have hZ2:∀q,q∈ []++Z→q < w4.heap.size:=fun q hq=>(HZ.out q (by simpa using hq)).2
        go_wp2_with fail
        refine(HEX.out w4 ([]++Z) z64 (-5) _ kp (by rw[f64];exact Zvq kl k1 k2 la lb q) ⟨_,i64⟩ hZ2).mono ?_
        rintro e w8 ⟨z,rfl,hz1,hz2,hk8⟩
        go_wp2_with fail
        exact⟨hk8,rfl,Z,.inl ⟨rfl,rfl⟩,z,rfl,hz1,hz2⟩
       ·obtain⟨z65,e65,f65,i65⟩:=hg
        simp only[e65]
        go_wp2_with fail
        exact⟨kp,rfl,Z,.inl ⟨rfl,rfl⟩,z65,rfl,f65,i65⟩
       ·obtain⟨z59,e59,f59,i59⟩:=hg
        simp only[e59]
        go_wp2_with fail
        exact⟨kp,rfl,Z,.inl ⟨rfl,rfl⟩,z59,rfl,f59,i59⟩
       ·clear hg
        go_wp2_with fail
        exact⟨kp,rfl,_::Z,.inr ⟨rfl,_,rfl,rfl,Nat.le_refl _,by simp⟩,_,rfl,List.mem_cons_self,Zf rfl⟩
       ·obtain⟨z59,e59,f59,i59⟩:=hg
        simp only[e59]
        go_wp2_with fail
        exact⟨kp,rfl,Z,.inl ⟨rfl,rfl⟩,rfl⟩
       obtain⟨e60,e61,⟨z62,e62,f62,i62⟩,⟨z63,e63,f63,i63⟩,⟨z64,e64,f64,i64⟩,⟨z65,e65,f65,i65⟩,⟨z59,e59,f59,i59⟩,⟨z66,e66,f66,i66⟩,⟨B9,e9,b9,h9⟩,e67⟩:=hg
       simp only[e67]
       clear e67
       rotate_left
       obtain⟨e60,e61,⟨z62,e62,f62,i62⟩,⟨z63,e63,f63,i63⟩,⟨z64,e64,f64,i64⟩,⟨z65,e65,f65,i65⟩,⟨z59,e59,f59,i59⟩,⟨z66,e66,f66,i66⟩,⟨B9,e9,b9,h9⟩⟩:=hg
       all_goals
        simp only[e60,e61,e62,e63,e64,e65,e59,e66,e9]
        haveI bB9:Zc w4 B9 41 Zg.cells.toArray:=⟨h9⟩
        have hBz:=HZ.out B9 b9
        have HK4:Hid (Kept [] v5 w4):=kp
        have HI:=hh i66
        have HF:=hh f66
        clear e60 e61 e62 e63 e64 e65 e59 e66 e9 f62 i62 f63 i63 f64 i64 f65 i65 f59 i59 f66 i66
        go_wp2_with fail
        go_meet
        exact⟨B9,z66,rfl,rfl,HF.out,Zc.has,(HI.out.less (Y:=[B9]) (Kept.setRow _ _ _ (by simp)) (fun q hq=>by obtain rfl:=List.mem_singleton.1 hq;simpa using b9)).sub (fun q hq=>by simp at hq),HK4.out.row' _ _ (by omega)⟩
     case rest=>
      obtain⟨B5,z5,rfl,rfl,f5,h5,i5,hk5⟩:=hcut
      obtain⟨v6,rfl⟩:∃W:World,W=wc:=⟨_,rfl⟩
      haveI p_v6:Zb v6 v5:=⟨hk5⟩
      haveI b5:Zc v6 B5 41 z5.cells.toArray:=⟨h5⟩
      have F5:=hh f5
      have I5:=hh i5
      clear f5 h5 i5 hk5
      go_wp2_with fail
      go_cut [13,14] (fun s13 s14 wc=>∃(B:Nat) (z:ExV),s13= .pointer (some ⟨B,0,none⟩)∧s14= .int .i64 0∧z.er=YI 1 1 (Jd 6 0 1) (YA nN 22 1)∧wc.heap[B]? =some (.cells z.cells.toArray 41 (0,0))∧ExK [] wc 20 z∧Kept [] v6 wc)
      case first=>
       as_aux_lemma=>
        refine ZH [] [(0,⟨69,[],false,.eq (.agg #[.slice v.ta 6 v.tc,.slice v.sa 7 v.sc,.slice v.ea 26 v.ec,.slice v.ga v.gn v.gc,.slice v.ia v.im v.ic])⟩),(1,⟨70,[],false,.eq (.agg #[.int .i64 15,.int .i64 26,.slice none 0 0,.slice none 0 0])⟩),(2,⟨71,[],false,.kx [] 1 (Yg 2)⟩),(3,⟨72,[],false,.kx [] 1 (Yg 3)⟩),(4,⟨73,[71,72],false,.kx [] 2 (QD 3 (Yg 2) (Yg 3))⟩),(5,⟨74,[],false,.kx [] 1 (ZQ nN)⟩),(6,⟨75,[73,74],false,.kx [] 3 (QD 1 (QD 3 (Yg 2) (Yg 3)) (ZQ nN))⟩),(7,⟨76,[69,70,75],false,.sx [] 20 (YI 1 1 (Jd 6 0 1) (YA nN 22 1),0)⟩),(8,⟨68,[76],false,.sx [] 20 (YI 1 1 (Jd 6 0 1) (YA nN 22 1),0)⟩),(9,⟨77,[68],false,.kx [] 20 (YI 1 1 (Jd 6 0 1) (YA nN 22 1))⟩),(11,⟨13,[],true,.new Zg.cells.toArray 41⟩)] 10 ⟨78,[68],false,.eq (.int .i64 0)⟩ 12 [13] (by kernel_rfl) (by kernel_rfl) ⟨rfl,by kernel_rfl⟩ (by kernel_rfl) (fun _ _ _ _ _ h=>h) (by repeat(first | exact trivial | refine And.intro rfl ?_)) (H:=[(0,⟨69,[],false,.eq (.agg #[.slice v.ta 6 v.tc,.slice v.sa 7 v.sc,.slice v.ea 26 v.ec,.slice v.ga v.gn v.gc,.slice v.ia v.im v.ic])⟩),(1,⟨70,[],false,.eq (.agg #[.int .i64 15,.int .i64 26,.slice none 0 0,.slice none 0 0])⟩),(2,⟨71,[],false,.kx [] 1 (Yg 2)⟩),(3,⟨72,[],false,.kx [] 1 (Yg 3)⟩),(4,⟨73,[71,72],false,.kx [] 2 (QD 3 (Yg 2) (Yg 3))⟩),(5,⟨74,[],false,.kx [] 1 (ZQ nN)⟩),(6,⟨75,[73,74],false,.kx [] 3 (QD 1 (QD 3 (Yg 2) (Yg 3)) (ZQ nN))⟩),(7,⟨76,[69,70,75],false,.sx [] 20 (YI 1 1 (Jd 6 0 1) (YA nN 22 1),0)⟩),(8,⟨68,[76],false,.sx [] 20 (YI 1 1 (Jd 6 0 1) (YA nN 22 1),0)⟩),(9,⟨77,[68],false,.kx [] 20 (YI 1 1 (Jd 6 0 1) (YA nN 22 1))⟩),(11,⟨13,[],true,.new Zg.cells.toArray 41⟩),(10,⟨78,[68],false,.eq (.int .i64 0)⟩)]) rfl ?_
        apply Exists.intro
        refine⟨fun vs=>?_,?_⟩
        ·simp only[List.map_cons,List.map_nil,Q5,Jj,Act.put,List.setIfInBounds_toArray,List.set_cons_zero,List.set_cons_succ]
         exact rfl
        refine⟨⟨?_,?_,?_,?_,?_,?_,?_,?_,?_,?_,?_,?_,trivial⟩,?_,?_⟩<;>intro vs Z w4 hk hZ hg
        all_goals
         simp only[ZW,List.flatMap_cons,List.flatMap_nil,List.getElem?_cons_zero,List.getElem?_cons_succ,Option.toList_some,List.cons_append,List.nil_append]
         haveI p_w4:Zb w4 _:=⟨hk⟩
         have hz_w4:=hk.size
         have HZ:=hh hZ
         clear hk hZ
         (try simp only[List.map_cons,List.map_nil,ZG,Zi,Z8,SZ.eq_p,SZ.ex_p,SZ.wx_p,SZ.new_p,SZ.kx_p,SZ.sx_p,Nat.reduceEqDiff,reduceIte,and_true]at hg)
        ·clear hg
         go_wp2_with fail
         exact⟨kp,rfl,Z,.inl ⟨rfl,rfl⟩,rfl⟩
        ·clear hg
         go_wp2_with fail
         exact⟨kp,rfl,Z,.inl ⟨rfl,rfl⟩,rfl⟩
        ·clear hg
         go_wp2_with fail
         refine(YV ([]++Z) w4 2 (by decide)).mono ?_
         rintro e w8 ⟨z,rfl,hz1,hz2,hk8⟩
         go_wp2_with fail
         exact⟨hk8,rfl,Z,.inl ⟨rfl,rfl⟩,z,rfl,hz1,hz2⟩
        ·clear hg
         go_wp2_with fail
         refine(YV ([]++Z) w4 3 (by decide)).mono ?_
         rintro e w8 ⟨z,rfl,hz1,hz2,hk8⟩
         go_wp2_with fail
         exact⟨hk8,rfl,Z,.inl ⟨rfl,rfl⟩,z,rfl,hz1,hz2⟩
        ·obtain⟨⟨z71,e71,f71,i71⟩,⟨z72,e72,f72,i72⟩⟩:=hg
         simp only[e71,e72]
         have hZ2:∀q,q∈ []++Z→q < w4.heap.size:=fun q hq=>(HZ.out q (by simpa using hq)).2
         go_wp2_with fail
         refine(ZdG ([]++Z) w4 3 1 z71 z72 (i71.mono (by decide)) (i72.mono (by decide)) hZ2).mono ?_
         rintro e w8 ⟨z,rfl,hz1,hz2,hk8⟩
         rw[f71,f72]at hz1
         go_wp2_with fail
         exact⟨hk8,rfl,Z,.inl ⟨rfl,rfl⟩,z,rfl,hz1,hz2⟩
        ·clear hg
         go_wp2_with fail
         refine(Jc ([]++Z) w4 nN).mono ?_
         rintro e w8 ⟨z,rfl,hz1,hz2,hk8⟩
         go_wp2_with fail
         exact⟨hk8,rfl,Z,.inl ⟨rfl,rfl⟩,z,rfl,hz1,hz2⟩
        ·obtain⟨⟨z73,e73,f73,i73⟩,⟨z74,e74,f74,i74⟩⟩:=hg
         simp only[e73,e74]
         have hZ2:∀q,q∈ []++Z→q < w4.heap.size:=fun q hq=>(HZ.out q (by simpa using hq)).2
         go_wp2_with fail
         refine(ZdG ([]++Z) w4 1 2 z73 z74 (i73.mono (by decide)) (i74.mono (by decide)) hZ2).mono ?_
         rintro e w8 ⟨z,rfl,hz1,hz2,hk8⟩
         rw[f73,f74]at hz1
         go_wp2_with fail
         exact⟨hk8,rfl,Z,.inl ⟨rfl,rfl⟩,z,rfl,hz1,hz2⟩
        ·obtain⟨e69,e70,⟨z75,e75,f75,i75⟩⟩:=hg
         (try simp only[e69,e70])
         simp only[e75]
         have hZ2:∀q,q∈ []++Z→q < w4.heap.size:=fun q hq=>(HZ.out q (by simpa using hq)).2
         go_wp2_with fail
         refine(HEX.out w4 ([]++Z) z75 1 _ kp (by rw[f75];exact Zvp kl k1 k2 la lb q) ⟨_,i75⟩ hZ2).mono ?_
         rintro e w8 ⟨z,rfl,hz1,hz2,hk8⟩
         go_wp2_with fail
         exact⟨hk8,rfl,Z,.inl ⟨rfl,rfl⟩,z,rfl,hz1,hz2⟩
        ·obtain⟨z76,e76,f76,i76⟩:=hg
         simp only[e76]
         go_wp2_with fail
         exact⟨kp,rfl,Z,.inl ⟨rfl,rfl⟩,z76,rfl,f76,i76⟩
        ·obtain⟨z68,e68,f68,i68⟩:=hg
         simp only[e68]
         go_wp2_with fail
         exact⟨kp,rfl,Z,.inl ⟨rfl,rfl⟩,z68,rfl,f68,i68⟩
        ·clear hg
         go_wp2_with fail
         exact⟨kp,rfl,_::Z,.inr ⟨rfl,_,rfl,rfl,Nat.le_refl _,by simp⟩,_,rfl,List.mem_cons_self,Zf rfl⟩
        ·obtain⟨z68,e68,f68,i68⟩:=hg
         simp only[e68]
         go_wp2_with fail
         exact⟨kp,rfl,Z,.inl ⟨rfl,rfl⟩,rfl⟩
        obtain⟨e69,e70,⟨z71,e71,f71,i71⟩,⟨z72,e72,f72,i72⟩,⟨z73,e73,f73,i73⟩,⟨z74,e74,f74,i74⟩,⟨z75,e75,f75,i75⟩,⟨z76,e76,f76,i76⟩,⟨z68,e68,f68,i68⟩,⟨z77,e77,f77,i77⟩,⟨B9,e9,b9,h9⟩,e78⟩:=hg
        simp only[e78]
        clear e78
        rotate_left
        obtain⟨e69,e70,⟨z71,e71,f71,i71⟩,⟨z72,e72,f72,i72⟩,⟨z73,e73,f73,i73⟩,⟨z74,e74,f74,i74⟩,⟨z75,e75,f75,i75⟩,⟨z76,e76,f76,i76⟩,⟨z68,e68,f68,i68⟩,⟨z77,e77,f77,i77⟩,⟨B9,e9,b9,h9⟩⟩:=hg
        all_goals
         simp only[e69,e70,e71,e72,e73,e74,e75,e76,e68,e77,e9]
         haveI bB9:Zc w4 B9 41 Zg.cells.toArray:=⟨h9⟩
         have hBz:=HZ.out B9 b9
         have HK4:Hid (Kept [] v6 w4):=kp
         have HI:=hh i77
         have HF:=hh f77
         clear e69 e70 e71 e72 e73 e74 e75 e76 e68 e77 e9 f71 i71 f72 i72 f73 i73 f74 i74 f75 i75 f76 i76 f68 i68 f77 i77
         go_wp2_with fail
         go_meet
         exact⟨B9,z77,rfl,rfl,HF.out,Zc.has,(HI.out.less (Y:=[B9]) (Kept.setRow _ _ _ (by simp)) (fun q hq=>by obtain rfl:=List.mem_singleton.1 hq;simpa using b9)).sub (fun q hq=>by simp at hq),HK4.out.row' _ _ (by omega)⟩
      case rest=>
       obtain⟨B6,z6,rfl,rfl,f6,h6,i6,hk6⟩:=hcut
       obtain⟨v7,rfl⟩:∃W:World,W=wc:=⟨_,rfl⟩
       haveI p_v7:Zb v7 v6:=⟨hk6⟩
       haveI b6:Zc v7 B6 41 z6.cells.toArray:=⟨h6⟩
       have F6:=hh f6
       have I6:=hh i6
       clear f6 h6 i6 hk6
       go_wp2_with fail
       go_cut [15,16] (fun s15 s16 wc=>∃(B:Nat) (z:ExV),s15= .pointer (some ⟨B,0,none⟩)∧s16= .int .i64 71∧z.er=Zg∧wc.heap[B]? =some (.cells z.cells.toArray 41 (0,0))∧ExK [] wc 20 z∧Kept [] v7 wc)
       case first=>
        as_aux_lemma=>
         refine ZH [] [(0,⟨80,[],false,.eq (.agg #[.slice v.ta 6 v.tc,.slice v.sa 7 v.sc,.slice v.ea 26 v.ec,.slice v.ga v.gn v.gc,.slice v.ia v.im v.ic])⟩),(1,⟨81,[],false,.eq (.agg #[.int .i64 15,.int .i64 26,.slice none 0 0,.slice none 0 0])⟩),(2,⟨82,[],false,.kx [] 1 (Yg 2147483647)⟩),(3,⟨83,[],false,.kx [] 1 (Yg 1)⟩),(4,⟨84,[82,83],false,.kx [] 2 (QD 1 (Yg 2147483647) (Yg 1))⟩),(5,⟨85,[],false,.kx [] 1 (ZQ nN)⟩),(6,⟨86,[84,85],false,.kx [] 3 (QD 2 (QD 1 (Yg 2147483647) (Yg 1)) (ZQ nN))⟩),(7,⟨87,[80,81,86],false,.sx [] 20 (Zg,71)⟩),(8,⟨79,[87],false,.sx [] 20 (Zg,71)⟩),(9,⟨88,[79],false,.kx [] 20 (Zg)⟩),(11,⟨15,[],true,.new Zg.cells.toArray 41⟩)] 10 ⟨89,[79],false,.eq (.int .i64 71)⟩ 12 [13] (by kernel_rfl) (by kernel_rfl) ⟨rfl,by kernel_rfl⟩ (by kernel_rfl) (fun _ _ _ _ _ h=>h) (by repeat(first | exact trivial | refine And.intro rfl ?_)) (H:=[(0,⟨80,[],false,.eq (.agg #[.slice v.ta 6 v.tc,.slice v.sa 7 v.sc,.slice v.ea 26 v.ec,.slice v.ga v.gn v.gc,.slice v.ia v.im v.ic])⟩),(1,⟨81,[],false,.eq (.agg #[.int .i64 15,.int .i64 26,.slice none 0 0,.slice none 0 0])⟩),(2,⟨82,[],false,.kx [] 1 (Yg 2147483647)⟩),(3,⟨83,[],false,.kx [] 1 (Yg 1)⟩),(4,⟨84,[82,83],false,.kx [] 2 (QD 1 (Yg 2147483647) (Yg 1))⟩),(5,⟨85,[],false,.kx [] 1 (ZQ nN)⟩),(6,⟨86,[84,85],false,.kx [] 3 (QD 2 (QD 1 (Yg 2147483647) (Yg 1)) (ZQ nN))⟩),(7,⟨87,[80,81,86],false,.sx [] 20 (Zg,71)⟩),(8,⟨79,[87],false,.sx [] 20 (Zg,71)⟩),(9,⟨88,[79],false,.kx [] 20 (Zg)⟩),(11,⟨15,[],true,.new Zg.cells.toArray 41⟩),(10,⟨89,[79],false,.eq (.int .i64 71)⟩)]) rfl ?_
         apply Exists.intro
         refine⟨fun vs=>?_,?_⟩
         ·simp only[List.map_cons,List.map_nil,Q5,Jj,Act.put,List.setIfInBounds_toArray,List.set_cons_zero,List.set_cons_succ]
          exact rfl
         refine⟨⟨?_,?_,?_,?_,?_,?_,?_,?_,?_,?_,?_,?_,trivial⟩,?_,?_⟩<;>intro vs Z w4 hk hZ hg
         all_goals
          simp only[ZW,List.flatMap_cons,List.flatMap_nil,List.getElem?_cons_zero,List.getElem?_cons_succ,Option.toList_some,List.cons_append,List.nil_append]
          haveI p_w4:Zb w4 _:=⟨hk⟩
          have hz_w4:=hk.size
          have HZ:=hh hZ
          clear hk hZ
          (try simp only[List.map_cons,List.map_nil,ZG,Zi,Z8,SZ.eq_p,SZ.ex_p,SZ.wx_p,SZ.new_p,SZ.kx_p,SZ.sx_p,Nat.reduceEqDiff,reduceIte,and_true]at hg)
         ·clear hg
          go_wp2_with fail
          exact⟨kp,rfl,Z,.inl ⟨rfl,rfl⟩,rfl⟩
         ·clear hg
          go_wp2_with fail
          exact⟨kp,rfl,Z,.inl ⟨rfl,rfl⟩,rfl⟩
         ·clear hg
          go_wp2_with fail
          refine(YV ([]++Z) w4 2147483647 (by decide)).mono ?_
          rintro e w8 ⟨z,rfl,hz1,hz2,hk8⟩
          go_wp2_with fail
          exact⟨hk8,rfl,Z,.inl ⟨rfl,rfl⟩,z,rfl,hz1,hz2⟩
         ·clear hg
          go_wp2_with fail
          refine(YV ([]++Z) w4 1 (by decide)).mono ?_
          rintro e w8 ⟨z,rfl,hz1,hz2,hk8⟩
          go_wp2_with fail
          exact⟨hk8,rfl,Z,.inl ⟨rfl,rfl⟩,z,rfl,hz1,hz2⟩
         ·obtain⟨⟨z82,e82,f82,i82⟩,⟨z83,e83,f83,i83⟩⟩:=hg
          simp only[e82,e83]
          have hZ2:∀q,q∈ []++Z→q < w4.heap.size:=fun q hq=>(HZ.out q (by simpa using hq)).2
          go_wp2_with fail
          refine(ZdG ([]++Z) w4 1 1 z82 z83 (i82.mono (by decide)) (i83.mono (by decide)) hZ2).mono ?_
          rintro e w8 ⟨z,rfl,hz1,hz2,hk8⟩
          rw[f82,f83]at hz1
          go_wp2_with fail
          exact⟨hk8,rfl,Z,.inl ⟨rfl,rfl⟩,z,rfl,hz1,hz2⟩
         ·clear hg
          go_wp2_with fail
          refine(Jc ([]++Z) w4 nN).mono ?_
          rintro e w8 ⟨z,rfl,hz1,hz2,hk8⟩
          go_wp2_with fail
          exact⟨hk8,rfl,Z,.inl ⟨rfl,rfl⟩,z,rfl,hz1,hz2⟩
         ·obtain⟨⟨z84,e84,f84,i84⟩,⟨z85,e85,f85,i85⟩⟩:=hg
          simp only[e84,e85]
          have hZ2:∀q,q∈ []++Z→q < w4.heap.size:=fun q hq=>(HZ.out q (by simpa using hq)).2
          go_wp2_with fail
          refine(ZdG ([]++Z) w4 2 2 z84 z85 (i84.mono (by decide)) (i85.mono (by decide)) hZ2).mono ?_
          rintro e w8 ⟨z,rfl,hz1,hz2,hk8⟩
          rw[f84,f85]at hz1
          go_wp2_with fail
          exact⟨hk8,rfl,Z,.inl ⟨rfl,rfl⟩,z,rfl,hz1,hz2⟩
         ·obtain⟨e80,e81,⟨z86,e86,f86,i86⟩⟩:=hg
          (try simp only[e80,e81])
          simp only[e86]
          have hZ2:∀q,q∈ []++Z→q < w4.heap.size:=fun q hq=>(HZ.out q (by simpa using hq)).2
          go_wp2_with fail
          refine(HEX.out w4 ([]++Z) z86 1 _ kp (by rw[f86];exact Zvo kl k1 k2 la lb q) ⟨_,i86⟩ hZ2).mono ?_
          rintro e w8 ⟨z,rfl,hz1,hz2,hk8⟩
          go_wp2_with fail
          exact⟨hk8,rfl,Z,.inl ⟨rfl,rfl⟩,z,rfl,hz1,hz2⟩
         ·obtain⟨z87,e87,f87,i87⟩:=hg
          simp only[e87]
          go_wp2_with fail
          exact⟨kp,rfl,Z,.inl ⟨rfl,rfl⟩,z87,rfl,f87,i87⟩
         ·obtain⟨z79,e79,f79,i79⟩:=hg
          simp only[e79]
          go_wp2_with fail
          exact⟨kp,rfl,Z,.inl ⟨rfl,rfl⟩,z79,rfl,f79,i79⟩
         ·clear hg
          go_wp2_with fail
          exact⟨kp,rfl,_::Z,.inr ⟨rfl,_,rfl,rfl,Nat.le_refl _,by simp⟩,_,rfl,List.mem_cons_self,Zf rfl⟩
         ·obtain⟨z79,e79,f79,i79⟩:=hg
          simp only[e79]
          go_wp2_with fail
          exact⟨kp,rfl,Z,.inl ⟨rfl,rfl⟩,rfl⟩
         obtain⟨e80,e81,⟨z82,e82,f82,i82⟩,⟨z83,e83,f83,i83⟩,⟨z84,e84,f84,i84⟩,⟨z85,e85,f85,i85⟩,⟨z86,e86,f86,i86⟩,⟨z87,e87,f87,i87⟩,⟨z79,e79,f79,i79⟩,⟨z88,e88,f88,i88⟩,⟨B9,e9,b9,h9⟩,e89⟩:=hg
         simp only[e89]
         clear e89
         rotate_left
         obtain⟨e80,e81,⟨z82,e82,f82,i82⟩,⟨z83,e83,f83,i83⟩,⟨z84,e84,f84,i84⟩,⟨z85,e85,f85,i85⟩,⟨z86,e86,f86,i86⟩,⟨z87,e87,f87,i87⟩,⟨z79,e79,f79,i79⟩,⟨z88,e88,f88,i88⟩,⟨B9,e9,b9,h9⟩⟩:=hg
         all_goals
          simp only[e80,e81,e82,e83,e84,e85,e86,e87,e79,e88,e9]
          haveI bB9:Zc w4 B9 41 Zg.cells.toArray:=⟨h9⟩
          have hBz:=HZ.out B9 b9
          have HK4:Hid (Kept [] v7 w4):=kp
          have HI:=hh i88
          have HF:=hh f88
          clear e80 e81 e82 e83 e84 e85 e86 e87 e79 e88 e9 f82 i82 f83 i83 f84 i84 f85 i85 f86 i86 f87 i87 f79 i79 f88 i88
          go_wp2_with fail
          go_meet
          exact⟨B9,z88,rfl,rfl,HF.out,Zc.has,(HI.out.less (Y:=[B9]) (Kept.setRow _ _ _ (by simp)) (fun q hq=>by obtain rfl:=List.mem_singleton.1 hq;simpa using b9)).sub (fun q hq=>by simp at hq),HK4.out.row' _ _ (by omega)⟩
       case rest=>
        obtain⟨B7,z7,rfl,rfl,f7,h7,i7,hk7⟩:=hcut
        obtain⟨v8,rfl⟩:∃W:World,W=wc:=⟨_,rfl⟩
        haveI p_v8:Zb v8 v7:=⟨hk7⟩
        haveI b7:Zc v8 B7 41 z7.cells.toArray:=⟨h7⟩
        have F7:=hh f7
        have I7:=hh i7
        clear f7 h7 i7 hk7
        go_wp2_with fail
        go_cut [17,18] (fun s17 s18 wc=>∃(B:Nat) (z:ExV),s17= .pointer (some ⟨B,0,none⟩)∧s18= .int .i64 90∧z.er=Zg∧wc.heap[B]? =some (.cells z.cells.toArray 41 (0,0))∧ExK [] wc 20 z∧Kept [] v8 wc)
        case first=>
         as_aux_lemma=>
          refine ZH [] [(0,⟨91,[],false,.eq (.agg #[.slice v.ta 6 v.tc,.slice v.sa 7 v.sc,.slice v.ea 26 v.ec,.slice v.ga v.gn v.gc,.slice v.ia v.im v.ic])⟩),(1,⟨92,[],false,.eq (.agg #[.int .i64 15,.int .i64 26,.slice none 0 0,.slice none 0 0])⟩),(2,⟨93,[],false,.kx [] 1 (ZQ Zh0)⟩),(3,⟨94,[],false,.kx [] 1 (Yg 1)⟩),(4,⟨95,[93,94],false,.kx [] 2 (QD 1 (ZQ Zh0) (Yg 1))⟩),(5,⟨96,[91,92,95],false,.sx [] 20 (Zg,90)⟩),(6,⟨90,[96],false,.sx [] 20 (Zg,90)⟩),(7,⟨97,[90],false,.kx [] 20 (Zg)⟩),(9,⟨17,[],true,.new Zg.cells.toArray 41⟩)] 8 ⟨98,[90],false,.eq (.int .i64 90)⟩ 10 [11] (by kernel_rfl) (by kernel_rfl) ⟨rfl,by kernel_rfl⟩ (by kernel_rfl) (fun _ _ _ _ _ h=>h) (by repeat(first | exact trivial | refine And.intro rfl ?_)) (H:=[(0,⟨91,[],false,.eq (.agg #[.slice v.ta 6 v.tc,.slice v.sa 7 v.sc,.slice v.ea 26 v.ec,.slice v.ga v.gn v.gc,.slice v.ia v.im v.ic])⟩),(1,⟨92,[],false,.eq (.agg #[.int .i64 15,.int .i64 26,.slice none 0 0,.slice none 0 0])⟩),(2,⟨93,[],false,.kx [] 1 (ZQ Zh0)⟩),(3,⟨94,[],false,.kx [] 1 (Yg 1)⟩),(4,⟨95,[93,94],false,.kx [] 2 (QD 1 (ZQ Zh0) (Yg 1))⟩),(5,⟨96,[91,92,95],false,.sx [] 20 (Zg,90)⟩),(6,⟨90,[96],false,.sx [] 20 (Zg,90)⟩),(7,⟨97,[90],false,.kx [] 20 (Zg)⟩),(9,⟨17,[],true,.new Zg.cells.toArray 41⟩),(8,⟨98,[90],false,.eq (.int .i64 90)⟩)]) rfl ?_
          apply Exists.intro
          refine⟨fun vs=>?_,?_⟩
          ·simp only[List.map_cons,List.map_nil,Q5,Jj,Act.put,List.setIfInBounds_toArray,List.set_cons_zero,List.set_cons_succ]
           exact rfl
          refine⟨⟨?_,?_,?_,?_,?_,?_,?_,?_,?_,?_,trivial⟩,?_,?_⟩<;>intro vs Z w4 hk hZ hg
          all_goals
           simp only[ZW,List.flatMap_cons,List.flatMap_nil,List.getElem?_cons_zero,List.getElem?_cons_succ,Option.toList_some,List.cons_append,List.nil_append]
           haveI p_w4:Zb w4 _:=⟨hk⟩
           have hz_w4:=hk.size
           have HZ:=hh hZ
           clear hk hZ
           (try simp only[List.map_cons,List.map_nil,ZG,Zi,Z8,SZ.eq_p,SZ.ex_p,SZ.wx_p,SZ.new_p,SZ.kx_p,SZ.sx_p,Nat.reduceEqDiff,reduceIte,and_true]at hg)
          ·clear hg
           go_wp2_with fail
           exact⟨kp,rfl,Z,.inl ⟨rfl,rfl⟩,rfl⟩
          ·clear hg
           go_wp2_with fail
           exact⟨kp,rfl,Z,.inl ⟨rfl,rfl⟩,rfl⟩
          ·clear hg
           go_wp2_with fail
           refine(Jc ([]++Z) w4 Zh0).mono ?_
           rintro e w8 ⟨z,rfl,hz1,hz2,hk8⟩
           go_wp2_with fail
           exact⟨hk8,rfl,Z,.inl ⟨rfl,rfl⟩,z,rfl,hz1,hz2⟩
          ·clear hg
           go_wp2_with fail
           refine(YV ([]++Z) w4 1 (by decide)).mono ?_
           rintro e w8 ⟨z,rfl,hz1,hz2,hk8⟩
           go_wp2_with fail
           exact⟨hk8,rfl,Z,.inl ⟨rfl,rfl⟩,z,rfl,hz1,hz2⟩
          ·obtain⟨⟨z93,e93,f93,i93⟩,⟨z94,e94,f94,i94⟩⟩:=hg
           simp only[e93,e94]
           have hZ2:∀q,q∈ []++Z→q < w4.heap.size:=fun q hq=>(HZ.out q (by simpa using hq)).2
           go_wp2_with fail
           refine(ZdG ([]++Z) w4 1 1 z93 z94 (i93.mono (by decide)) (i94.mono (by decide)) hZ2).mono ?_
           rintro e w8 ⟨z,rfl,hz1,hz2,hk8⟩
           rw[f93,f94]at hz1
           go_wp2_with fail
           exact⟨hk8,rfl,Z,.inl ⟨rfl,rfl⟩,z,rfl,hz1,hz2⟩
          ·obtain⟨e91,e92,⟨z95,e95,f95,i95⟩⟩:=hg
           (try simp only[e91,e92])
           simp only[e95]
           have hZ2:∀q,q∈ []++Z→q < w4.heap.size:=fun q hq=>(HZ.out q (by simpa using hq)).2
           go_wp2_with fail
           refine(HEX.out w4 ([]++Z) z95 (-5) _ kp (by rw[f95];exact Zvn kl k1 k2 la lb q) ⟨_,i95⟩ hZ2).mono ?_
           rintro e w8 ⟨z,rfl,hz1,hz2,hk8⟩
           go_wp2_with fail
           exact⟨hk8,rfl,Z,.inl ⟨rfl,rfl⟩,z,rfl,hz1,hz2⟩
          ·obtain⟨z96,e96,f96,i96⟩:=hg
           simp only[e96]
           go_wp2_with fail
           exact⟨kp,rfl,Z,.inl ⟨rfl,rfl⟩,z96,rfl,f96,i96⟩
          ·obtain⟨z90,e90,f90,i90⟩:=hg
           simp only[e90]
           go_wp2_with fail
           exact⟨kp,rfl,Z,.inl ⟨rfl,rfl⟩,z90,rfl,f90,i90⟩
          ·clear hg
           go_wp2_with fail
           exact⟨kp,rfl,_::Z,.inr ⟨rfl,_,rfl,rfl,Nat.le_refl _,by simp⟩,_,rfl,List.mem_cons_self,Zf rfl⟩
          ·obtain⟨z90,e90,f90,i90⟩:=hg
           simp only[e90]
           go_wp2_with fail
           exact⟨kp,rfl,Z,.inl ⟨rfl,rfl⟩,rfl⟩
          obtain⟨e91,e92,⟨z93,e93,f93,i93⟩,⟨z94,e94,f94,i94⟩,⟨z95,e95,f95,i95⟩,⟨z96,e96,f96,i96⟩,⟨z90,e90,f90,i90⟩,⟨z97,e97,f97,i97⟩,⟨B9,e9,b9,h9⟩,e98⟩:=hg
          simp only[e98]
          clear e98
          rotate_left
          obtain⟨e91,e92,⟨z93,e93,f93,i93⟩,⟨z94,e94,f94,i94⟩,⟨z95,e95,f95,i95⟩,⟨z96,e96,f96,i96⟩,⟨z90,e90,f90,i90⟩,⟨z97,e97,f97,i97⟩,⟨B9,e9,b9,h9⟩⟩:=hg
          all_goals
           simp only[e91,e92,e93,e94,e95,e96,e90,e97,e9]
           haveI bB9:Zc w4 B9 41 Zg.cells.toArray:=⟨h9⟩
           have hBz:=HZ.out B9 b9
           have HK4:Hid (Kept [] v8 w4):=kp
           have HI:=hh i97
           have HF:=hh f97
           clear e91 e92 e93 e94 e95 e96 e90 e97 e9 f93 i93 f94 i94 f95 i95 f96 i96 f90 i90 f97 i97
           go_wp2_with fail
           go_meet
           exact⟨B9,z97,rfl,rfl,HF.out,Zc.has,(HI.out.less (Y:=[B9]) (Kept.setRow _ _ _ (by simp)) (fun q hq=>by obtain rfl:=List.mem_singleton.1 hq;simpa using b9)).sub (fun q hq=>by simp at hq),HK4.out.row' _ _ (by omega)⟩
        case rest=>
         obtain⟨B8,z8,rfl,rfl,f8,h8,i8,hk8⟩:=hcut
         obtain⟨v9,rfl⟩:∃W:World,W=wc:=⟨_,rfl⟩
         haveI p_v9:Zb v9 v8:=⟨hk8⟩
         haveI b8:Zc v9 B8 41 z8.cells.toArray:=⟨h8⟩
         have F8:=hh f8
         have I8:=hh i8
         clear f8 h8 i8 hk8
         have q1:z1.ent=18:=by rw[←ExV.er_ent,F1.out];rfl
         have q2:z1.t=5:=by rw[←ExV.er_t,F1.out];rfl
         have q3:z3.t=2:=by rw[←ExV.er_t,F3.out];rfl
         obtain⟨b3',o3,y3,ha3,hy3,he3,hl3⟩:=ZgY (I3.out.kept (w':=v9) kp) (by rw[F3.out];rfl)
         haveI iy3:Q1 v9 b3' o3 y3:=hy3
         have q4:y3.ent=18:=by rw[←ExV.er_ent,he3];rfl
         have q5:z3.ls.length=2:=hl3
         have q6:z4.ent=23:=by rw[←ExV.er_ent,F4.out];rfl
         obtain⟨b4',o4,y4,ha4,hy4,he4,hl4⟩:=Zra (I4.out.kept (w':=v9) kp) (by rw[F4.out];rfl)
         haveI iy4:QH v9 b4' o4 y4:=hy4
         haveI iy4':Q1 v9 b4' (o4+1) y4.2.2.2:=inferInstance
         have q7:y4.2.2.2.ent=17:=by rw[←ExV.er_ent];have h:=congrArg (fun a:AsV=>a.2.2.2) he4;rw[show y4.2.2.2.er=y4.er.2.2.2 from rfl,he4];rfl
         have q8:z4.al.length=1:=hl4
         obtain⟨b6',o6,y6,ha6,hy6,he6,hl6⟩:=ZgY (I6.out.kept (w':=v9) kp) (by rw[F6.out];rfl)
         haveI iy6:Q1 v9 b6' o6 y6:=hy6
         have q9:y6.kind=1:=by rw[←ExV.er_kind,he6];rfl
         have qa:y6.n=6:=by rw[←ExV.er_n,he6];rfl
         have qb:y6.t=1:=by rw[←ExV.er_t,he6];rfl
         have qc:z6.ls.length=2:=hl6
         have HKE:Hid (Kept [] w v9):=kp
         clear hl3 hl4 hl6 he3 he4 he6 hy3 hy4 hy6 F1 F2 F3 F4 F5 F6 F7 F8 I1 I2 I3 I4 I5 I6 I7 I8 HEX
         go_wp2_with fail
         exact Za rfl (Zj results7 (Zh rfl)) HKE.out
end
end Go.Proofs.YtfaecpkocgcofaaGreatDoor
