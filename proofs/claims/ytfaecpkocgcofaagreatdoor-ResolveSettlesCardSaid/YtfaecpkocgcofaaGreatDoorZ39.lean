/- Lemmas for ResolveSettles, printed small: N26 N27. -/
import Derived.Test.YtfaecpkocgcofaaGreatDoorZ38
set_option linter.all false
set_option maxRecDepth 100000
set_option maxHeartbeats 8000000
open Go.Proofs.Tryz
namespace Go.Proofs.YtfaecpkocgcofaaGreatDoor
section
open Go.RowKit
def Jd (v line k:Int):ExV:= .mk 1 0 v ⟨#[]⟩ none 0 [] none 0 [] line (-1) k
theorem ZkZ (v line k:Int):(Jd v line k).er=Jd v line k:=by unfold Jd;rw[ExV.er_mk];rfl
def ZI (I:ExV→ExV×Int) (t:Tab) (n:Nat) (x:ExV) (k:Int):ExV×Int:=
 if x.t≠0∨k < 1 then I x
 else if(Zv t n x).2=70 then I (x.setT k)
 else if(if(Zv t n x).2=0 then(Zv t n (Jd (Zv t n x).1 x.line k)).2 else(Zv t n x).2)=71 then(x,71)
 else(Jd (Zv t n x).1 x.line k,0)
def ZaU (X:List Nat) (m:Nat) (r:ExV×Int) (w:World) (e:Ending) (w':World):Prop:=
 ∃z:ExV,e= .returned (.tuple #[.agg z.cells.toArray,.int .i64 r.2])∧z.er=r.1∧ExK X w' m z∧Kept [] w w'
@[go_sem] theorem ExV.c6 (x:ExV) (h:6 < x.cells.length):x.cells[6]'h= .int .i64 x.line:=rfl
theorem ExK.sub {X Y:List Nat} {w:World} {n:Nat} {x:ExV} (h:ExK X w n x) (hY:∀q,q∈Y→q∈X):ExK Y w n x:=fun _ hk=>h _ (hk.mono hY)
theorem Zg5 (w:World) (v line k:Int) (h: -9223372036854775808≤v∧v≤9223372036854775807):Qe w 1 (Jd v line k):=⟨.inl rfl,fun y hy=>by simp[Jd,ExV.ls]at hy,.inl rfl,fun y hy=>by simp[Jd,ExV.al]at hy,by simp[Jd,ExV.ls],by simp[Jd,ExV.al],h.1,h.2,fun a ha=>by simp[Jd,ExV.al]at ha⟩
theorem ZjN (t:Tab) (hl:∀y,y∈t.types→y.lits.length≤140737488355328) (n:Nat) (x:ExV): -9223372036854775808≤(Zv t n x).1∧(Zv t n x).1≤9223372036854775807:=by
 have hz:(-9223372036854775808:Int)≤0∧(0:Int)≤9223372036854775807:=by decide
 unfold Zv
 split
 ·cases hv:ZF t n x with
  | none=>exact hz
  | some v=>
   show -9223372036854775808≤v∧v≤9223372036854775807
   cases n with
   | zero=>cases hv
   | succ n=>
    rw[ZF,Zjs]at hv
    cases hr:Qv (ZF t n) t x with
    | none=>rw[hr]at hv;cases hv
    | some u=>
     rw[hr]at hv
     cases hs:ZU t x.t with
     | none=>rw[hs]at hv;cases hv
     | some b=>
      rw[hs]at hv
      simp only[ZO]at hv
      have hb: -9223372036854775808≤b.1∧b.2≤9223372036854775807:=by
       unfold ZU at hs
       split at hs
       ·cases hs
       ·rename_i hc
        simp only at hs
        split at hs
        ·cases hs;decide
        ·split at hs
         ·cases hs
         ·split at hs
          ·cases hs;decide
          ·split at hs
           ·have hm:t.types.getD x.t.toNat default∈t.types:=by
             have hlt:x.t.toNat < t.types.length:=by omega
             rw[List.getD_eq_getElem?_getD,List.getElem?_eq_getElem hlt]
             exact List.getElem_mem hlt
            have:=hl _ hm
            cases hs
            refine⟨show(-9223372036854775808:Int)≤0 by decide,?_⟩
            simp only
            omega
           ·cases hs
      split at hv
      ·cases hv
      ·cases hv
       omega
 ·exact hz
theorem Zfd (X:List Nat) (w:World) (R mr:Nat) (v:Zp) (t:Tab) (h:WhV) (n m:Nat) (x:ExV) (k:Int) (I:ExV→ExV×Int) (hR:Qo w R mr v t h) (hmn:m+1≤n) (hx:ExK X w (m+1) x)
 (hX:∀q,q∈X→q < w.heap.size)
 (hI:∀W Y y,Kept [] w W→(∀q,q∈Y→q∈X∨w.heap.size≤q)→(∀q,q∈Y→q < W.heap.size)→(y=x∨y=x.setT k)→Calls prog 50 #[.pointer (some ⟨R,0,none⟩),.agg y.cells.toArray] W (ZaU Y (m+1) (I y.er) W)):
 Calls prog 46 #[.pointer (some ⟨R,0,none⟩),.agg x.cells.toArray,.int .i64 k] w (ZaU X (m+1) (ZI I t n x.er k) w):=by
 have HI:=hh hI
 have HX:=hh hx
 have HXS:=hh hX
 have HV:=hh (fun w' (hk:Kept [] w w')=>ZbR w' v t x n (Zb0 v t n) (hR.tab.kept hk) ((hx.in.mono hmn).kept hk))
 have hbd:=ZjN t hR.tab.ll n x
 have HV2:=hh (fun w' (hk:Kept [] w w')=>ZbR w' v t (Jd (Zv t n x).1 x.line k) n (Zb0 v t n) (hR.tab.kept hk) ((Zg5 w' (Zv t n x).1 x.line k hbd).mono (by omega)))
 have HW:Hid (ZI I t n x.er k=if x.t≠0∨k < 1 then I x.er
  else if(Zv t n x).2=70 then I (x.setT k).er
  else if(if(Zv t n x).2=0 then(Zv t n (Jd (Zv t n x).1 x.line k)).2 else(Zv t n x).2)=71 then(x.er,71)
  else(Jd (Zv t n x).1 x.line k,0)):=by
  rw[Hid,ZI,ExV.er_t,ExV.er_line,ZbZ,ExV.er_setT]
 generalize hvp:Zv t n x=vp at*
 haveI bR:=hR.is
 clear hR hx hI hvp hX
 unfold Zaz Zp.cells at*
 go_enter func46,ntmps46
 by_cases h0:x.t=0
 ·have h0':(x.t != 0)=false:=by simp[h0]
  by_cases h1:k < 1
  ·have hd:=h1
   have HO:=hh (show ZI I t n x.er k=I x.er by rw[HW.out,if_pos (by simp[*])])
   go_wp2_with fail
   refine(HI.out _ ((w.heap.size+1)::X) x kp (fun q hq=>by rcases List.mem_cons.1 hq with rfl | h;exact .inr (by omega);exact .inl h) (fun q hq=>by rcases List.mem_cons.1 hq with rfl | h;simp;have:=HXS.out q h;simp;omega) (.inl rfl)).mono ?_
   rintro e w1 ⟨z,rfl,hz,hzk,hk1⟩
   haveI p_w1:Zb w1 _:=⟨hk1⟩
   have HZ:=hh hz
   have HZK:=hh hzk
   clear hz hzk hk1
   go_wp2_with fail
   refine bodyPost_ret (v:= .tuple #[.agg z.cells.toArray,.int .i64 (I x.er).2]) (Qm results46 (Z0 rfl inferInstance) (Zh rfl)) rfl ⟨z,by rw[HO.out],by rw[HO.out];exact HZ.out,(HZK.out.less (Kept.setRow (X:=[w.heap.size+1]) _ _ _ (by simp)) (by simp)).sub (fun q hq=>by simp[hq]),kp⟩
  ·have h1':¬k < 1:=h1
   go_upto_region 3 with fail
   refine Zn [⟨24,[],false,.eq (.pointer (some ⟨R,0,none⟩))⟩,⟨25,[24],false,.eq (.pointer (some ⟨R,0,none⟩))⟩,⟨26,[25],false,.eq (.pointer (some ⟨R,0,none⟩))⟩,⟨27,[26],false,.eq (.agg (v.cells t))⟩,⟨28,[],false,.eq (.agg x.cells.toArray)⟩,⟨29,[27,28],false,.eq (.tuple #[.int .i64 vp.1,.int .i64 vp.2])⟩,⟨23,[29],false,.eq (.tuple #[.int .i64 vp.1,.int .i64 vp.2])⟩,⟨30,[23],false,.eq (.int .i64 vp.1)⟩,⟨31,[23],false,.eq (.int .i64 vp.2)⟩,⟨8,[30],false,.eq (.int .i64 vp.1)⟩] (by kernel_rfl) (by kernel_rfl) ?_
   apply Exists.intro
   refine⟨fun vs=>?_,?_⟩
   ·simp only[List.map_cons,List.map_nil,PSz.toP,Jj,Act.put,List.setIfInBounds_toArray,List.set_cons_zero,List.set_cons_succ]
    exact rfl
   refine⟨⟨?_,?_,?_,?_,?_,?_,?_,?_,?_,?_,trivial⟩,?_⟩<;>intro vs Z w2 hk hZ hg
   all_goals
    haveI p_w2:Zb w2 _:=⟨hk⟩
    have hz_w2:=hk.size
    have HZ:=hh hZ
    clear hk hZ
    (try simp only[ZG,Zi,Z8,SZ.eq_p,SZ.ex_p,SZ.wx_p,SZ.new_p,Nat.reduceEqDiff,reduceIte,and_true]at hg)
   ·clear hg
    go_wp2_with fail
    exact⟨kp,rfl,Z,.inl ⟨rfl,rfl⟩,rfl⟩
   ·obtain e24:=hg
    (try simp only[e24])
    go_wp2_with fail
    exact⟨kp,rfl,Z,.inl ⟨rfl,rfl⟩,rfl⟩
   ·obtain e25:=hg
    (try simp only[e25])
    go_wp2_with fail
    exact⟨kp,rfl,Z,.inl ⟨rfl,rfl⟩,rfl⟩
   ·obtain e26:=hg
    (try simp only[e26])
    go_wp2_with fail
    exact⟨kp,rfl,Z,.inl ⟨rfl,rfl⟩,rfl⟩
   ·clear hg
    go_wp2_with fail
    exact⟨kp,rfl,Z,.inl ⟨rfl,rfl⟩,rfl⟩
   ·obtain⟨e27,e28⟩:=hg
    (try simp only[e27,e28])
    go_wp2_with fail
    refine(HV.out _ kp).mono ?_
    rintro e w8 ⟨rfl,hk8⟩
    go_wp2_with fail
    exact⟨hk8,rfl,Z,.inl ⟨rfl,rfl⟩,rfl⟩
   ·obtain e29:=hg
    (try simp only[e29])
    go_wp2_with fail
    exact⟨kp,rfl,Z,.inl ⟨rfl,rfl⟩,rfl⟩
   ·obtain e23:=hg
    (try simp only[e23])
    go_wp2_with fail
    exact⟨kp,rfl,Z,.inl ⟨rfl,rfl⟩,rfl⟩
   ·obtain e23:=hg
    (try simp only[e23])
    go_wp2_with fail
    exact⟨kp,rfl,Z,.inl ⟨rfl,rfl⟩,rfl⟩
   ·obtain e30:=hg
    (try simp only[e30])
    go_wp2_with fail
    exact⟨kp,rfl,Z,.inl ⟨rfl,rfl⟩,rfl⟩
   obtain⟨e24,e25,e26,e27,e28,e29,e23,e30,e31,e8⟩:=hg
   simp only[e24,e25,e26,e27,e28,e29,e23,e30,e31,e8]
   clear e24 e25 e26 e27 e28 e29 e23 e30 e31 e8
   have hz2:w.heap.size+1+1≤w2.heap.size:=by have h:=hz_w2;simp at h;omega
   by_cases h70:vp.2=70
   ·have HO:=hh (show ZI I t n x.er k=I (x.setT k).er by rw[HW.out,if_neg (by simp[*]),if_pos h70])
    have h70':(vp.2 == 70)=true:=by simp[h70]
    go_wp2_with fail
    refine(HI.out _ ((w.heap.size+1)::X) (x.setT k) kp (fun q hq=>by rcases List.mem_cons.1 hq with rfl | h;exact .inr (by omega);exact .inl h) (fun q hq=>by rcases List.mem_cons.1 hq with rfl | h;simp;omega;have:=HXS.out q h;simp;omega) (.inr rfl)).mono ?_
    rintro e w1 ⟨z,rfl,hz,hzk,hk1⟩
    haveI p_w1:Zb w1 _:=⟨hk1⟩
    have HZ:=hh hz
    have HZK:=hh hzk
    clear hz hzk hk1
    go_wp2_with fail
    refine bodyPost_ret (v:= .tuple #[.agg z.cells.toArray,.int .i64 (I (x.setT k).er).2]) (Qm results46 (Z0 rfl inferInstance) (Zh rfl)) rfl ⟨z,by rw[HO.out],by rw[HO.out];exact HZ.out,(HZK.out.less (Kept.setRow (X:=[w.heap.size+1]) _ _ _ (by simp)) (by simp)).sub (fun q hq=>by simp[hq]),kp⟩
   ·have h70':(vp.2 == 70)=false:=by simp[h70]
    go_upto_region 8 with fail
    rw[show(#[.int .u8 1,.int .u8 0,.int .i64 vp.1,.string ⟨#[]⟩,.slice none 0 0,.slice none 0 0,.int .i64 x.line,.int .i64 (-1),.int .i64 k]:Array Value)=(Jd vp.1 x.line k).cells.toArray from rfl]
    by_cases hz0:vp.2=0
    ·have hz0':(vp.2 == 0)=true:=by simp[hz0]
     have HWO:=hh (show ZI I t n x.er k=if(Zv t n (Jd vp.1 x.line k)).2=71 then(x.er,71)else(Jd vp.1 x.line k,0) by rw[HW.out,if_neg (by simp[*]),if_neg h70,if_pos hz0])
     generalize Zv t n (Jd vp.1 x.line k)=vq at*
     go_upto_region 9 with fail
     refine Zn [⟨49,[],false,.eq (.pointer (some ⟨R,0,none⟩))⟩,⟨50,[49],false,.eq (.pointer (some ⟨R,0,none⟩))⟩,⟨51,[50],false,.eq (.pointer (some ⟨R,0,none⟩))⟩,⟨52,[51],false,.eq (.agg (v.cells t))⟩,⟨53,[],false,.eq (.agg (Jd vp.1 x.line k).cells.toArray)⟩,⟨54,[52,53],false,.eq (.tuple #[.int .i64 vq.1,.int .i64 vq.2])⟩,⟨48,[54],false,.eq (.tuple #[.int .i64 vq.1,.int .i64 vq.2])⟩,⟨55,[48],false,.eq (.int .i64 vq.1)⟩,⟨56,[48],false,.eq (.int .i64 vq.2)⟩] (by kernel_rfl) (by kernel_rfl) ?_
     apply Exists.intro
     refine⟨fun vs=>?_,?_⟩
     ·simp only[List.map_cons,List.map_nil,PSz.toP,Jj,Act.put,List.setIfInBounds_toArray,List.set_cons_zero,List.set_cons_succ]
      exact rfl
     refine⟨⟨?_,?_,?_,?_,?_,?_,?_,?_,?_,trivial⟩,?_⟩<;>intro vs Z w3 hk hZ hg
     all_goals
      haveI p_w3:Zb w3 _:=⟨hk⟩
      have hz_w3:=hk.size
      have HZ:=hh hZ
      clear hk hZ
      (try simp only[ZG,Zi,Z8,SZ.eq_p,SZ.ex_p,SZ.wx_p,SZ.new_p,Nat.reduceEqDiff,reduceIte,and_true]at hg)
     ·clear hg
      go_wp2_with fail
      exact⟨kp,rfl,Z,.inl ⟨rfl,rfl⟩,rfl⟩
     ·obtain e49:=hg
      (try simp only[e49])
      go_wp2_with fail
      exact⟨kp,rfl,Z,.inl ⟨rfl,rfl⟩,rfl⟩
     ·obtain e50:=hg
      (try simp only[e50])
      go_wp2_with fail
      exact⟨kp,rfl,Z,.inl ⟨rfl,rfl⟩,rfl⟩
     ·obtain e51:=hg
      (try simp only[e51])
      go_wp2_with fail
      exact⟨kp,rfl,Z,.inl ⟨rfl,rfl⟩,rfl⟩
     ·clear hg
      go_wp2_with fail
      exact⟨kp,rfl,Z,.inl ⟨rfl,rfl⟩,rfl⟩
     ·obtain⟨e52,e53⟩:=hg
      (try simp only[e52,e53])
      go_wp2_with fail
      refine(HV2.out _ kp).mono ?_
      rintro e w8 ⟨rfl,hk8⟩
      go_wp2_with fail
      exact⟨hk8,rfl,Z,.inl ⟨rfl,rfl⟩,rfl⟩
     ·obtain e54:=hg
      (try simp only[e54])
      go_wp2_with fail
      exact⟨kp,rfl,Z,.inl ⟨rfl,rfl⟩,rfl⟩
     ·obtain e48:=hg
      (try simp only[e48])
      go_wp2_with fail
      exact⟨kp,rfl,Z,.inl ⟨rfl,rfl⟩,rfl⟩
     ·obtain e48:=hg
      (try simp only[e48])
      go_wp2_with fail
      exact⟨kp,rfl,Z,.inl ⟨rfl,rfl⟩,rfl⟩
     obtain⟨e49,e50,e51,e52,e53,e54,e48,e55,e56⟩:=hg
     simp only[e49,e50,e51,e52,e53,e54,e48,e55,e56]
     clear e49 e50 e51 e52 e53 e54 e48 e55 e56
     by_cases h71:vq.2=71
     ·have h71':(vq.2 == 71)=true:=by simp[h71]
      rw[if_pos h71]at HWO
      go_wp2_with fail
      refine bodyPost_ret (v:= .tuple #[.agg x.cells.toArray,.int .i64 71]) (Qm results46 (Z0 rfl inferInstance) (Zh rfl)) rfl ⟨x,by rw[HWO.out],by rw[HWO.out],HX.out.kept kp,kp⟩
     ·have h71':(vq.2 == 71)=false:=by simp[h71]
      rw[if_neg h71]at HWO
      go_wp2_with fail
      refine bodyPost_ret (v:= .tuple #[.agg (Jd vp.1 x.line k).cells.toArray,.int .i64 0]) (Qm results46 (Z0 rfl inferInstance) (Zh rfl)) rfl ⟨Jd vp.1 x.line k,by rw[HWO.out],by rw[HWO.out];exact ZkZ _ _ _,fun _ _=>(Zg5 _ _ _ _ hbd).mono (by omega),kp⟩
    ·have hz0':(vp.2 == 0)=false:=by simp[hz0]
     have HWO:=hh (show ZI I t n x.er k=if vp.2=71 then(x.er,71)else(Jd vp.1 x.line k,0) by rw[HW.out,if_neg (by simp[*]),if_neg h70,if_neg hz0])
     by_cases h71:vp.2=71
     ·have h71':(vp.2 == 71)=true:=by simp[h71]
      rw[if_pos h71]at HWO
      go_wp2_with fail
      refine bodyPost_ret (v:= .tuple #[.agg x.cells.toArray,.int .i64 71]) (Qm results46 (Z0 rfl inferInstance) (Zh rfl)) rfl ⟨x,by rw[HWO.out],by rw[HWO.out],HX.out.kept kp,kp⟩
     ·have h71':(vp.2 == 71)=false:=by simp[h71]
      rw[if_neg h71]at HWO
      go_wp2_with fail
      refine bodyPost_ret (v:= .tuple #[.agg (Jd vp.1 x.line k).cells.toArray,.int .i64 0]) (Qm results46 (Z0 rfl inferInstance) (Zh rfl)) rfl ⟨Jd vp.1 x.line k,by rw[HWO.out],by rw[HWO.out];exact ZkZ _ _ _,fun _ _=>(Zg5 _ _ _ _ hbd).mono (by omega),kp⟩
 ·have h0':(x.t != 0)=true:=by simp[h0]
  have HO:=hh (show ZI I t n x.er k=I x.er by rw[HW.out,if_pos (by simp[*])])
  go_wp2_with fail
  refine(HI.out _ ((w.heap.size+1)::X) x kp (fun q hq=>by rcases List.mem_cons.1 hq with rfl | h;exact .inr (by omega);exact .inl h) (fun q hq=>by rcases List.mem_cons.1 hq with rfl | h;simp;have:=HXS.out q h;simp;omega) (.inl rfl)).mono ?_
  rintro e w1 ⟨z,rfl,hz,hzk,hk1⟩
  haveI p_w1:Zb w1 _:=⟨hk1⟩
  have HZ:=hh hz
  have HZK:=hh hzk
  clear hz hzk hk1
  go_wp2_with fail
  refine bodyPost_ret (v:= .tuple #[.agg z.cells.toArray,.int .i64 (I x.er).2]) (Qm results46 (Z0 rfl inferInstance) (Zh rfl)) rfl ⟨z,by rw[HO.out],by rw[HO.out];exact HZ.out,(HZK.out.less (Kept.setRow (X:=[w.heap.size+1]) _ _ _ (by simp)) (by simp)).sub (fun q hq=>by simp[hq]),kp⟩
def Z5 (S:Nat→ExV→ExV×Int):Nat→List ExV→List ExV×Int
 | _,[]=>([],0)
 | i,x::r=>if(S i x).2=0 then((S i x).1::(Z5 S (i+1) r).1,(Z5 S (i+1) r).2)else(x::r,(S i x).2)
theorem Za6 (S:Nat→ExV→ExV×Int):∀(l r:List ExV) (i:Nat) (a:List ExV),Z5 S i l=(a,0)→Z5 S i (l++r)=(a++(Z5 S (i+l.length) r).1,(Z5 S (i+l.length) r).2)
 | [],r,i,a,h=>by
  obtain rfl:a= []:=(congrArg Prod.fst h).symm
  simp
 | x::l,r,i,a,h=>by
  rw[Z5]at h
  rw[List.cons_append,Z5]
  by_cases hs:(S i x).2=0
  ·rw[if_pos hs]at h
   have h1:=congrArg Prod.fst h
   have h2:=congrArg Prod.snd h
   simp only at h1 h2
   have ih:=Za6 S l r (i+1) (Z5 S (i+1) l).1 (by rw[←h2])
   rw[if_pos hs,ih,←h1,List.length_cons,show i+1+l.length=i+(l.length+1) by omega]
   rfl
  ·rw[if_neg hs]at h
   exact absurd (congrArg Prod.snd h) hs
theorem Jm {S:Nat→ExV→ExV×Int} {l:List ExV} {k:Nat} {x:ExV} {a:List ExV} (h:Z5 S 0 (l.take k)=(a,0)) (hx:l[k]? =some x) (hs:(S k x).2=0):Z5 S 0 (l.take (k+1))=(a++ [(S k x).1],0):=by
 obtain⟨hk,e⟩:=List.getElem?_eq_some_iff.1 hx
 rw[List.take_succ_eq_append_getElem hk,e,Za6 S _ _ _ _ h,List.length_take,Nat.min_eq_left (by omega),Nat.zero_add,Z5,if_pos hs]
 rfl
theorem Zcc {S:Nat→ExV→ExV×Int} {l:List ExV} {k:Nat} {x:ExV} {a:List ExV} (h:Z5 S 0 (l.take k)=(a,0)) (hx:l[k]? =some x) (hs:(S k x).2≠0):Z5 S 0 l=(a++l.drop k,(S k x).2):=by
 obtain⟨hk,e⟩:=List.getElem?_eq_some_iff.1 hx
 have h2:=Za6 S (l.take k) (l.drop k) 0 a h
 rw[List.take_append_drop,List.length_take,Nat.min_eq_left (by omega),Nat.zero_add,List.drop_eq_getElem_cons hk,e,Z5,if_neg hs]at h2
 rw[h2,List.drop_eq_getElem_cons hk,e]
def ZrO (a:AsV) (m:ExV):AsV:=(a.1,a.2.1,a.2.2.1,m)
def flA (l:List AsV):List Value:=(l.map AsV.cells).flatten
theorem Zhw (a:AsV):(AsV.cells a).length=10:=rfl
theorem Zhh (l:List AsV):(flA l).length=l.length*10:=by
 induction l with
 | nil=>rfl
 | cons a l ih=>
  have e:flA (a::l)=AsV.cells a++flA l:=by simp[flA]
  rw[e,List.length_append,ih,List.length_cons,Zhw]
  omega
theorem Zhi (l k:List AsV):flA (l++k)=flA l++flA k:=by simp[flA]
theorem ZbN (z:AsV) (l:List AsV):flA (z::l)=AsV.cells z++flA l:=by simp[flA]
theorem ZnU (l:List AsV):∀i,(flA l).take (i*10)=flA (l.take i):=by
 induction l with
 | nil=>intro i;simp[flA]
 | cons a l ih=>
  intro i
  cases i with
  | zero=>simp[flA]
  | succ i=>rw[ZbN,List.take_succ_cons,ZbN,List.take_append,List.take_of_length_le (by rw[Zhw];omega),Zhw,show(i+1)*10 - 10=i*10 by omega,ih]
theorem ZnV (l:List AsV) (i:Nat):(flA l).drop (i*10)=flA (l.drop i):=by
 have h1:=List.take_append_drop (i*10) (flA l)
 have h2:flA (l.take i)++flA (l.drop i)=flA l:=by rw[←Zhi,List.take_append_drop]
 rw[ZnU]at h1
 exact List.append_cancel_left (h1.trans h2.symm)
theorem ZqI (l:List AsV) (i:Nat) (z:ExV) (a:AsV) (ha:l[i]? =some a):flA (l.set i (ZrO a z))=(flA l).take (i*10+1)++z.cells++(flA l).drop (i*10+10):=by
 obtain⟨hi,rfl⟩:=List.getElem?_eq_some_iff.1 ha
 have e:l.set i (ZrO l[i] z)=l.take i++ZrO l[i] z::l.drop (i+1):=by rw[List.set_eq_take_append_cons_drop,if_pos hi]
 have e2:flA l=flA (l.take i)++(AsV.cells l[i]++flA (l.drop (i+1))):=by
  have h1:=congrArg flA (List.take_append_drop i l)
  rw[Zhi,List.drop_eq_getElem_cons hi,ZbN]at h1
  exact h1.symm
 have hl:(flA (l.take i)).length=i*10:=by rw[Zhh,List.length_take,Nat.min_eq_left (by omega)]
 have e3:(flA l).take (i*10+1)=flA (l.take i)++ [.slice l[i].1 l[i].2.1.length l[i].2.2.1]:=by
  rw[e2,List.take_append,List.take_of_length_le (by omega),hl,show i*10+1 - i*10=1 by omega]
  rfl
 rw[e,Zhi,ZbN,e3,show i*10+10=(i+1)*10 by omega,ZnV]
 show flA (l.take i)++(([.slice l[i].1 l[i].2.1.length l[i].2.2.1]++z.cells)++_)=_
 simp only[List.append_assoc]
def Zml (w:World) (base:Nat) (v:Value) (l:List AsV):Prop:=w.ownsRow base 63 10 v l.length (flA l)
theorem Zml.keep {w w':World} {base:Nat} {v:Value} {l:List AsV} {X:List Nat} (h:Zml w base v l) (hk:Kept X w w') (hx:∀k,v.ownBlock=some k→k∉X):Zml w' base v l:=Zk h hk hx
theorem Zml.rows {w:World} {base:Nat} {v:Value} {l:List AsV} (h:Zml w base v l):∃A c,v= .slice A l.length c∧l.length≤c∧c≤9223372036854775807∧(A=none→c=0)∧Zo AsV 10 AsV.cells w A l:=
 YF (cells:=AsV.cells) h (fun m=>rfl) rfl
theorem Zbx {ops:Array Oper} {rest:List Oper} {op:Oper} {a:Act} {w:World} {Q:Exit→Act→World→Prop} (hgd:op.guard=none) (x y:Operand) (ho:op.op= .store 41 x y)
 (base:Nat) (v:Value) (l:List AsV) (hO:Zml w base v l) (i:Nat) (b:AsV) (hb:l[i]? =some b) (g:Nat) (hv:v.ownBlock=some g) (m:ExV) (hx:a.eval x= .pointer (some ⟨g,i*10+1,none⟩)) (hy:a.eval y= .agg m.cells.toArray)
 (h:∀w',Zml w' base v (l.set i (ZrO b m))→w.grownBy w' (some g)→wpList prog ops Q rest (a.put op.dst undef) w'):wpList prog ops Q (op::rest) a w:=by
 refine wpList_plain hgd fun K hK=>?_
 have hi:=(List.getElem?_eq_some_iff.1 hb).1
 rcases hO.2 with⟨rfl,hn⟩ | ⟨g',cap,cur,rfl,hbg,hg,hnc,hcm,hcs,htk⟩
 ·cases hv
 obtain rfl:g'=g:=by simpa [Value.ownBlock]using hv
 have hfit:i*10+1+m.cells.length≤cur.size:=by rw[ExV.len,hcs];omega
 have hst:=run_storeCells_at prog g' (i*10+1) 63 m.cells 0 cur w hg (by simpa using hfit) (Qg m)
 simp only[Nat.add_zero]at hst
 have hrun:(storeVar 41 ⟨g',i*10+1,none⟩ (.agg m.cells.toArray)).run prog w= .ok () (w.setRow g' (cur.toList.take (i*10+1)++m.cells++cur.toList.drop (i*10+1+m.cells.length)).toArray):=by
  cases hq:prog.info? 41 with
  | none=>have h1:=Tryz.infoEx m;rw[hq]at h1;cases h1
  | some i0=>
   have hsz:m.cells.toArray.size=i0.size:=by have:=Tryz.infoEx m;simp[hq]at this;simp;omega
   simpa [storeVar,sizeOf,typeInfo,hq,Value.cells,hsz]using hst
 unfold Oper.wp execOp
 simp only[ho,hx,hy,Instr.storeAt,Instr.sureAddr,Sem.run_bind,Sem.run_pure,Result.andThen_ok,hrun]
 refine hK _ _ (h _ ⟨by rw[Zhh],.inr ⟨g',cap,_,by rw[List.length_set],hbg,setRow_heap w g' cur _ _ _ hg,by rw[List.length_set];exact hnc,hcm,?_,?_⟩⟩ ⟨rfl,rfl,rfl,by simp[World.setRow],fun q hq hne=>setRow_other w g' q _ (fun e=>hne (by rw[e]))⟩)
 ·have:=congrArg List.length htk
  rw[List.length_take,Zhh,Array.length_toList]at this
  rw[List.size_toArray,List.length_append,List.length_append,List.length_take,List.length_drop,Array.length_toList,ExV.len]
  omega
 ·have hcl:cur.toList.length=cap*10:=by rw[Array.length_toList,hcs]
  have hsplit:=ZqI l i m b hb
  have e1:(flA l).take (i*10+1)=cur.toList.take (i*10+1):=by rw[←htk,List.take_take,Nat.min_eq_left (by omega)]
  have e2:(flA l).drop (i*10+10)=(cur.toList.drop (i*10+10)).take (l.length*10 - (i*10+10)):=by rw[←htk,List.drop_take]
  rw[hsplit,e1,e2,List.length_set,ExV.len,show i*10+1+9=i*10+10 by omega,List.take_append,List.length_append,List.length_take,ExV.len,Nat.min_eq_left (by omega)]
  rw[List.take_of_length_le (by rw[List.length_append,List.length_take,ExV.len];omega)]
end
end Go.Proofs.YtfaecpkocgcofaaGreatDoor
