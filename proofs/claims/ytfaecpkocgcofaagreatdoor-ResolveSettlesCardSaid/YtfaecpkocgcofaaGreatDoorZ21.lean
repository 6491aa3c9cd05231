/- Lemmas for ResolveSettles, printed small: CB12 CB13 CB14 CD9 X1 X5 X6. -/
import Derived.Test.YtfaecpkocgcofaaGreatDoorZ20
set_option linter.all false
set_option maxRecDepth 100000
set_option maxHeartbeats 8000000
open Go.Proofs.Tryz
namespace Go.Proofs.YtfaecpkocgcofaaGreatDoor
section
open Go.RowKit Go.Shelf
def ZsR:Prop:=∀(w:World) (base:Nat) (v:Value) (zs:List Int),w.ownsRow base 3 1 v zs.length (zs.map (Value.int .i64))→zs.length < 4611686018427387904→
 Calls prog 84 #[v] w fun e w'=>e= .returned (.tuple #[])∧w'.ownsRow base 3 1 v (QI zs).length ((QI zs).map (Value.int .i64))∧w.grownBy w' v.ownBlock
def Zi6 (t:Tab) (h:WhV) (name:ByteArray):List Int:=
 let all:=Zhx t name h.after
 let d:=Qt t h all (Y0 t h.region)
 d++ZcQ t h all d
def Yk (t:Tab) (h:WhV) (name:ByteArray):List Int:=QI (Zi6 t h name)
theorem Zm8 (t:Tab):∀(k:Nat) (e:Int),(ZiO t k e).length≤k:=by
 intro k
 induction k with
 | zero=>intro e;simp[ZiO]
 | succ k ih=>
  intro e
  unfold ZiO
  split
  ·simp
  ·rename_i x _
   split
   ·simp
   ·have:=ih x.owner
    simp only[List.length_cons]
    omega
theorem ZhO (t:Tab) (e:Int):(Y0 t e).length≤t.ents.length:=by
 cases h:(Y9 t e).isSome
 ·rw[Zfi (by simpa using h)]
  simp
 ·obtain⟨n,x,rfl,hx,_⟩:=Zag h
  have h1:=(List.getElem?_eq_some_iff.1 hx).1
  have h2:=Zm8 t ((n:Int)+1).toNat (n:Int)
  unfold Y0
  omega
theorem ZeH {t:Tab} {name:ByteArray} {after:Int} {e:Int} (h:e∈Zhx t name after):(Y9 t e).isSome=true:=by
 unfold Zhx Zgi at h
 obtain⟨i,hi,rfl⟩:=List.mem_map.1 h
 have hl:i < t.ents.length:=by simpa using(List.mem_filter.1 hi).1
 unfold Y9
 rw[if_neg (by omega)]
 simp[hl]
theorem ZeY (t:Tab) (h:WhV) (all l:List Int):(ZcQ t h all l).length≤all.length:=by
 unfold ZcQ
 exact Nat.le_trans (List.length_filter_le _ _) (List.length_filter_le _ _)
theorem ZoM {w:World} {v:Value} {xs:List Int} (h:Yb w v xs):∃A c,v= .slice A xs.length c∧YG w 1 A xs.length (xs.map (Value.int .i64)):=by
 obtain⟨A,c,rfl,h1,h2,h3,h4⟩:=h
 exact⟨A,c,rfl,ZM.src (w:=w) (A:=A) h4⟩
theorem Zfa (hS:ZsR) (w:World) (v:Zp) (t:Tab) (h:WhV) (name:ByteArray) (hT:Zw w v t) (hH:ZmB w h) (hs:t.ents.length≤5000) (hus:h.uses.length≤100000) (hwf:∀x,x∈t.ents→(Lit.int .i64 x.owner).wf=true):
 Calls prog 86 #[.agg (v.cells t),.agg h.cells.toArray,.string name] w (Zmk (Yk t h name) w):=by
 have HS:=hh hS
 have HT:=hh hT
 have HH:=hh hH
 have HWF:=hh hwf
 obtain⟨i0,hi,hz0,hz1,hz2⟩:=info_parts ZaJ
 have HALL:Hid ((Zhx t name h.after).length≤5000):=Nat.le_trans (ZeI _ _ _ _) hs
 have HREG:Hid ((Y0 t h.region).length≤5000):=Nat.le_trans (ZhO _ _) hs
 clear hT hH hwf hS
 unfold Zp.cells WhV.cells
 go_enter func86,ntmps86
 go_upto_region 1 with(fail)
 refine Zm ?_
 intro w1 hw1
 have HK1:Hid (Kept [] w w1):=by rw[Hid,hw1];exact(Kept.alloc _ _ _).trans (Kept.alloc _ _ _)
 have b0:w1.heap[w.heap.size]? =some (.cells (v.cells t) 30 (0,0)):=by rw[hw1];exact Zr (Zf rfl) (by simp)
 have b1:w1.heap[w.heap.size+1]? =some (.cells h.cells.toArray 33 (0,0)):=by rw[hw1];exact Zf (by simp)
 have c0:∀j,w1.cell? ⟨w.heap.size,j,none⟩=(v.cells t)[j]? :=fun j=>cell_of_row _ _ _ _ _ _ b0
 have c1:∀j,w1.cell? ⟨w.heap.size+1,j,none⟩=h.cells.toArray[j]? :=fun j=>cell_of_row _ _ _ _ _ _ b1
 have e0:w1.cell? ⟨w.heap.size,0,none⟩=some (.slice v.ta t.types.length v.tc):=c0 0
 have e1:w1.cell? ⟨w.heap.size,1,none⟩=some (.slice v.sa t.subs.length v.sc):=c0 1
 have e2:w1.cell? ⟨w.heap.size,2,none⟩=some (.slice v.ea t.ents.length v.ec):=c0 2
 have e3:w1.cell? ⟨w.heap.size,3,none⟩=some (.slice v.ga v.gn v.gc):=c0 3
 have e4:w1.cell? ⟨w.heap.size,4,none⟩=some (.slice v.ia v.im v.ic):=c0 4
 have a0:w1.cell? ⟨w.heap.size+1,0,none⟩=some (.int .i64 h.region):=c1 0
 have a1:w1.cell? ⟨w.heap.size+1,1,none⟩=some (.int .i64 h.after):=c1 1
 have a2:w1.cell? ⟨w.heap.size+1,2,none⟩=some (.slice h.ua h.units.length h.uc):=c1 2
 have a3:w1.cell? ⟨w.heap.size+1,3,none⟩=some (.slice h.sa h.uses.length h.sc):=c1 3
 have HC:=hh (Zkh w1 v t h name (HT.out.kept HK1.out) (HH.out.kept HK1.out) (by omega))
 unfold Zp.cells WhV.cells at HC
 clear hw1 b0 b1 c0 c1
 go_wp2_with fail
 refine HC.out.mono ?_
 rintro e w2 ⟨F,rfl,hF,hfi,hk2⟩
 have HFI:=hh hfi
 have HK2:Hid (Kept [] w w2):=HK1.out.trans hk2
 clear hfi hk2 HC e0 e1 e2 e3 e4 a0 a1 a2 a3 hF
 obtain⟨all,hall⟩:∃all,Zhx t name h.after=all:=⟨_,rfl⟩
 have HRV:Hid (∀e,e∈all→(Y9 t e).isSome=true):=fun e he=>by rw[←hall]at he;exact ZeH he
 have HL:Hid (Yk t h name=QI (Qt t h all (Y0 t h.region)++ZcQ t h all (Qt t h all (Y0 t h.region)))):=by rw[Hid,Yk,Zi6,hall]
 rw[hall]at HFI HALL
 have HC:=hh (ZgG w2 F v t h name all HFI.out HRV.out HALL.out HREG.out)
 clear hall
 go_wp2_with fail
 refine HC.out.mono ?_
 rintro e w3 ⟨vd,rfl,ho3,hk3⟩
 have HD:Hid (∀e,e∈Qt t h all (Y0 t h.region)→(Y9 t e).isSome=true):=fun e he=>HRV.out e (Zeh he)
 have hdl:(Qt t h all (Y0 t h.region)).length≤5000*5000:=by
  have h1:=Zei (t:=t) (h:=h) (all:=all) (Y0 t h.region) []
  have h2:(Y0 t h.region).length*all.length≤5000*5000:=Nat.mul_le_mul HREG.out HALL.out
  unfold Qt
  simp only[List.length_nil,Nat.zero_add]at h1
  omega
 generalize Qt t h all (Y0 t h.region)=d at*
 obtain⟨A3,c3,rfl⟩:=Zq ho3
 obtain⟨_,hin3,h31,h32,_⟩:=(Yb.of_owns ho3).at_
 have HO3:=hh ho3
 have HK3:=hh hk3
 have HC:=hh (Zj9 w3 F v t h name all (HFI.out.kept hk3) HRV.out HALL.out hus HWF.out A3 c3 d h31 h32 hin3 HD.out)
 have hul:=ZeY t h all d
 generalize ZcQ t h all d=us at*
 clear ho3 hk3 hin3
 go_wp2_with fail
 refine HC.out.mono ?_
 rintro e w4 ⟨vu,rfl,hiu,hk4⟩
 obtain⟨A5,c5,rfl,hsrc⟩:=ZoM hiu
 have hz2':=HK2.out.size
 have HO4:Hid (w4.ownsRow w.heap.size 3 1 (.slice A3 d.length c3) d.length (d.map (Value.int .i64))):=ZhU (Zaj HO3.out (fun g cc _ hc=>hk4.obj hc (by simp))) hz2'
 have HK4:Hid (Kept [] w w4):=HK2.out.trans (HK3.out.trans hk4)
 have hA:d.length+us.length≤maxLen:=by have:=HALL.out;unfold maxLen;omega
 have hB:(d.length+us.length)*8≤140737488355328:=by have:=HALL.out;omega
 have hC:w.heap.size≤w4.heap.size:=HK4.out.size
 have hD:d.length+us.length < 4611686018427387904:=by have:=HALL.out;omega
 clear hiu hk4 HC
 go_upto_region 4 with(at_builtin;refine Zt _ rfl (.tmp 15) (.tmp 18) 31 rfl w.heap.size 3 i0 (.int .i64 0) 1 8 underlying31 hi hz0 hz1 hz2 rfl (by decide) (.slice A3 d.length c3) d.length (d.map (Value.int .i64)) rfl HO4.out A5 us.length c5 (us.map (Value.int .i64)) rfl hsrc (Zd3 _) hA hB hC ?_;intro v6 w6 ho6 hg6 _;have HO6:=hh ho6;have HG6:=hh hg6;clear ho6 hg6)
 have HK6:Hid (Kept [] w w6):=HK4.out.grown HG6.out (fun q hq=>ZaD HO4.out q hq)
 have HO6':Hid (w6.ownsRow w.heap.size 3 1 v6 (d++us).length ((d++us).map (Value.int .i64))):=by
  rw[Hid,List.length_append,List.map_append]
  exact HO6.out
 have HC:=hh (HS.out w6 w.heap.size v6 (d++us) HO6'.out (by rw[List.length_append];omega))
 clear hsrc
 go_wp2_with fail
 refine HC.out.mono ?_
 rintro e w7 ⟨rfl,ho7,hg7⟩
 have HO7:=hh ho7
 have HK7:Hid (Kept [] w w7):=HK6.out.grown hg7 (fun q hq=>ZaD HO6.out q hq)
 clear ho7 hg7 HC
 go_wp2_with fail
 go_ret
 exact⟨_,rfl,by rw[HL.out];exact HO7.out,HK7.out⟩
end
section
open Go.RowKit
structure Zmh (w:World) (v:Zp) (t:Tab):Prop where
 ts:Zo TyV 18 TyV.cells w v.ta t.types
 tl:t.types.length≤v.tc
 tm:v.tc≤9223372036854775807
theorem Zmh.kept {w w':World} {v:Zp} {t:Tab} (h:Zmh w v t) (hk:Kept [] w w'):Zmh w' v t:=⟨h.ts.kept hk,h.tl,h.tm⟩
theorem Zw.typ {w:World} {v:Zp} {t:Tab} (h:Zw w v t):Zmh w v t:=⟨h.ts,h.tlc,h.tm⟩
def tyR (t:Tab) (e:Int):Option TyV:=if e < 0 then none else t.types[e.toNat]?
def ZqE (t:Tab) (h:WhV) (y:TyV):Bool:=y.priv == -1 || (decide (y.full≤h.after) && Jr t h.region y.priv)
def Zbd (t:Tab) (h:WhV) (e:Int):Bool:=match tyR t e with
 | none=>false
 | some y=>ZqE t h y
theorem Zb3 {W:World} {b:Nat} {x:TyV} (h:W.heap[b]? =some (.cells x.cells.toArray 86 (0,0))) (j:Nat) {u:Value} (hu:x.cells[j]? =some u):W.cell? ⟨b,j,none⟩=some u:=by
 rw[cell_of_row _ _ _ _ _ _ h]
 simpa using hu
theorem ZnO (w:World) (v:Zp) (t:Tab) (h:WhV) (e:Int) (hT:Zw w v t) (hY:Zmh w v t) (hs:t.ents.length≤100000):
 Calls prog 55 #[.agg (v.cells t),.agg h.cells.toArray,.int .i64 e] w (J0 (Zbd t h e) w):=by
 have HT:=hh hT
 have HY:=hh hY
 have HSZ:=hh hs
 have q1:=hY.tl
 have q2:=hY.tm
 clear hT hY hs
 unfold Zp.cells WhV.cells
 go_enter func55,ntmps55
 go_upto_region 1 with(fail)
 refine Zm ?_
 intro w0 hw0
 have HK0:Hid (Kept [] w w0):=by rw[Hid,hw0];exact(Kept.alloc _ _ _).trans (Kept.alloc _ _ _)
 have b0:w0.heap[w.heap.size]? =some (.cells (v.cells t) 30 (0,0)):=by rw[hw0];exact Zr (Zf rfl) (by simp)
 have b1:w0.heap[w.heap.size+1]? =some (.cells h.cells.toArray 33 (0,0)):=by rw[hw0];exact Zf (by simp)
 have HB0:=hh b0
 have HB1:=hh b1
 have v0:w0.cell? ⟨w.heap.size,0,none⟩=some (.slice v.ta t.types.length v.tc):=(cell_of_row _ _ _ _ _ _ b0).trans rfl
 clear hw0 b0 b1
 by_cases h0:e < 0
 ·have HR:Hid (Zbd t h e=false):=by simp[Hid,Zbd,tyR,h0]
  go_wp2_with fail
  go_ret
  exact⟨by rw[HR.out];rfl,HK0.out⟩
 ·obtain⟨n,rfl⟩:=Int.eq_ofNat_of_zero_le (by omega:0≤e)
  by_cases h1:n < t.types.length
  ·obtain⟨y,hy⟩:∃y,t.types[n]? =some y:=⟨_,List.getElem?_eq_getElem h1⟩
   have HR:Hid (Zbd t h (n:Int)=ZqE t h y):=by
    rw[Hid,Zbd,tyR,if_neg (by omega)]
    simp[hy]
   have HFB:Hid (ZqE t h y=(y.priv == -1 || (decide (y.full≤h.after) && Jr t h.region y.priv))):=rfl
   rw[HFB.out]at HR
   obtain⟨b,o,hta,hr⟩:=(HY.out.ts.kept HK0.out).some_ hy
   haveI:Zar w0 b (o+n*18) y:=⟨hr n y hy⟩
   rw[hta]at v0
   clear hr hy hta HFB
   go_upto_region 4 with(fail)
   refine Zm ?_
   intro w1 hw1
   have hk1:Kept [] w0 w1:=by rw[hw1];exact Kept.alloc _ _ _
   have by1:w1.heap[w0.heap.size]? =some (.cells y.cells.toArray 86 (0,0)):=by rw[hw1];exact heap_alloc_new _ _
   have HK1:=hh hk1
   have HY1:=hh by1
   have t15:=Zb3 (x:=y) by1 15 rfl
   have t16:=Zb3 (x:=y) by1 16 rfl
   have HB01:=hh (hk1.obj HB0.out (by simp))
   have HB11:=hh (hk1.obj HB1.out (by simp))
   have u0:w1.cell? ⟨w.heap.size+1,0,none⟩=some (.int .i64 h.region):=(cell_of_row _ _ _ _ _ _ HB11.out).trans rfl
   have u1:w1.cell? ⟨w.heap.size+1,1,none⟩=some (.int .i64 h.after):=(cell_of_row _ _ _ _ _ _ HB11.out).trans rfl
   generalize w0.heap.size=Y at*
   clear hw1 hk1 by1 v0
   have c0:∀j,w1.cell? ⟨w.heap.size,j,none⟩=(v.cells t)[j]? :=fun j=>cell_of_row _ _ _ _ _ _ HB01.out
   have v0:w1.cell? ⟨w.heap.size,0,none⟩=some (.slice v.ta t.types.length v.tc):=c0 0
   have v1:w1.cell? ⟨w.heap.size,1,none⟩=some (.slice v.sa t.subs.length v.sc):=c0 1
   have v2:w1.cell? ⟨w.heap.size,2,none⟩=some (.slice v.ea t.ents.length v.ec):=c0 2
   have v3:w1.cell? ⟨w.heap.size,3,none⟩=some (.slice v.ga v.gn v.gc):=c0 3
   have v4:w1.cell? ⟨w.heap.size,4,none⟩=some (.slice v.ia v.im v.ic):=c0 4
   clear c0
   have HCI:=hh (Zdl _ v t h.region y.priv (HT.out.kept (HK0.out.trans HK1.out)))
   unfold Zp.cells at HCI
   cases hp:(y.priv == -1)
   ·rw[hp]at HR
    cases hf:decide (y.full≤h.after)
    ·rw[hf]at HR
     go_wp2_with fail
     go_ret
     exact⟨by rw[HR.out];rfl,HK0.out.trans HK1.out⟩
    ·rw[hf]at HR
     go_wp2_with (go_at_call 104;refine HCI.out.mono ?_;rintro e w5 ⟨rfl,hk5⟩;have HK5:=hh hk5;have t15:=Zb3 (x:=y) (hk5.obj HY1.out (by simp)) 15 rfl;have t16:=Zb3 (x:=y) (hk5.obj HY1.out (by simp)) 16 rfl;have u1:w5.cell? ⟨w.heap.size+1,1,none⟩=some (.int .i64 h.after):=(cell_of_row _ _ _ _ _ _ (hk5.obj HB11.out (by simp))).trans rfl;clear hk5)
     go_ret
     exact⟨by rw[HR.out];rfl,HK0.out.trans (HK1.out.trans HK5.out)⟩
   ·rw[hp]at HR
    have hp':y.priv= -1:=by simpa using hp
    have HR2:Hid (Zbd t h (n:Int)=true):=by rw[Hid,HR.out];rfl
    rw[hp']at t15
    clear HCI hp hp'
    go_wp2_with fail
    go_ret
    exact⟨by rw[HR2.out];rfl,HK0.out.trans HK1.out⟩
  ·have HR:Hid (Zbd t h (n:Int)=false):=by
    rw[Hid,Zbd,tyR,if_neg (by omega)]
    rw[List.getElem?_eq_none (by simp;omega)]
   go_wp2_with fail
   go_ret
   exact⟨by rw[HR.out];rfl,HK0.out⟩
def JD (t:Tab) (h:WhV) (ty:Int):Int:=if ty < 0∨(t.types.length:Int)≤ty then 0 else if Zbd t h ty then(t.types.getD ty.toNat default).kind else 7
def ofP (t:Tab) (sub:Int):Int:=if sub < 0∨(t.subs.length:Int)≤sub then -1 else if(Zc8 t sub).t < 0∨(t.types.length:Int)≤(Zc8 t sub).t then -1 else(Zc8 t sub).t
def Z9 (t:Tab) (h:WhV) (ty:Int):Bool:=JD t h ty == 2
def ZeW (t:Tab) (h:WhV) (ty:Int):Bool:=ty == 0 || Z9 t h ty
def Zb8 (t:Tab) (h:WhV) (ty:Int):Bool:=JD t h ty == 2 || JD t h ty == 3
def Q6 (t:Tab) (h:WhV) (ty:Int):Bool:=ty == 0 || Zb8 t h ty
theorem Zsl (w:World) (v:Zp) (t:Tab) (h:WhV) (e:Int) (hT:Zw w v t):Calls prog 55 #[.agg (v.cells t),.agg h.cells.toArray,.int .i64 e] w (ZE (.bool (Zbd t h e)) w):=
 ZnO w v t h e hT hT.typ (by have:=hT.sm5;omega)
theorem ZbH (w:World) (R mr:Nat) (v:Zp) (t:Tab) (h:WhV) (ty:Int) (hR:Qo w R mr v t h):Calls prog 105 #[.pointer (some ⟨R,0,none⟩),.int .i64 ty] w (ZE (.int .u8 (JD t h ty)) w):=by
 have HT:=hh hR.tab
 have q1:=hR.tab.tl
 have HF:=hh (fun w' (hk:Kept [] w w')=>Zsl w' v t h ty (hR.tab.kept hk))
 have HV:Hid (JD t h ty=if ty < 0∨(t.types.length:Int)≤ty then 0 else if Zbd t h ty then(t.types.getD ty.toNat default).kind else 7):=rfl
 haveI bR:=hR.is
 unfold Zp.cells WhV.cells at HF
 clear hR
 by_cases h0:ty < 0
 ·have HW:Hid (JD t h ty=0):=by rw[Hid,HV.out,if_pos (.inl h0)]
  go_enter func105,ntmps105
  go_wp2_with fail
  rw[HW.out]
  exact Za rfl (Zj results105 (Zh rfl)) kp
 by_cases h1:(t.types.length:Int)≤ty
 ·have HW:Hid (JD t h ty=0):=by rw[Hid,HV.out,if_pos (.inr h1)]
  go_enter func105,ntmps105
  go_wp2_with fail
  rw[HW.out]
  exact Za rfl (Zj results105 (Zh rfl)) kp
 obtain⟨n,rfl⟩:=Int.eq_ofNat_of_zero_le (by omega:0≤ty)
 have h2:(n:Int) < (t.types.length:Int):=by omega
 obtain⟨y,b,o,hy,ha,hat,_⟩:=Zbi HT.out (by omega:n < t.types.length)
 have HV1:Hid (JD t h (n:Int)=if Zbd t h n then y.kind else 7):=by
  rw[Hid,HV.out,if_neg (by omega)]
  simp[List.getD_eq_getElem?_getD,hy]
 rw[ha]at HF
 clear HV HT hy h1 h0
 go_enter func105,ntmps105
 go_wp2_with fail
 refine Ze 11 0 (fun _=> .cells #[] 0) (by kernel_rfl) (by kernel_rfl) (fun i o h1 h2=>by omega) (fun _ _ _ _ _ h=>h) ?_;apply Exists.intro;refine⟨fun U hU hN=>?_,?_⟩;simp only[List.take_succ_cons,List.take_zero]
 ·repeat(go_big_quiet_step (exact Calls.headV hU (HF.out _ (Kept.trans kp (Zs.prop _)))))
  refine wpQuiet_nil ?_
  exact rfl
 simp only[List.drop_succ_cons,List.drop_zero,List.take_succ_cons,List.take_zero]
 intro w2 hk_w2 _
 haveI p_w2:Zb w2 _:=⟨hk_w2⟩
 clear hk_w2
 cases hf:Zbd t h n
 ·rw[hf]at HV1
  go_wp2_with fail
  rw[HV1.out]
  exact Za rfl (Zj results105 (Zh rfl)) kp
 ·rw[hf]at HV1
  go_wp2_with fail
  rw[HV1.out]
  exact Za rfl (Zj results105 (Zh rfl)) kp
theorem Zcl (w:World) (R mr:Nat) (v:Zp) (t:Tab) (h:WhV) (ty:Int) (hR:Qo w R mr v t h):Calls prog 74 #[.pointer (some ⟨R,0,none⟩),.int .i64 ty] w (ZE (.bool (Z9 t h ty)) w):=by
 unfold Z9
 have HV:=hh (fun w' (hk:Kept [] w w')=>ZbH w' R mr v t h ty (hR.kept hk))
 generalize JD t h ty=q at*
 clear hR
 go_enter func74,ntmps74
 go_wp2_with fail
 refine nxt (HV.out _ kp) fun w1 p_w1=>?_;have hz_w1:=szk w w1
 go_wp2_with fail
 exact Za rfl (Zj results74 (Zh rfl)) kp
theorem ZeV (w:World) (R mr:Nat) (v:Zp) (t:Tab) (h:WhV) (ty:Int) (hR:Qo w R mr v t h):Calls prog 75 #[.pointer (some ⟨R,0,none⟩),.int .i64 ty] w (ZE (.bool (ZeW t h ty)) w):=by
 have HV:=hh (fun w' (hk:Kept [] w w')=>Zcl w' R mr v t h ty (hR.kept hk))
 have HW:Hid (ZeW t h ty=(ty == 0 || Z9 t h ty)):=rfl
 generalize Z9 t h ty=q at*
 clear hR
 cases h0:(ty == 0)
 ·go_enter func75,ntmps75
  go_wp2_with fail
  refine nxt (HV.out _ kp) fun w1 p_w1=>?_;have hz_w1:=szk w w1
  go_wp2_with fail
  rw[HW.out,h0,Bool.false_or]
  exact Za rfl (Zj results75 (Zh rfl)) kp
 ·go_enter func75,ntmps75
  go_wp2_with fail
  rw[HW.out,h0,Bool.true_or]
  exact Za rfl (Zj results75 (Zh rfl)) kp
theorem ZiJ (w:World) (R mr:Nat) (v:Zp) (t:Tab) (h:WhV) (ty:Int) (hR:Qo w R mr v t h):Calls prog 116 #[.pointer (some ⟨R,0,none⟩),.int .i64 ty] w (ZE (.bool (Zb8 t h ty)) w):=by
 have HW:Hid (Zb8 t h ty=(JD t h ty == 2 || JD t h ty == 3)):=rfl
 have HV:=hh (fun w' (hk:Kept [] w w')=>ZbH w' R mr v t h ty (hR.kept hk))
 generalize JD t h ty=q at*
 clear hR
 cases h2:(q == 2)
 ·go_enter func116,ntmps116
  go_wp2_with fail
  refine nxt (HV.out _ kp) fun w1 p_w1=>?_;have hz_w1:=szk w w1
  go_wp2_with fail
  rw[HW.out,h2,Bool.false_or]
  exact Za rfl (Zj results116 (Zh rfl)) kp
 ·go_enter func116,ntmps116
  go_wp2_with fail
  refine nxt (HV.out _ kp) fun w1 p_w1=>?_;have hz_w1:=szk w w1
  go_wp2_with fail
  rw[HW.out,h2,Bool.true_or]
  exact Za rfl (Zj results116 (Zh rfl)) kp
theorem Zbo (w:World) (R mr:Nat) (v:Zp) (t:Tab) (h:WhV) (ty:Int) (hR:Qo w R mr v t h):Calls prog 76 #[.pointer (some ⟨R,0,none⟩),.int .i64 ty] w (ZE (.bool (Q6 t h ty)) w):=by
 have HV:=hh (fun w' (hk:Kept [] w w')=>ZiJ w' R mr v t h ty (hR.kept hk))
 have HW:Hid (Q6 t h ty=(ty == 0 || Zb8 t h ty)):=rfl
 generalize Zb8 t h ty=q at*
 clear hR
 cases h0:(ty == 0)
 ·go_enter func76,ntmps76
  go_wp2_with fail
  refine nxt (HV.out _ kp) fun w1 p_w1=>?_;have hz_w1:=szk w w1
  go_wp2_with fail
  rw[HW.out,h0,Bool.false_or]
  exact Za rfl (Zj results76 (Zh rfl)) kp
 ·go_enter func76,ntmps76
  go_wp2_with fail
  rw[HW.out,h0,Bool.true_or]
  exact Za rfl (Zj results76 (Zh rfl)) kp
theorem Zpc (w:World) (R mr:Nat) (v:Zp) (t:Tab) (h:WhV) (n:Int) (hR:Qo w R mr v t h):Calls prog 93 #[.pointer (some ⟨R,0,none⟩),.int .i64 n] w (ZE (.int .i64 (ofP t n)) w):=by
 have HT:=hh hR.tab
 have q1:=hR.tab.sl
 have q2:=hR.tab.tl
 have HV:Hid (ofP t n=if n < 0∨(t.subs.length:Int)≤n then -1 else if(Zc8 t n).t < 0∨(t.types.length:Int)≤(Zc8 t n).t then -1 else(Zc8 t n).t):=rfl
 haveI bR:=hR.is
 clear hR
 by_cases h0:n < 0
 ·have HW:Hid (ofP t n= -1):=by rw[Hid,HV.out,if_pos (.inl h0)]
  go_enter func93,ntmps93
  go_wp2_with fail
  rw[HW.out]
  exact Za rfl (Zj results93 (Zh rfl)) kp
 by_cases h1:(t.subs.length:Int)≤n
 ·have HW:Hid (ofP t n= -1):=by rw[Hid,HV.out,if_pos (.inr h1)]
  go_enter func93,ntmps93
  go_wp2_with fail
  rw[HW.out]
  exact Za rfl (Zj results93 (Zh rfl)) kp
 obtain⟨k,rfl⟩:=Int.eq_ofNat_of_zero_le (by omega:0≤n)
 have h2:(k:Int) < (t.subs.length:Int):=by omega
 obtain⟨s,b,o,hs,ha,hat,_⟩:=Zb4 HT.out (by omega:k < t.subs.length)
 have HV1:Hid (ofP t (k:Int)=if s.t < 0∨(t.types.length:Int)≤s.t then -1 else s.t):=by
  have e:Zc8 t (k:Int)=s:=by simp[Zc8,List.getD_eq_getElem?_getD,hs]
  rw[Hid,HV.out,if_neg (by omega),e]
 clear HV HT hs h1 h0
 by_cases c0:s.t < 0
 ·have HW:Hid (ofP t (k:Int)= -1):=by rw[Hid,HV1.out,if_pos (.inl c0)]
  clear HV1
  go_enter func93,ntmps93
  go_wp2_with fail
  rw[HW.out]
  exact Za rfl (Zj results93 (Zh rfl)) kp
 by_cases c1:(t.types.length:Int)≤s.t
 ·have HW:Hid (ofP t (k:Int)= -1):=by rw[Hid,HV1.out,if_pos (.inr c1)]
  clear HV1
  go_enter func93,ntmps93
  go_wp2_with fail
  rw[HW.out]
  exact Za rfl (Zj results93 (Zh rfl)) kp
 have HW:Hid (ofP t (k:Int)=s.t):=by rw[Hid,HV1.out,if_neg (by omega)]
 have c2:0≤s.t:=by omega
 have c3:s.t < (t.types.length:Int):=by omega
 clear HV1 c0 c1
 go_enter func93,ntmps93
 go_wp2_with fail
 rw[HW.out]
 exact Za rfl (Zj results93 (Zh rfl)) kp
def Za4 (t:Tab):Nat→Int→Int
 | 0,ty=>ty
 | k+1,ty=>let p:=(t.types.getD ty.toNat default).parent;if 0≤p∧p < ty then Za4 t k p else ty
def ZdQ (t:Tab) (ty:Int):Int:=if ty < 0∨(t.types.length:Int)≤ty then -1 else Za4 t ty.toNat ty
theorem Zm7 {t:Tab} {k:Nat} {n p:Nat} {y:TyV} (hk:n≤k) (hy:t.types[n]? =some y) (hp:y.parent=(p:Int)) (hlt:p < n):Za4 t k (n:Int)=Za4 t (k - 1) (p:Int):=by
 cases k with
 | zero=>omega
 | succ k=>
  rw[Za4]
  simp only[Int.toNat_natCast,List.getD_eq_getElem?_getD,hy,Option.getD_some,hp]
  rw[if_pos (by omega)]
  rfl
theorem Zfe {t:Tab} {k:Nat} {n:Nat} {y:TyV} (hy:t.types[n]? =some y) (h:¬(0≤y.parent∧y.parent < (n:Int))):Za4 t k (n:Int)=n:=by
 cases k with
 | zero=>rfl
 | succ k=>
  rw[Za4]
  simp only[Int.toNat_natCast,List.getD_eq_getElem?_getD,hy,Option.getD_some]
  rw[if_neg h]
@[go_sem] theorem Zu6 (w:World) (b o:Nat) (x:TyV) [h:Zar w b o x]:w.cell? ⟨b,o+2,none⟩=some (.int .i64 x.parent):=h.range 2 _ rfl
@[go_sem] theorem ZuJ (w:World) (b o:Nat) (x:TyV) [h:Zar w b o x]:w.cell? ⟨b,o+14,none⟩=some (.bool x.limited):=h.range 14 _ rfl
theorem Zj7 {w:World} {v:Zp} {t:Tab} (hT:Zw w v t) {b o:Nat} (ha:v.ta=some ⟨b,o,none⟩) {n:Nat} (h:n < t.types.length):∃y,t.types[n]? =some y∧Zar w b (o+n*18) y:=by
 obtain⟨y,b',o',hy,ha',hat,_⟩:=Zbi hT h
 obtain⟨rfl,rfl⟩:b'=b∧o'=o:=by
  have e:=ha'.symm.trans ha
  injection e with e
  injection e with e1 e2
  exact⟨e1,e2⟩
 exact⟨y,hy,hat⟩
theorem ZoI (w:World) (v:Zp) (t:Tab) (ty:Int) (hT:Zw w v t):Calls prog 140 #[.agg (v.cells t),.int .i64 ty] w (ZE (.int .i64 (ZdQ t ty)) w):=by
 have HT:=hh hT
 have q1:=hT.tl
 have HC:=hh (fun w' (hk:Kept [] w w')=>Zir w' v t ty (hT.kept hk))
 have HV:Hid (ZdQ t ty=if ty < 0∨(t.types.length:Int)≤ty then -1 else Za4 t ty.toNat ty):=rfl
 clear hT
 unfold Zp.cells
 by_cases h0:ty < 0∨(t.types.length:Int)≤ty
 ·have HW:Hid (ZdQ t ty= -1):=by rw[Hid,HV.out,if_pos h0]
  have HO:=hh (ZdF h0)
  clear h0 HT HV
  rw[HO.out]at HC
  unfold tyV at HC
  go_enter func140,ntmps140
  go_wp2_with fail
  refine nxt (HC.out _ kp) fun w1 p_w1=>?_;have hz_w1:=szk w w1
  simp only[Option.getD_none,Option.isSome_none]
  go_wp2_with fail
  rw[HW.out]
  exact Za rfl (Zj results140 (Zh rfl)) kp
 obtain⟨n,rfl⟩:=Int.eq_ofNat_of_zero_le (by omega:0≤ty)
 obtain⟨y,b,o,hy,ha,hat,_⟩:=Zbi HT.out (by omega:n < t.types.length)
 have HV1:Hid (ZdQ t (n:Int)=Za4 t n n):=by rw[Hid,HV.out,if_neg h0];rfl
 have HY:=hh hy
 have h2:(n:Int) < (t.types.length:Int):=by omega
 have HO:=hh (ZjZ hy)
 rw[HO.out,ha]at HC
 unfold tyV at HC
 clear hy h0 HV
 go_enter func140,ntmps140
 go_wp2_with fail
 refine nxt (HC.out _ kp) fun w1 p_w1=>?_;have hz_w1:=szk w w1
 simp only[Option.getD_some,Option.isSome_some]
 clear HC HO
 go_wp2_with fail
 refine Zm ?_
 intro w2 hw2
 haveI p_w2:Zb w2 w:=⟨by rw[hw2];exact kp⟩
 haveI b2:Zc w2 w.heap.size 30 #[.slice (some ⟨b,o,none⟩) t.types.length v.tc,.slice v.sa t.subs.length v.sc,.slice v.ea t.ents.length v.ec,.slice v.ga v.gn v.gc,.slice v.ia v.im v.ic]:=⟨by rw[hw2];exact Zc.has⟩
 have HA:=hh ha
 clear hw2 p_w1 hat
 go_loop [1,7] (fun s1 s7=>∃(m k:Nat) (z:TyV),s1= .int .i64 m∧m≤k∧t.types[m]? =some z∧s7= .int .i64 z.parent∧Za4 t k m=Za4 t n n) (fun s1 _=>(intOf s1).toNat)
 case atStart=>exact⟨n,n,y,rfl,Nat.le_refl _,HY.out,rfl,rfl⟩
 case round=>
  obtain⟨m,k,z,rfl,hmk,hz,rfl,hr⟩:=hrel
  have HR:=hh hr
  have HZ:=hh hz
  have hml:m < t.types.length:=(List.getElem?_eq_some_iff.1 hz).1
  clear hr hz
  by_cases c0:0≤z.parent
  rotate_left
  ·have HW:Hid (ZdQ t (n:Int)=m):=by rw[Hid,HV1.out,←HR.out];exact Zfe HZ.out (fun h=>c0 h.1)
   go_wp2_with fail
   rw[HW.out]
   exact Za rfl (Zj results140 (Zh rfl)) kp
  by_cases c1:z.parent < (m:Int)
  rotate_left
  ·have HW:Hid (ZdQ t (n:Int)=m):=by rw[Hid,HV1.out,←HR.out];exact Zfe HZ.out (fun h=>c1 h.2)
   have c2:(m:Int)≤z.parent:=by omega
   have c3:decide (z.parent < (m:Int))=false:=decide_eq_false c1
   clear c1
   go_wp2_with fail
   rw[HW.out]
   exact Za rfl (Zj results140 (Zh rfl)) kp
  obtain⟨p,hp⟩:=Int.eq_ofNat_of_zero_le c0
  have hpm:p < m:=by omega
  obtain⟨u,hu,hat3⟩:=Zj7 (HT.out.kept (w':=w2) kp) HA.out (by omega:p < t.types.length)
  have HN:Hid (Za4 t (k - 1) (p:Int)=Za4 t n n):=by rw[Hid,←HR.out,Zm7 hmk HZ.out hp hpm]
  have HU:=hh hu
  have hpl:(p:Int) < (t.types.length:Int):=by omega
  rw[hp]at c0 c1
  rw[hp]
  clear hp hu HR HZ
  go_wp2_with fail
  go_round
  case rel=>exact⟨p,k - 1,u,rfl,by omega,HU.out,rfl,HN.out⟩
  case measure=>simp[intOf];omega
def QG (t:Tab) (h:WhV) (ty:Int):Bool:=JD t h ty == 3 && ZdQ t ty == 2
def Ztd (t:Tab) (ty:Int):Bool:=(t.types.getD ty.toNat default).limited
def ZaP (t:Tab) (h:WhV) (ty:Int):Bool:=decide (0≤ty∧ty < (t.types.length:Int)) && !(Ztd t ty && JD t h ty == 7)
def ZN (o:Int):Bool:=decide (7≤o) && decide (o≤12)
theorem ZcG (w:World) (R mr:Nat) (v:Zp) (t:Tab) (h:WhV) (ty:Int) (hR:Qo w R mr v t h):Calls prog 77 #[.pointer (some ⟨R,0,none⟩),.int .i64 ty] w (ZE (.bool (QG t h ty)) w):=by
 have HV:=hh (fun w' (hk:Kept [] w w')=>ZbH w' R mr v t h ty (hR.kept hk))
 have HC:=hh (fun w' (hk:Kept [] w w')=>ZoI w' v t ty (hR.tab.kept hk))
 have HB:Hid (QG t h ty=(JD t h ty == 3 && ZdQ t ty == 2)):=rfl
 haveI bR:=hR.is
 unfold Zp.cells at HC
 generalize JD t h ty=q at*
 generalize ZdQ t ty=r at*
 clear hR
 go_enter func77,ntmps77
 cases h3:(q == 3)
 ·have HW:Hid (QG t h ty=false):=by rw[Hid,HB.out,h3,Bool.false_and]
  go_wp2_with fail
  refine nxt (HV.out _ kp) fun w1 p_w1=>?_;have hz_w1:=szk w w1
  go_wp2_with fail
  rw[HW.out]
  exact Za rfl (Zj results77 (Zh rfl)) kp
 ·have HW:Hid (QG t h ty=(r == 2)):=by rw[Hid,HB.out,h3,Bool.true_and]
  go_wp2_with fail
  refine nxt (HV.out _ kp) fun w1 p_w1=>?_;have hz_w1:=szk w w1
  go_wp2_with fail
  refine nxt (HC.out _ kp) fun w2 p_w2=>?_;have hz_w2:=szk w w2
  go_wp2_with fail
  rw[HW.out]
  exact Za rfl (Zj results77 (Zh rfl)) kp
theorem ZlD (w:World) (R mr:Nat) (v:Zp) (t:Tab) (h:WhV) (ty:Int) (hR:Qo w R mr v t h):Calls prog 123 #[.pointer (some ⟨R,0,none⟩),.int .i64 ty] w (ZE (.bool (ZaP t h ty)) w):=by
 have HV:=hh (fun w' (hk:Kept [] w w')=>ZbH w' R mr v t h ty (hR.kept hk))
 have HB:Hid (ZaP t h ty=(decide (0≤ty∧ty < (t.types.length:Int)) && !(Ztd t ty && JD t h ty == 7))):=rfl
 have HT:=hh hR.tab
 have q1:=hR.tab.tl
 haveI bR:=hR.is
 generalize JD t h ty=q at*
 clear hR
 by_cases h0:0≤ty
 rotate_left
 ·have HW:Hid (ZaP t h ty=false):=by rw[Hid,HB.out,decide_eq_false (by omega),Bool.false_and]
  have h1:decide (0≤ty)=false:=decide_eq_false h0
  go_enter func123,ntmps123
  go_wp2_with fail
  rw[HW.out]
  exact Za rfl (Zj results123 (Zh rfl)) kp
 by_cases h1:ty < (t.types.length:Int)
 rotate_left
 ·have HW:Hid (ZaP t h ty=false):=by rw[Hid,HB.out,decide_eq_false (by omega),Bool.false_and]
  have h2:decide (ty < (t.types.length:Int))=false:=decide_eq_false h1
  go_enter func123,ntmps123
  go_wp2_with fail
  rw[HW.out]
  exact Za rfl (Zj results123 (Zh rfl)) kp
 obtain⟨n,rfl⟩:=Int.eq_ofNat_of_zero_le h0
 obtain⟨y,b,o,hy,ha,hat,_⟩:=Zbi HT.out (by omega:n < t.types.length)
 have hlim:Ztd t (n:Int)=y.limited:=by simp[Ztd,List.getD_eq_getElem?_getD,hy]
 have HB2:Hid (ZaP t h (n:Int)= !(y.limited && q == 7)):=by rw[Hid,HB.out,decide_eq_true ⟨h0,h1⟩,Bool.true_and,hlim]
 clear HB HT hy hlim h0
 cases hl:y.limited
 ·have HW:Hid (ZaP t h (n:Int)=true):=by rw[Hid,HB2.out,hl];rfl
  clear HB2 HV
  go_enter func123,ntmps123
  go_wp2_with fail
  rw[HW.out]
  exact Za rfl (Zj results123 (Zh rfl)) kp
 ·have HW:Hid (ZaP t h (n:Int)= !(q == 7)):=by rw[Hid,HB2.out,hl,Bool.true_and]
  clear HB2
  go_enter func123,ntmps123
  go_wp2_with fail
  refine nxt (HV.out _ kp) fun w1 p_w1=>?_;have hz_w1:=szk w w1
  go_wp2_with fail
  rw[HW.out]
  exact Za rfl (Zj results123 (Zh rfl)) kp
theorem JO (w:World) (o:Int):Calls prog 124 #[.int .u8 o] w (ZE (.bool (ZN o)) w):=by
 by_cases h:7≤o
 ·have HW:Hid (ZN o=decide (o≤12)):=by rw[Hid,ZN,decide_eq_true h,Bool.true_and]
  go_enter func124,ntmps124
  go_wp2_with fail
  rw[HW.out]
  exact Za rfl (Zj results124 (Zh rfl)) kp
 ·have HW:Hid (ZN o=false):=by rw[Hid,ZN,decide_eq_false h,Bool.false_and]
  have h1:decide (7≤o)=false:=decide_eq_false h
  go_enter func124,ntmps124
  go_wp2_with fail
  rw[HW.out]
  exact Za rfl (Zj results124 (Zh rfl)) kp
def Zri (w:World) (B:Nat) (xs:List Int):Prop:=∀(j:Nat) (x:Int),xs[j]? =some x→w.cell? ⟨B,j,none⟩=some (.int .u8 x)
theorem Zri.kept {w w':World} {B:Nat} {xs:List Int} (h:Zri w B xs) (hk:Kept [] w w'):Zri w' B xs:=fun j x hx=>hk.cell (h j x hx) (by simp)
theorem Zi3 (w:World) (B:Nat) (c:Nat) (xs:List Int) (n:Int) (hm:xs.length≤140737488355328) (hI:Zri w B xs):
 Calls prog 98 #[.slice (some ⟨B,0,none⟩) xs.length c,.int .u8 n] w (ZsU (Zcr xs n) w):=by
 have HI:=hh hI
 clear hI
 go_enter func98,ntmps98
 go_wp2_with fail
 go_loopw [8] (fun i wr=>∃k:Nat,k≤xs.length∧i= .int .i64 k∧Zcr (xs.take k) n=false∧wr=w) (fun i _=>xs.length - (intOf i).toNat)
 case atStart=>exact⟨0,Nat.zero_le _,rfl,rfl,rfl⟩
 case round=>
  obtain⟨k,hk,rfl,hn,rfl⟩:=hrel
  have HN:=hh hn
  clear hn
  by_cases hlt:k < xs.length
  ·obtain⟨x,hx⟩:∃x,xs[k]? =some x:=⟨_,List.getElem?_eq_getElem hlt⟩
   have HS:Hid (Zcr (xs.take (k+1)) n=(n == x)):=by rw[Hid,ZfH hx,HN.out,Bool.false_or]
   have HG:Hid ((n == x)=true→Zcr xs n=true):=Zh8 hx
   have qx:=HI.out k x hx
   clear hx
   cases hq:(n == x)
   ·rw[hq]at HS
    clear HG
    go_wp2_with fail
    go_roundw
    case rel=>exact⟨k+1,by omega,by go_num,HS.out,trivial⟩
    case measure=>simp[intOf];omega
   ·have HG2:=hh (HG.out hq)
    clear HG HS
    go_wp2_with fail
    go_ret
    exact⟨_,rfl,by rw[HG2.out];simp,rfl⟩
  ·obtain rfl:k=xs.length:=by omega
   have HN2:=hh (by have:=HN.out;rw[List.take_length]at this;exact this)
   clear HN
   go_wp2_with fail
   go_ret
   exact⟨_,rfl,by rw[HN2.out];simp,rfl⟩
theorem Zek (w:World) (B c:Nat) (xs:List Int) (n:Int) (hm:xs.length≤140737488355328) (hI:Zri w B xs):
 Calls prog 52 #[.slice (some ⟨B,0,none⟩) xs.length c,.int .u8 n] w (ZE (.bool (Zcr xs n)) w):=by
 have HC:=hh (Zi3 w B c xs n hm hI)
 clear hI
 go_enter func52,ntmps52
 go_wp2_with fail
 refine HC.out.mono ?_
 rintro e w2 ⟨i,rfl,hi,rfl⟩
 have HI:=hh hi
 clear hi HC
 go_wp2_with fail
 go_ret
 rw[HI.out]
 exact⟨rfl,Kept.refl _ _⟩
def Za9 (k:Int):Bool:=Zcr [7,8,15,16] k
theorem Zdd (w:World) (k:Int):Calls prog 108 #[.int .u8 k] w (ZE (.bool (Za9 k)) w):=by
 have HC:=hh (fun w' B (hI:Zri w' B [7,8,15,16])=>Zek w' B 4 [7,8,15,16] k (by simp) hI)
 have HO:Hid (Za9 k=Zcr [7,8,15,16] k):=rfl
 generalize Zcr [7,8,15,16] k=q at*
 simp only[List.length_cons,List.length_nil,Nat.zero_add,Nat.reduceAdd]at HC
 have HS:Hid (Zri (w.alloc (.cells #[.int .u8 7,.int .u8 8,.int .u8 15,.int .u8 16] 66)) w.heap.size [7,8,15,16]):=by
  intro j x hx
  rw[cell_of_row _ _ _ _ _ _ (Zf rfl)]
  match j,hx with
  | 0,hx=>simp at hx;subst hx;rfl
  | 1,hx=>simp at hx;subst hx;rfl
  | 2,hx=>simp at hx;subst hx;rfl
  | 3,hx=>simp at hx;subst hx;rfl
  | n+4,hx=>simp at hx
 go_enter func108,ntmps108
 go_wp2_with fail
 refine nxt (HC.out _ w.heap.size HS.out) fun w1 p_w1=>?_;have hz_w1:=szk w w1
 go_wp2_with fail
 rw[HO.out]
 exact Za rfl (Zj results108 (Zh rfl)) kp
end
end Go.Proofs.YtfaecpkocgcofaaGreatDoor
