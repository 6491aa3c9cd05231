/- Lemmas for ResolveSettles, printed small: S6 X0 X2 E0 K23. -/
import Derived.Test.YtfaecpkocgcofaaGreatDoorZ6
import Derived.Deep.DeepCutAuto
set_option linter.all false
set_option maxRecDepth 100000
set_option maxHeartbeats 8000000
open Go.Proofs.Tryz
namespace Go.Proofs.YtfaecpkocgcofaaGreatDoor
section
open Go.RowKit
def Qc (t:Tab) (x:ExV):Bd×Bool:=
 if Yz x && (Yo (Yn t x.ent) || Zmq (Yn t x.ent))then
  if(Zay t (Yn t x.ent).sub).1.kind=4 then((Qs t (Zay t (Yn t x.ent).sub).1.index).1,(Qs t (Zay t (Yn t x.ent).sub).1.index).2.2 && decide ((Qs t (Zay t (Yn t x.ent).sub).1.index).1.1≤(Qs t (Zay t (Yn t x.ent).sub).1.index).1.2))
  else((0,0),false)
 else((0,0),false)
theorem ZdP {t:Tab} {n:Int} (h:n < 0∨(t.subs.length:Int)≤n):(Zay t n).1=YE:=by
 unfold Zay
 rw[ZdI h]
theorem ZhN {t:Tab} {n:Nat} {s:ZL} (h:t.subs[n]? =some s) (hs:s.t < 0∨(t.types.length:Int)≤s.t):(Zay t (n:Int)).1=YE:=by
 unfold Zay
 rw[Zgr h]
 simp only[ZdF hs]
theorem Zo9 {t:Tab} {n m:Nat} {s:ZL} {y:TyV} (h:t.subs[n]? =some s) (hm:s.t=(m:Int)) (hy:t.types[m]? =some y):Zay t (n:Int)=(y,s,true):=by
 unfold Zay
 rw[Zgr h]
 simp only[hm,ZjZ hy]
theorem ZnI {t:Tab} {x:ExV} (h:(Yz x && (Yo (Yn t x.ent) || Zmq (Yn t x.ent)))=false):Qc t x=((0,0),false):=by
 unfold Qc
 rw[if_neg (by rw[h];simp)]
theorem Zi2 {t:Tab} {x:ExV} (h:(Zay t (Yn t x.ent).sub).1.kind≠4):Qc t x=((0,0),false):=by
 unfold Qc
 rw[if_neg h]
 split <;> rfl
theorem Zk2 {t:Tab} {x:ExV} {y:TyV} (h:(Yz x && (Yo (Yn t x.ent) || Zmq (Yn t x.ent)))=true) (hr:(Zay t (Yn t x.ent).sub).1=y) (hk:y.kind=4):
 Qc t x=((Qs t y.index).1,(Qs t y.index).2.2 && decide ((Qs t y.index).1.1≤(Qs t y.index).1.2)):=by
 unfold Qc
 rw[if_pos h,hr,if_pos hk]
theorem Zk3 (w:World) (v:Zp) (t:Tab) (x:ExV) (hT:Zw w v t):Calls prog 193 #[.agg (v.cells t),.agg x.cells.toArray] w (ZE (bvV (Qc t x)) w):=by
 have HT:=hh hT
 have q1:=hT.sl
 have q2:=hT.tl
 have HC:=hh (fun w' (hk:Kept [] w w')=>YK w' v t x (hT.kept hk))
 have HP:=hh (fun w' m (hk:Kept [] w w')=>ZaA w' v t m (hT.kept hk))
 have HNO:=hh (fun h=>ZnI (t:=t) (x:=x) h)
 have HZ:=hh (fun h=>Zi2 (t:=t) (x:=x) h)
 have HY:=hh (fun y h1 h2 h3=>Zk2 (t:=t) (x:=x) (y:=y) h1 h2 h3)
 unfold Zp.cells at HC HP
 unfold Zp.cells
 clear hT
 go_enter func193,ntmps193
 go_wp2_with fail
 refine nxt (HC.out _ kp) fun w1 p_w1=>?_;have hz_w1:=szk w w1
 clear HC
 generalize Yn t x.ent=y at*
 unfold ZqQ
 go_upto_region 2 with fail
 go_cut [7] (fun v7 wc=>v7= .bool (Zmq y)∧wc=w1.alloc (.cells y.cells.toArray 95))
 case first=>
  have HO:Hid (Zmq y=(y.kind == 7 || y.kind == 8 || y.kind == 15)):=rfl
  cases e7:(y.kind == 7)
  ·cases e8:(y.kind == 8)
   ·rw[e7,e8]at HO
    go_wp2_with fail
    go_meet
    exact⟨by rw[HO.out];rfl,rfl⟩
   ·rw[e7,e8]at HO
    go_wp2_with fail
    go_meet
    exact⟨by rw[HO.out];rfl,rfl⟩
  ·rw[e7]at HO
   go_wp2_with fail
   go_meet
   exact⟨by rw[HO.out];rfl,rfl⟩
 case rest=>
  obtain⟨rfl,rfl⟩:=hcut
  go_wp2_with fail
  refine nxt (Zfv _ _) fun w2 p_w2=>?_;have hz_w2:=szk w w2
  cases hn:Yz x
  ·have HW:Hid (Qc t x=((0,0),false)):=HNO.out (by rw[hn];rfl)
   clear hn HP HNO HZ HY
   go_wp2_with fail
   rw[HW.out]
   exact Za rfl (Qm results193 (Z0 rfl inferInstance) (Zh rfl)) kp
  rw[hn]at HNO HY
  clear hn
  go_wp2_with fail
  refine nxt (Zb2 _ _) fun w3 p_w3=>?_;have hz_w3:=szk w w3
  cases ht:Yo y
  ·cases ho:Zmq y
   ·have HW:Hid (Qc t x=((0,0),false)):=HNO.out (by rw[ht,ho];rfl)
    clear HP HNO HZ HY
    go_wp2_with fail
    rw[HW.out]
    exact Za rfl (Qm results193 (Z0 rfl inferInstance) (Zh rfl)) kp
   ·have HTO:Hid ((Yo y || Zmq y)=true):=by rw[Hid,ht,ho];rfl
    by_cases h0:y.sub < 0
    ·have HW:Hid (Qc t x=((0,0),false)):=HZ.out (by rw[ZdP (.inl h0)];simp[YE,TyV.kind])
     clear HP HNO HZ HY HT
     go_wp2_with fail
     rw[HW.out]
     exact Za rfl (Qm results193 (Z0 rfl inferInstance) (Zh rfl)) kp
    obtain⟨n,hn⟩:=Int.eq_ofNat_of_zero_le (by omega:0≤y.sub)
    by_cases h1:t.subs.length≤n
    ·have HW:Hid (Qc t x=((0,0),false)):=HZ.out (by rw[ZdP (.inr (by omega))];simp[YE,TyV.kind])
     have h2:(t.subs.length:Int)≤y.sub:=by omega
     clear HP HNO HZ HY HT hn
     go_wp2_with fail
     rw[HW.out]
     exact Za rfl (Qm results193 (Z0 rfl inferInstance) (Zh rfl)) kp
    obtain⟨s,bs,os,hs,ha,hat,_⟩:=Zb4 (HT.out.kept (w':=w3) kp) (by omega:n < t.subs.length)
    have h2:(n:Int) < (t.subs.length:Int):=by omega
    rw[hn]at HZ HY
    rw[ha]at HP
    by_cases h3:s.t < 0
    ·have HW:Hid (Qc t x=((0,0),false)):=HZ.out (by rw[ZhN hs (.inl h3)];simp[YE,TyV.kind])
     clear HP HNO HZ HY HT hs
     go_wp2_with fail
     rw[HW.out]
     exact Za rfl (Qm results193 (Z0 rfl inferInstance) (Zh rfl)) kp
    obtain⟨m,hm⟩:=Int.eq_ofNat_of_zero_le (by omega:0≤s.t)
    by_cases h4:t.types.length≤m
    ·have HW:Hid (Qc t x=((0,0),false)):=HZ.out (by rw[ZhN hs (.inr (by omega))];simp[YE,TyV.kind])
     have h5:(t.types.length:Int)≤s.t:=by omega
     clear HP HNO HZ HY HT hs hm
     go_wp2_with fail
     rw[HW.out]
     exact Za rfl (Qm results193 (Z0 rfl inferInstance) (Zh rfl)) kp
    obtain⟨z,bt,ot,hz,hta,hat2,_⟩:=Zbi (HT.out.kept (w':=w3) kp) (by omega:m < t.types.length)
    have HA2:=hh ha
    have h5:(m:Int) < (t.types.length:Int):=by omega
    have HR:Hid ((Zay t (n:Int)).1=z):=by rw[Hid,Zo9 hs hm hz]
    rw[hta]at HP
    clear hs hz
    by_cases hk:z.kind=4
    rotate_left
    ·have HW:Hid (Qc t x=((0,0),false)):=HZ.out (by rw[HR.out];exact hk)
     have hk2:(z.kind != 4)=true:=by simp[hk]
     clear HP HNO HZ HY HT hk HR
     go_wp2_with fail
     rw[HW.out]
     exact Za rfl (Qm results193 (Z0 rfl inferInstance) (Zh rfl)) kp
    have HW:=hh (HY.out z (by rw[HTO.out];rfl) HR.out hk)
    clear HNO HZ HY HT HR
    go_wp2_with fail
    unfold pvV at HP
    refine Ze 13 2 (fun _=> .cells #[.int .i64 0,.int .i64 0] 150) (by kernel_rfl) (by kernel_rfl) (fun i o h1 h2 h3=>by obtain rfl | rfl:i=13∨i=14:=(by omega);all_goals(obtain rfl:=Option.some.inj h3;exact Zab rfl rfl Tryz.zeroBd)) (fun _ _ _ _ _ h=>h) ?_;apply Exists.intro;refine⟨fun U hU hN=>?_,?_⟩;simp only[List.take_succ_cons,List.take_zero]
    ·repeat(go_big_quiet_step (exact Calls.headV hU (HP.out _ _ (Kept.trans kp (Zs.prop _)))))
     refine wpQuiet_nil ?_
     exact rfl
    simp only[List.drop_succ_cons,List.drop_zero,List.take_succ_cons,List.take_zero]
    intro B1 hB1 _ B2 hB2 hne w4 hk4 hh
    haveI p_w4:Zb w4 w3:=⟨hk4⟩
    haveI bx1:Zc w4 B1 150 #[.int .i64 0,.int .i64 0]:=Q8 hh (by simp)
    haveI bx2:Zc w4 B2 150 #[.int .i64 0,.int .i64 0]:=Q8 hh (by simp)
    have hne2:=ZdW hne
    haveI ap1:Qf B1 B2:=⟨hne2⟩
    haveI ap2:Qf B2 B1:=⟨hne2.symm⟩
    have hlt:w.heap.size+1+1 < w3.heap.size:=Zc.lt (w:=w3) (by infer_instance)
    haveI l1:LtB (w.heap.size+1+1) B1:=⟨by omega⟩
    haveI l2:LtB (w.heap.size+1+1) B2:=⟨by omega⟩
    clear hk4 hh hne
    generalize Qs t z.index=r at*
    go_wp2_with fail
    cases hr:r.2.2
    ·rw[hr]at HW
     clear HP
     go_region
     go_wp2_with fail
     rw[HW.out]
     exact Za rfl (Qm results193 (Z0 rfl inferInstance) (Zh rfl)) kp
    rw[hr]at HW
    clear HP
    go_region
    go_wp2_with fail
    rw[HW.out]
    exact Za rfl (Qm results193 (Z0 rfl inferInstance) (Zh rfl)) kp
  ·have HTO:Hid ((Yo y || Zmq y)=true):=by rw[Hid,ht];rfl
   by_cases h0:y.sub < 0
   ·have HW:Hid (Qc t x=((0,0),false)):=HZ.out (by rw[ZdP (.inl h0)];simp[YE,TyV.kind])
    clear HP HNO HZ HY HT
    go_wp2_with fail
    rw[HW.out]
    exact Za rfl (Qm results193 (Z0 rfl inferInstance) (Zh rfl)) kp
   obtain⟨n,hn⟩:=Int.eq_ofNat_of_zero_le (by omega:0≤y.sub)
   by_cases h1:t.subs.length≤n
   ·have HW:Hid (Qc t x=((0,0),false)):=HZ.out (by rw[ZdP (.inr (by omega))];simp[YE,TyV.kind])
    have h2:(t.subs.length:Int)≤y.sub:=by omega
    clear HP HNO HZ HY HT hn
    go_wp2_with fail
    rw[HW.out]
    exact Za rfl (Qm results193 (Z0 rfl inferInstance) (Zh rfl)) kp
   obtain⟨s,bs,os,hs,ha,hat,_⟩:=Zb4 (HT.out.kept (w':=w3) kp) (by omega:n < t.subs.length)
   have h2:(n:Int) < (t.subs.length:Int):=by omega
   rw[hn]at HZ HY
   rw[ha]at HP
   by_cases h3:s.t < 0
   ·have HW:Hid (Qc t x=((0,0),false)):=HZ.out (by rw[ZhN hs (.inl h3)];simp[YE,TyV.kind])
    clear HP HNO HZ HY HT hs
    go_wp2_with fail
    rw[HW.out]
    exact Za rfl (Qm results193 (Z0 rfl inferInstance) (Zh rfl)) kp
   obtain⟨m,hm⟩:=Int.eq_ofNat_of_zero_le (by omega:0≤s.t)
   by_cases h4:t.types.length≤m
   ·have HW:Hid (Qc t x=((0,0),false)):=HZ.out (by rw[ZhN hs (.inr (by omega))];simp[YE,TyV.kind])
    have h5:(t.types.length:Int)≤s.t:=by omega
    clear HP HNO HZ HY HT hs hm
    go_wp2_with fail
    rw[HW.out]
    exact Za rfl (Qm results193 (Z0 rfl inferInstance) (Zh rfl)) kp
   obtain⟨z,bt,ot,hz,hta,hat2,_⟩:=Zbi (HT.out.kept (w':=w3) kp) (by omega:m < t.types.length)
   have HA2:=hh ha
   have h5:(m:Int) < (t.types.length:Int):=by omega
   have HR:Hid ((Zay t (n:Int)).1=z):=by rw[Hid,Zo9 hs hm hz]
   rw[hta]at HP
   clear hs hz
   by_cases hk:z.kind=4
   rotate_left
   ·have HW:Hid (Qc t x=((0,0),false)):=HZ.out (by rw[HR.out];exact hk)
    have hk2:(z.kind != 4)=true:=by simp[hk]
    clear HP HNO HZ HY HT hk HR
    go_wp2_with fail
    rw[HW.out]
    exact Za rfl (Qm results193 (Z0 rfl inferInstance) (Zh rfl)) kp
   have HW:=hh (HY.out z (by rw[HTO.out];rfl) HR.out hk)
   clear HNO HZ HY HT HR
   go_wp2_with fail
   unfold pvV at HP
   refine Ze 13 2 (fun _=> .cells #[.int .i64 0,.int .i64 0] 150) (by kernel_rfl) (by kernel_rfl) (fun i o h1 h2 h3=>by obtain rfl | rfl:i=13∨i=14:=(by omega);all_goals(obtain rfl:=Option.some.inj h3;exact Zab rfl rfl Tryz.zeroBd)) (fun _ _ _ _ _ h=>h) ?_;apply Exists.intro;refine⟨fun U hU hN=>?_,?_⟩;simp only[List.take_succ_cons,List.take_zero]
   ·repeat(go_big_quiet_step (exact Calls.headV hU (HP.out _ _ (Kept.trans kp (Zs.prop _)))))
    refine wpQuiet_nil ?_
    exact rfl
   simp only[List.drop_succ_cons,List.drop_zero,List.take_succ_cons,List.take_zero]
   intro B1 hB1 _ B2 hB2 hne w4 hk4 hh
   haveI p_w4:Zb w4 w3:=⟨hk4⟩
   haveI bx1:Zc w4 B1 150 #[.int .i64 0,.int .i64 0]:=Q8 hh (by simp)
   haveI bx2:Zc w4 B2 150 #[.int .i64 0,.int .i64 0]:=Q8 hh (by simp)
   have hne2:=ZdW hne
   haveI ap1:Qf B1 B2:=⟨hne2⟩
   haveI ap2:Qf B2 B1:=⟨hne2.symm⟩
   have hlt:w.heap.size+1+1 < w3.heap.size:=Zc.lt (w:=w3) (by infer_instance)
   haveI l1:LtB (w.heap.size+1+1) B1:=⟨by omega⟩
   haveI l2:LtB (w.heap.size+1+1) B2:=⟨by omega⟩
   clear hk4 hh hne
   generalize Qs t z.index=r at*
   go_wp2_with fail
   cases hr:r.2.2
   ·rw[hr]at HW
    clear HP
    go_region
    go_wp2_with fail
    rw[HW.out]
    exact Za rfl (Qm results193 (Z0 rfl inferInstance) (Zh rfl)) kp
   rw[hr]at HW
   clear HP
   go_region
   go_wp2_with fail
   rw[HW.out]
   exact Za rfl (Qm results193 (Z0 rfl inferInstance) (Zh rfl)) kp
def Zaz (v:Zp) (t:Tab) (h:WhV) (mr:Nat):Array Value:=#[.slice v.ta t.types.length v.tc,.slice v.sa t.subs.length v.sc,.slice v.ea t.ents.length v.ec,.slice v.ga v.gn v.gc,.slice v.ia v.im v.ic,.int .i64 h.region,.int .i64 h.after,.slice h.ua h.units.length h.uc,.slice h.sa h.uses.length h.sc,.map (some mr)]
section
variable (v:Zp) (t:Tab) (h:WhV) (mr:Nat)
@[go_sem] theorem ZtS:(Zaz v t h mr)[0]? =some (.slice v.ta t.types.length v.tc):=rfl
@[go_sem] theorem ZtR:(Zaz v t h mr)[1]? =some (.slice v.sa t.subs.length v.sc):=rfl
@[go_sem] theorem ZtQ:(Zaz v t h mr)[2]? =some (.slice v.ea t.ents.length v.ec):=rfl
@[go_sem] theorem ZtP:(Zaz v t h mr)[3]? =some (.slice v.ga v.gn v.gc):=rfl
@[go_sem] theorem ZtO:(Zaz v t h mr)[4]? =some (.slice v.ia v.im v.ic):=rfl
@[go_sem] theorem ZtN:(Zaz v t h mr)[5]? =some (.int .i64 h.region):=rfl
@[go_sem] theorem ZtM:(Zaz v t h mr)[6]? =some (.int .i64 h.after):=rfl
@[go_sem] theorem ZtL:(Zaz v t h mr)[7]? =some (.slice h.ua h.units.length h.uc):=rfl
@[go_sem] theorem ZtK:(Zaz v t h mr)[8]? =some (.slice h.sa h.uses.length h.sc):=rfl
@[go_sem] theorem ZtJ:(Zaz v t h mr)[9]? =some (.map (some mr)):=rfl
end
def Zfy (f R:Nat):Value:= .func (.func f) #[.pointer (some ⟨R,0,none⟩)] #[]
def Zh5 (R:Nat):Array MapEntry:=#[⟨.int .u8 1,Zfy 57 R,0⟩,⟨.int .u8 2,Zfy 58 R,1⟩,⟨.int .u8 3,Zfy 59 R,2⟩,⟨.int .u8 4,Zfy 60 R,3⟩,⟨.int .u8 5,Zfy 61 R,4⟩,
 ⟨.int .u8 6,Zfy 62 R,5⟩,⟨.int .u8 7,Zfy 63 R,6⟩,⟨.int .u8 8,Zfy 64 R,7⟩,⟨.int .u8 10,Zfy 65 R,8⟩,⟨.int .u8 11,Zfy 66 R,9⟩,
 ⟨.int .u8 12,Zfy 67 R,10⟩,⟨.int .u8 13,Zfy 68 R,11⟩,⟨.int .u8 14,Zfy 68 R,12⟩]
structure Qo (w:World) (R mr:Nat) (v:Zp) (t:Tab) (h:WhV):Prop where
 box:w.heap[R]? =some (.cells (Zaz v t h mr) 131 (0,0))
 map:w.heap[mr]? =some (.map (Zh5 R) 13)
 tab:Zw w v t
 wh:ZmB w h
theorem Qo.kept {w w':World} {R mr:Nat} {v:Zp} {t:Tab} {h:WhV} (hr:Qo w R mr v t h) (hk:Kept [] w w'):Qo w' R mr v t h:=
 ⟨hk.obj hr.box (by simp),hk.obj hr.map (by simp),hr.tab.kept hk,hr.wh.kept hk⟩
theorem Qo.is {w:World} {R mr:Nat} {v:Zp} {t:Tab} {h:WhV} (hr:Qo w R mr v t h):Zc w R 131 (Zaz v t h mr):=⟨hr.box⟩
structure MeV where
 t:Int
 n:Int
 obj:Bool
 e:ExV
deriving Inhabited
def MeV.cells (m:MeV):List Value:= .int .i64 m.t:: .int .i64 m.n:: .bool m.obj::m.e.cells
theorem MeV.len (m:MeV):m.cells.length=12:=rfl
theorem MeV.one (m:MeV):m.cells.toArray.all (·.oneCell')=true:=by simp[MeV.cells,ExV.cells,Value.oneCell']
theorem Zr6 (x:MeV):x.cells.toArray.all (·.oneCell')=true:=x.one
def Zg:ExV:= .mk 0 0 0 ⟨#[]⟩ none 0 [] none 0 [] 0 0 0
def zeroMe:MeV:=⟨0,0,false,Zg⟩
theorem ZkA (x:AsV):(AsV.cells x).toArray.all (·.oneCell')=true:=by simp[AsV.cells,ExV.cells,Value.oneCell']
def ZoP:AsV:=(none,[],0,Zg)
def ZjB:Zd:=⟨⟨#[]⟩,0,0,Zg,0⟩
theorem Tryz.infoMe (x:MeV):(prog.info? 114).map (·.size)=some (MeV.cells x).length:=by
 show _=some 12
 kernel_rfl
@[go_sem] theorem Zvh (x:MeV):(MeV.cells x).length=12:=rfl
class Zbt (w:World) (b o:Nat) (x:outParam MeV):Prop where
 range:w.rangeAt b o (MeV.cells x)
theorem Zbt.kept {w w':World} {b o:Nat} {x:MeV} (h:Zbt w b o x) (hk:Kept [] w w'):Zbt w' b o x:=⟨fun j u hu=>hk.cell (h.range j u hu) (by simp)⟩
instance (w:World) (b o:Nat) (x:MeV) (ob:Obj) [h:Zbt w b o x]:Zbt (w.alloc ob) b o x:=⟨World.rangeAt_alloc h.range ob⟩
instance (w:World) (b o:Nat) (x:MeV) [h:Zbt w b o x]:Zbt w.drew b o x:=⟨by simpa using h.range⟩
instance (w:World) (b o:Nat) (x:MeV) (z:Qr w) [h:Zbt w b o x]:Zbt z.1 b o x:=h.kept z.2
instance (w:World) (U:World→Prop) (b o:Nat) (x:MeV) (z:Zs w U) [h:Zbt w b o x]:Zbt z.1 b o x:=h.kept z.2.1
instance (w' w:World) (b o:Nat) (x:MeV) [p:Zb w' w] [h:Zbt w b o x]:Zbt w' b o x:=h.kept p.kept
instance (w:World) (b o D:Nat) (x:MeV) (cs:Array Value) [h:Zbt w b o x] [a:Qf D b]:Zbt (w.setRow D cs) b o x:=⟨QB h.range D cs a.ne⟩
instance (w:World) (B:Nat) (x:MeV) [h:Zc w B 114 (MeV.cells x).toArray]:Zbt w B 0 x:=⟨ZR h.has⟩
instance (w:World) (B:Nat) [h:Zc w B 114 #[.int .i64 0,.int .i64 0,.bool false,.int .u8 0,.int .u8 0,.int .i64 0,.string ⟨#[]⟩,.slice none 0 0,.slice none 0 0,.int .i64 0,.int .i64 0,.int .i64 0]]:Zbt w B 0 zeroMe:=⟨ZR (l:=MeV.cells zeroMe) h.has⟩
def ZkT (v:Value):Sem Next:=do return .value (←Instr.loadAt 114 v)
@[go_sem ↓] theorem Zn1 (ρ:Operand→Value) (dst:Option Tmp) (x:Operand) (ty:TypeId) (pos:String) (after:Array Edge) (guard:Option (Nat×Bool)):
 execOp ρ {dst,op:= .load 114 x,type:=ty,pos,after,guard}=ZkT (ρ x):=rfl
@[go_sem] theorem Zrp (w:World) (b o:Nat) (x:MeV) [h:Zbt w b o x]:Sem.run prog (ZkT (.pointer (some ⟨b,o,none⟩))) w= .ok (.value (.agg (MeV.cells x).toArray)) w:=by
 simp only[ZkT,Instr.loadAt,Instr.sureAddr,Sem.run_bind,Sem.run_pure,Result.andThen_ok,run_loadVar_mid w b o 114 (MeV.cells x) _ h.range underlying114 rfl (Tryz.infoMe x)]
instance (w:World) (B o:Nat) (x:MeV) [h:Zbt w B o x]:Ya w 114 ⟨B,o,none⟩ (.agg (MeV.cells x).toArray):=⟨run_loadVar_mid w B o 114 (MeV.cells x) _ h.range underlying114 rfl (Tryz.infoMe x)⟩
@[go_sem high] theorem Tryz.storeMe (x:MeV) (w:World) (k:Nat) (hk:k=w.heap.size):Sem.run prog (storeCells ⟨k,0,none⟩ (MeV.cells x))
 (w.alloc (.cells #[.int .i64 0,.int .i64 0,.bool false,.int .u8 0,.int .u8 0,.int .i64 0,.string ⟨#[]⟩,.slice none 0 0,.slice none 0 0,.int .i64 0,.int .i64 0,.int .i64 0] 114))= .ok () (w.alloc (.cells (MeV.cells x).toArray 114)):=by
 subst hk
 exact run_storeCells_new w 114 _ (MeV.cells x).toArray (by simpa using Tryz.infoMe x) rfl (Zr6 x)
@[go_sem high] theorem Tryz.storeMed (x:MeV) (w:World) (k:Nat) (hk:k=w.heap.size):Sem.run prog (storeCells ⟨k,0,none⟩ (MeV.cells x))
 (w.alloc (.cells #[.int .i64 0,.int .i64 0,.bool false,.int .u8 0,.int .u8 0,.int .i64 0,.string ⟨#[]⟩,.slice none 0 0,.slice none 0 0,.int .i64 0,.int .i64 0,.int .i64 0] 114)).drew= .ok () (w.alloc (.cells (MeV.cells x).toArray 114)).drew:=
 Tryz.storeMe x w.drew k (by simpa using hk)
instance (w:World) (B:Nat) (x:MeV) [h:Zc w B 114 (MeV.cells x).toArray]:QW 114 12 w B:=⟨⟨_,h.has,rfl⟩⟩
instance (w:World) (B:Nat) (a0 a1 a2 a3 a4 a5 a6 a7 a8 a9 a10 a11:Value) [h:Zc w B 114 #[a0,a1,a2,a3,a4,a5,a6,a7,a8,a9,a10,a11]]:QW 114 12 w B:=⟨⟨_,h.has,rfl⟩⟩
@[go_sem] theorem Tryz.storeMeBox (x:MeV) (w:World) (B:Nat) [h:QW 114 12 w B]:Sem.run prog (storeCells ⟨B,0,none⟩ (MeV.cells x)) w= .ok () (w.setRow B (MeV.cells x).toArray):=by
 obtain⟨c,hc,hs⟩:=h.has
 have:=run_storeVar_row (P:=prog) w B 114 114 c (MeV.cells x).toArray hc (by simpa using Tryz.infoMe x) (by rw[hs];rfl) (Zr6 x)
 cases hq:prog.info? 114 with
 | none=>have h1:=Tryz.infoMe x;rw[hq]at h1;cases h1
 | some i=>
  have hsz:(MeV.cells x).toArray.size=i.size:=by have:=Tryz.infoMe x;simp[hq]at this;simp;omega
  simpa [storeVar,sizeOf,typeInfo,hq,Value.cells,hsz]using this
theorem Tryz.zeroMe (w:World):(zeroValue 114).run prog w= .ok (.agg (MeV.cells zeroMe).toArray) w:=by kernel_rfl
theorem Tryz.infoAsc (x:AsV):(prog.info? 63).map (·.size)=some (AsV.cells x).length:=by
 show _=some 10
 kernel_rfl
@[go_sem] theorem ZuZ (x:AsV):(AsV.cells x).length=10:=rfl
class QH (w:World) (b o:Nat) (x:outParam AsV):Prop where
 range:w.rangeAt b o (AsV.cells x)
theorem QH.kept {w w':World} {b o:Nat} {x:AsV} (h:QH w b o x) (hk:Kept [] w w'):QH w' b o x:=⟨fun j u hu=>hk.cell (h.range j u hu) (by simp)⟩
instance (w:World) (b o:Nat) (x:AsV) (ob:Obj) [h:QH w b o x]:QH (w.alloc ob) b o x:=⟨World.rangeAt_alloc h.range ob⟩
instance (w:World) (b o:Nat) (x:AsV) [h:QH w b o x]:QH w.drew b o x:=⟨by simpa using h.range⟩
instance (w:World) (b o:Nat) (x:AsV) (z:Qr w) [h:QH w b o x]:QH z.1 b o x:=h.kept z.2
instance (w:World) (U:World→Prop) (b o:Nat) (x:AsV) (z:Zs w U) [h:QH w b o x]:QH z.1 b o x:=h.kept z.2.1
instance (w' w:World) (b o:Nat) (x:AsV) [p:Zb w' w] [h:QH w b o x]:QH w' b o x:=h.kept p.kept
instance (w:World) (b o D:Nat) (x:AsV) (cs:Array Value) [h:QH w b o x] [a:Qf D b]:QH (w.setRow D cs) b o x:=⟨QB h.range D cs a.ne⟩
instance (w:World) (B:Nat) (x:AsV) [h:Zc w B 63 (AsV.cells x).toArray]:QH w B 0 x:=⟨ZR h.has⟩
instance (w:World) (B:Nat) [h:Zc w B 63 #[.slice none 0 0,.int .u8 0,.int .u8 0,.int .i64 0,.string ⟨#[]⟩,.slice none 0 0,.slice none 0 0,.int .i64 0,.int .i64 0,.int .i64 0]]:QH w B 0 ZoP:=⟨ZR (l:=AsV.cells ZoP) h.has⟩
def Zg2 (v:Value):Sem Next:=do return .value (←Instr.loadAt 63 v)
@[go_sem ↓] theorem Zmx (ρ:Operand→Value) (dst:Option Tmp) (x:Operand) (ty:TypeId) (pos:String) (after:Array Edge) (guard:Option (Nat×Bool)):
 execOp ρ {dst,op:= .load 63 x,type:=ty,pos,after,guard}=Zg2 (ρ x):=rfl
@[go_sem] theorem ZpV (w:World) (b o:Nat) (x:AsV) [h:QH w b o x]:Sem.run prog (Zg2 (.pointer (some ⟨b,o,none⟩))) w= .ok (.value (.agg (AsV.cells x).toArray)) w:=by
 simp only[Zg2,Instr.loadAt,Instr.sureAddr,Sem.run_bind,Sem.run_pure,Result.andThen_ok,run_loadVar_mid w b o 63 (AsV.cells x) _ h.range underlying63 rfl (Tryz.infoAsc x)]
instance (w:World) (B o:Nat) (x:AsV) [h:QH w B o x]:Ya w 63 ⟨B,o,none⟩ (.agg (AsV.cells x).toArray):=⟨run_loadVar_mid w B o 63 (AsV.cells x) _ h.range underlying63 rfl (Tryz.infoAsc x)⟩
@[go_sem high] theorem Tryz.storeAsc (x:AsV) (w:World) (k:Nat) (hk:k=w.heap.size):Sem.run prog (storeCells ⟨k,0,none⟩ (AsV.cells x))
 (w.alloc (.cells #[.slice none 0 0,.int .u8 0,.int .u8 0,.int .i64 0,.string ⟨#[]⟩,.slice none 0 0,.slice none 0 0,.int .i64 0,.int .i64 0,.int .i64 0] 63))= .ok () (w.alloc (.cells (AsV.cells x).toArray 63)):=by
 subst hk
 exact run_storeCells_new w 63 _ (AsV.cells x).toArray (by simpa using Tryz.infoAsc x) rfl (ZkA x)
@[go_sem high] theorem Tryz.storeAscd (x:AsV) (w:World) (k:Nat) (hk:k=w.heap.size):Sem.run prog (storeCells ⟨k,0,none⟩ (AsV.cells x))
 (w.alloc (.cells #[.slice none 0 0,.int .u8 0,.int .u8 0,.int .i64 0,.string ⟨#[]⟩,.slice none 0 0,.slice none 0 0,.int .i64 0,.int .i64 0,.int .i64 0] 63)).drew= .ok () (w.alloc (.cells (AsV.cells x).toArray 63)).drew:=
 Tryz.storeAsc x w.drew k (by simpa using hk)
instance (w:World) (B:Nat) (x:AsV) [h:Zc w B 63 (AsV.cells x).toArray]:QW 63 10 w B:=⟨⟨_,h.has,rfl⟩⟩
instance (w:World) (B:Nat) (a0 a1 a2 a3 a4 a5 a6 a7 a8 a9:Value) [h:Zc w B 63 #[a0,a1,a2,a3,a4,a5,a6,a7,a8,a9]]:QW 63 10 w B:=⟨⟨_,h.has,rfl⟩⟩
@[go_sem] theorem Tryz.storeAscBox (x:AsV) (w:World) (B:Nat) [h:QW 63 10 w B]:Sem.run prog (storeCells ⟨B,0,none⟩ (AsV.cells x)) w= .ok () (w.setRow B (AsV.cells x).toArray):=by
 obtain⟨c,hc,hs⟩:=h.has
 have:=run_storeVar_row (P:=prog) w B 63 63 c (AsV.cells x).toArray hc (by simpa using Tryz.infoAsc x) (by rw[hs];rfl) (ZkA x)
 cases hq:prog.info? 63 with
 | none=>have h1:=Tryz.infoAsc x;rw[hq]at h1;cases h1
 | some i=>
  have hsz:(AsV.cells x).toArray.size=i.size:=by have:=Tryz.infoAsc x;simp[hq]at this;simp;omega
  simpa [storeVar,sizeOf,typeInfo,hq,Value.cells,hsz]using this
instance (w:World) (B:Nat) (x:ExV) [h:Zc w B 41 x.cells.toArray]:QW 41 9 w B:=⟨⟨_,h.has,rfl⟩⟩
instance (w:World) (B:Nat) (a0 a1 a2 a3 a4 a5 a6 a7 a8:Value) [h:Zc w B 41 #[a0,a1,a2,a3,a4,a5,a6,a7,a8]]:QW 41 9 w B:=⟨⟨_,h.has,rfl⟩⟩
instance (w:World) (B:Nat) [h:Zc w B 41 #[.int .u8 0,.int .u8 0,.int .i64 0,.string ⟨#[]⟩,.slice none 0 0,.slice none 0 0,.int .i64 0,.int .i64 0,.int .i64 0]]:Q1 w B 0 Zg:=⟨ZR (l:=Zg.cells) h.has⟩
@[go_sem] theorem Tryz.storeExBox (x:ExV) (w:World) (B:Nat) [h:QW 41 9 w B]:Sem.run prog (storeCells ⟨B,0,none⟩ x.cells) w= .ok () (w.setRow B x.cells.toArray):=by
 obtain⟨c,hc,hs⟩:=h.has
 have:=run_storeVar_row (P:=prog) w B 41 41 c x.cells.toArray hc (by simpa using Tryz.infoEx x) (by rw[hs];rfl) x.one
 cases hq:prog.info? 41 with
 | none=>have h1:=Tryz.infoEx x;rw[hq]at h1;cases h1
 | some i=>
  have hsz:x.cells.toArray.size=i.size:=by have:=Tryz.infoEx x;simp[hq]at this;simp;omega
  simpa [storeVar,sizeOf,typeInfo,hq,Value.cells,hsz]using this
@[go_sem] theorem MeV.c0 (y:MeV) (h:0 < y.cells.length):y.cells[0]'h=(.int .i64 y.t):=rfl
@[go_sem] theorem MeV.c1 (y:MeV) (h:1 < y.cells.length):y.cells[1]'h=(.int .i64 y.n):=rfl
@[go_sem] theorem MeV.c2 (y:MeV) (h:2 < y.cells.length):y.cells[2]'h=(.bool y.obj):=rfl
instance (w:World) (B o:Nat) (x:MeV) [h:Zbt w B o x]:Q1 w B (o+3) x.e:=⟨fun j u hu=>by
 have:=h.range (j+3) u (by simpa [MeV.cells]using hu)
 rwa [show o+(j+3)=o+3+j by omega]at this⟩
mutual
def ExV.er:ExV→ExV
 | .mk kind oper n s _ _ ls _ _ al line ent t=> .mk kind oper n s none 0 (erL ls) none 0 (erA al) line ent t
def erL:List ExV→List ExV
 | []=>[]
 | x::r=>x.er::erL r
def erC:List ChV→List ChV
 | []=>[]
 | (k,_,_,l)::r=>(k,none,0,erL l)::erC r
def erA:List AsV→List AsV
 | []=>[]
 | (_,c,_,x)::r=>(none,erC c,0,x.er)::erA r
end
theorem Zhm:∀l,erL l=l.map ExV.er
 | []=>by simp[erL]
 | x::r=>by rw[erL,Zhm r,List.map_cons]
def ChV.er (c:ChV):ChV:=(c.1,none,0,c.2.2.2.map ExV.er)
def AsV.er (a:AsV):AsV:=(none,a.2.1.map ChV.er,0,a.2.2.2.er)
theorem ZlB:∀l,erC l=l.map ChV.er
 | []=>by simp[erC]
 | (k,a,c,l)::r=>by rw[erC,ZlB r,List.map_cons,Zhm];rfl
theorem ZlC:∀l,erA l=l.map AsV.er
 | []=>by simp[erA]
 | (a,c,k,x)::r=>by rw[erA,ZlC r,List.map_cons,ZlB];rfl
theorem ExV.er_mk (kind oper n:Int) (s:ByteArray) (la:Option Addr) (lc:Nat) (ls:List ExV) (aa:Option Addr) (ac:Nat) (al:List AsV) (line ent t:Int):
 (ExV.mk kind oper n s la lc ls aa ac al line ent t).er= .mk kind oper n s none 0 (ls.map ExV.er) none 0 (al.map AsV.er) line ent t:=by rw[ExV.er,Zhm,ZlC]
theorem ExV.er_kind (x:ExV):x.er.kind=x.kind:=by cases x;rw[er_mk];rfl
theorem ExV.er_oper (x:ExV):x.er.oper=x.oper:=by cases x;rw[er_mk];rfl
theorem ExV.er_n (x:ExV):x.er.n=x.n:=by cases x;rw[er_mk];rfl
theorem ExV.er_s (x:ExV):x.er.s=x.s:=by cases x;rw[er_mk];rfl
theorem ExV.er_ls (x:ExV):x.er.ls=x.ls.map ExV.er:=by cases x;rw[er_mk];rfl
theorem ExV.er_al (x:ExV):x.er.al=x.al.map AsV.er:=by cases x;rw[er_mk];rfl
theorem ExV.er_line (x:ExV):x.er.line=x.line:=by cases x;rw[er_mk];rfl
theorem ExV.er_ent (x:ExV):x.er.ent=x.ent:=by cases x;rw[er_mk];rfl
theorem ExV.er_t (x:ExV):x.er.t=x.t:=by cases x;rw[er_mk];rfl
theorem YD:Zg.er=Zg:=by unfold Zg;rw[ExV.er_mk];rfl
def MeV.er (m:MeV):MeV:=⟨m.t,m.n,m.obj,m.e.er⟩
theorem ZhC (w:World):Qe w 1 Zg:=⟨.inl rfl,fun y hy=>by simp[Zg,ExV.ls]at hy,.inl rfl,fun y hy=>by simp[Zg,ExV.al]at hy,by simp[Zg,ExV.ls],by simp[Zg,ExV.al],by decide,by decide,fun y hy=>by simp[Zg,ExV.al]at hy⟩
theorem ZbU (X:List Nat) (w:World):ExK X w 1 Zg:=fun w' _=>ZhC w'
def St (X:List Nat) (w:World) (p:World→Prop):Prop:=∀w',Kept X w w'→p w'
theorem St.here {X:List Nat} {w:World} {p:World→Prop} (h:St X w p):p w:=h w (Kept.refl _ _)
theorem St.kept {X:List Nat} {w w':World} {p:World→Prop} (h:St X w p) (hk:Kept [] w w'):St X w' p:=fun _ h2=>h _ ((hk.mono (by simp)).trans h2)
theorem Kept.later {X Y:List Nat} {a b c:World} (h:Kept [] a b) (k:Kept Y b c) (hY:∀q,q∈Y→q∈X∨a.heap.size≤q):Kept X a c:=
 ⟨k.os.trans h.os,k.tape.trans h.tape,k.output.trans h.output,Nat.le_trans h.size k.size,fun i hi hx=>(k.block i (Nat.lt_of_lt_of_le hi h.size) (fun hm=>by rcases hY i hm with h1 | h1;exact hx h1;omega)).trans (h.block i hi (by simp))⟩
theorem St.later {X Y:List Nat} {w w':World} {p:World→Prop} (h:St X w p) (hk:Kept [] w w') (hY:∀q,q∈Y→q∈X∨w.heap.size≤q):St Y w' p:=fun _ h2=>h _ (hk.later h2 hY)
theorem ExK.later {X Y:List Nat} {w w':World} {n:Nat} {x:ExV} (h:ExK X w n x) (hk:Kept [] w w') (hY:∀q,q∈Y→q∈X∨w.heap.size≤q):ExK Y w' n x:=fun _ h2=>h _ (hk.later h2 hY)
theorem ExK.less {X Y:List Nat} {w w':World} {n:Nat} {x:ExV} (h:ExK X w n x) (hk:Kept Y w w') (hY:∀q,q∈Y→q∈X):ExK X w' n x:=fun _ h2=>h _ ((hk.mono hY).trans h2)
def ExD (X:List Nat) (w:World) (x:ExV):Prop:=∃n,ExK X w n x
theorem ExD.kept {X:List Nat} {w w':World} {x:ExV} (h:ExD X w x) (hk:Kept [] w w'):ExD X w' x:=h.imp fun _ h=>h.kept hk
theorem ExD.later {X Y:List Nat} {w w':World} {x:ExV} (h:ExD X w x) (hk:Kept [] w w') (hY:∀q,q∈Y→q∈X∨w.heap.size≤q):ExD Y w' x:=h.imp fun _ h=>h.later hk hY
theorem ExD.less {X Y:List Nat} {w w':World} {x:ExV} (h:ExD X w x) (hk:Kept Y w w') (hY:∀q,q∈Y→q∈X):ExD X w' x:=h.imp fun _ h=>h.less hk hY
theorem ExD.sub {X Y:List Nat} {w:World} {x:ExV} (h:ExD X w x) (hY:∀q,q∈Y→q∈X):ExD Y w x:=h.imp fun _ h _ hk=>h _ (hk.mono hY)
theorem ZaX (X:List Nat) (w:World):ExD X w Zg:=⟨1,ZbU X w⟩
structure SZ where
 p:List Nat→Value→World→Prop
 st:∀Z Z' v w w',p Z v w→Kept [] w w'→(∀q,q∈Z→q∈Z')→(∀q,q∈Z'→q∈Z∨w.heap.size≤q)→p Z' v w'
def SZ.eq (u:Value):SZ:=⟨fun _ v _=>v=u,fun _ _ _ _ _ h _ _ _=>h⟩
theorem SZ.eq_p (u:Value) (Z:List Nat) (v:Value) (w:World):(SZ.eq u).p Z v w=(v=u):=rfl
def SZ.new (cs:Array Value) (ty:TypeId):SZ:=⟨fun Z v w=>∃B,v= .pointer (some ⟨B,0,none⟩)∧B∈Z∧w.heap[B]? =some (.cells cs ty (0,0)),fun _ _ _ _ _ ⟨B,h1,h2,h3⟩ hk hz _=>⟨B,h1,hz B h2,hk.obj h3 (by simp)⟩⟩
theorem SZ.new_p (cs:Array Value) (ty:TypeId) (Z:List Nat) (v:Value) (w:World):(SZ.new cs ty).p Z v w=∃B,v= .pointer (some ⟨B,0,none⟩)∧B∈Z∧w.heap[B]? =some (.cells cs ty (0,0)):=rfl
theorem ExD.z {X Z Z':List Nat} {w w':World} {x:ExV} (h:ExD (X++Z) w x) (hk:Kept [] w w') (hz:∀q,q∈Z'→q∈Z∨w.heap.size≤q):ExD (X++Z') w' x:=h.later hk (fun q hq=>by
 rcases List.mem_append.1 hq with h1 | h1
 ·exact .inl (List.mem_append.2 (.inl h1))
 ·exact(hz q h1).imp (fun h=>List.mem_append.2 (.inr h)) (fun h=>h))
def SZ.ex (X:List Nat) (μ:ExV):SZ:=⟨fun Z v w=>∃x:ExV,v= .agg x.cells.toArray∧x.er=μ∧ExD (X++Z) w x,fun _ _ _ _ _ ⟨x,h1,h2,h3⟩ hk _ hz=>⟨x,h1,h2,h3.z hk hz⟩⟩
theorem SZ.ex_p (X:List Nat) (μ:ExV) (Z:List Nat) (v:Value) (w:World):(SZ.ex X μ).p Z v w=∃x:ExV,v= .agg x.cells.toArray∧x.er=μ∧ExD (X++Z) w x:=rfl
def SZ.wx (X:List Nat) (r:Int×ExV):SZ:=⟨fun Z v w=>∃x:ExV,v= .tuple #[.int .i64 r.1,.agg x.cells.toArray]∧x.er=r.2∧ExD (X++Z) w x,fun _ _ _ _ _ ⟨x,h1,h2,h3⟩ hk _ hz=>⟨x,h1,h2,h3.z hk hz⟩⟩
theorem SZ.wx_p (X:List Nat) (r:Int×ExV) (Z:List Nat) (v:Value) (w:World):(SZ.wx X r).p Z v w=∃x:ExV,v= .tuple #[.int .i64 r.1,.agg x.cells.toArray]∧x.er=r.2∧ExD (X++Z) w x:=rfl
structure PSz where
 d:Nat
 deps:List Nat
 al:Bool
 sp:SZ
def PSz.toP (s:PSz):PSp:=⟨s.d,s.deps,SP.eq undef⟩
def ZcO (al:Bool) (Z Z':List Nat) (w' w'':World) (v:Value):Prop:=(al=false∧Z'=Z)∨(al=true∧∃B,v= .pointer (some ⟨B,0,none⟩)∧Z'=B::Z∧w'.heap.size≤B∧B < w''.heap.size)
theorem ZcO.sub {al:Bool} {Z Z':List Nat} {w' w'':World} {v:Value} (h:ZcO al Z Z' w' w'' v):∀q,q∈Z→q∈Z':=by
 rcases h with⟨_,rfl⟩ | ⟨_,B,_,rfl,_⟩
 ·exact fun _ h=>h
 ·exact fun q h=>List.mem_cons_of_mem _ h
theorem ZcO.up {al:Bool} {Z Z':List Nat} {w' w'':World} {v:Value} (h:ZcO al Z Z' w' w'' v):∀q,q∈Z'→q∈Z∨w'.heap.size≤q:=by
 rcases h with⟨_,rfl⟩ | ⟨_,B,_,rfl,h1,_⟩
 ·exact fun _ h=> .inl h
 ·intro q hq
  rcases List.mem_cons.1 hq with rfl | h
  ·exact .inr h1
  ·exact .inl h
def zIn (w0:World) (Z:List Nat) (w':World):Prop:=∀q,q∈Z→w0.heap.size≤q∧q < w'.heap.size
theorem ZcO.in {al:Bool} {Z Z':List Nat} {w0 w' w'':World} {v:Value} (h:ZcO al Z Z' w' w'' v) (hz:zIn w0 Z w') (h0:w0.heap.size≤w'.heap.size) (hs:w'.heap.size≤w''.heap.size):zIn w0 Z' w'':=by
 rcases h with⟨_,rfl⟩ | ⟨_,B,_,rfl,h1,h2⟩
 ·exact fun q hq=>⟨(hz q hq).1,Nat.lt_of_lt_of_le (hz q hq).2 hs⟩
 ·intro q hq
  rcases List.mem_cons.1 hq with rfl | h
  ·exact⟨Nat.le_trans h0 h1,h2⟩
  ·exact⟨(hz q h).1,Nat.lt_of_lt_of_le (hz q h).2 hs⟩
def Z8:List PSz→Nat→List Nat→Value→World→Prop
 | [],_=>fun _ _ _=>True
 | s::r,d=>if s.d=d then s.sp.p else Z8 r d
def ZG (S:List PSz) (vs:Nat→Value) (Z:List Nat) (w:World):List Nat→Prop
 | []=>True
 | d::r=>Z8 S d Z (vs d) w∧ZG S vs Z w r
def Zi (vs:Nat→Value) (Z:List Nat) (w:World):List PSz→Prop
 | []=>True
 | s::r=>s.sp.p Z (vs s.d) w∧Zi vs Z w r
theorem Zh2:∀{S:List PSz} {i:Nat} {s:PSz},QC ((S.map PSz.toP).map (·.d))=true→S[i]? =some s→Z8 S s.d=s.sp.p
 | [],_,_,_,h=>by simp at h
 | t::S,0,s,_,h=>by
  simp only[List.getElem?_cons_zero,Option.some.injEq]at h
  subst h
  simp[Z8]
 | t::S,i+1,s,h,h1=>by
  have hne:t.d≠s.d:=fun e=>by
   have:=ZdU (S:=(t::S).map PSz.toP) (i:=0) (j:=i+1) (s:=t.toP) (t:=s.toP) h rfl (by rw[List.getElem?_map,h1];rfl) e
   omega
  simp only[List.map_cons,QC,Bool.and_eq_true]at h
  simp only[Z8,if_neg hne]
  exact Zh2 h.2 (by simpa using h1)
theorem ZaL {S:List PSz} {vs:Nat→Value} {Z:List Nat} {w:World}:∀{ds:List Nat},(∀d∈ds,Z8 S d Z (vs d) w)→ZG S vs Z w ds
 | [],_=>trivial
 | _::_,h=>⟨h _ (by simp),ZaL fun d hd=>h d (by simp[hd])⟩
theorem Zbr {vs:Nat→Value} {Z:List Nat} {w:World}:∀{S:List PSz},(∀(i:Nat) s,S[i]? =some s→s.sp.p Z (vs s.d) w)→Zi vs Z w S
 | [],_=>trivial
 | s::S,h=>⟨h 0 s rfl,Zbr fun i t ht=>h (i+1) t (by simpa using ht)⟩
section
variable {P:Program} {md:Region.Mode} {ops:Array Oper} {Q:Exit→Act→World→Prop} {w0:World}
def Znv (P:Program) (ops:Array Oper) (Q:Exit→Act→World→Prop) (w0:World) (S:List PSz) (A:(Nat→Value)→Act):List PSz→List Oper→Prop
 | s::ss,o::os=>(∀vs Z w',Kept [] w0 w'→zIn w0 Z w'→ZG S vs Z w' s.deps→wpList P ops (Zmm (fun a w''=>Kept [] w' w''∧a.defers=(A vs).defers∧∃Z',ZcO s.al Z Z' w' w'' (a.tmps.getD s.d undef)∧s.sp.p Z' (a.tmps.getD s.d undef) w'') Q) [o] (A vs) w')∧Znv P ops Q w0 S A ss os
 | _,_=>True
theorem ZhX {S:List PSz} {A:(Nat→Value)→Act}:∀{ss:List PSz} {os:List Oper} {i:Nat} {s:PSz} {o:Oper},Znv P ops Q w0 S A ss os→ss[i]? =some s→os[i]? =some o→
 ∀vs Z w',Kept [] w0 w'→zIn w0 Z w'→ZG S vs Z w' s.deps→wpList P ops (Zmm (fun a w''=>Kept [] w' w''∧a.defers=(A vs).defers∧∃Z',ZcO s.al Z Z' w' w'' (a.tmps.getD s.d undef)∧s.sp.p Z' (a.tmps.getD s.d undef) w'') Q) [o] (A vs) w'
 | [],_,_,_,_,_,h1,_=>by simp at h1
 | _::_,[],_,_,_,_,_,h2=>by simp at h2
 | s::ss,o::os,0,_,_,h,h1,h2=>by
  simp only[List.getElem?_cons_zero,Option.some.injEq]at h1 h2
  subst h1 h2
  exact h.1
 | s::ss,o::os,i+1,_,_,h,h1,h2=>ZhX h.2 (by simpa using h1) (by simpa using h2)
theorem ZuG {l:List Oper} {S:List PSz} {a:Act} (hB:Zik l (S.map PSz.toP) a.tmps.size=true)
 (hO:Znv P l.toArray Q w0 S (fun vs=>fill ((S.map PSz.toP).map (·.d)) vs a) S l)
 (hT:∀vs Z w',Kept [] w0 w'→zIn w0 Z w'→Zi vs Z w' S→wpList P l.toArray Q (l.drop S.length) (fill ((S.map PSz.toP).map (·.d)) vs a) w'):
 ∀(k:Nat) (done:Array Bool) (vs:Nat→Value) (Z:List Nat) (w':World),Qa .any l.toArray done→done.size=l.length→(∀t,S.length≤t→done.getD t false=false)→Kept [] w0 w'→zIn w0 Z w'→
  (∀(i:Nat) s,S[i]? =some s→done.getD i false=true→s.sp.p Z (vs s.d) w')→Zgh done S.length=k→wpAny P .any l.toArray Q (k+(l.length - S.length)) done (fill ((S.map PSz.toP).map (·.d)) vs a) w':=by
 simp only[Zik,Bool.and_eq_true,decide_eq_true_eq,List.all_eq_true]at hB
 simp only[List.length_map]at hB
 obtain⟨⟨⟨⟨⟨⟨⟨b1,b2⟩,b3⟩,b4⟩,b5⟩,b6⟩,b7⟩,b8⟩:=hB
 intro k
 induction k with
 | zero=>
  intro done vs Z w' hc hs ht hk hz hp h0
  have hd:done=Zhr S.length l.length:=by
   apply Array.ext
   ·simp[Zhr,hs]
   ·intro i h1 h2
    have e1:done.getD i true=done[i]:=by simp[Array.getD,h1]
    have e2:done.getD i false=done[i]:=by simp[Array.getD,h1]
    by_cases c:i < S.length
    ·rw[←e1,ZcD h0 i c]
     simp[Zhr,c]
    ·rw[←e2,ht i (by omega)]
     simp[Zhr,c]
  subst hd
  have h1:=hT vs Z w' hk hz (Zbr fun i s hi=>hp i s hi (by
   have hil:=(List.getElem?_eq_some_iff.1 hi).1
   have hil2:i < l.length:=by omega
   simp[Zhr,Array.getD,hil,hil2]))
  rw[←Zfm l (l.length - S.length) S.length (by omega)]at h1
  have:=Qi (P:=P) (md:= .any) (ops:=l.toArray) (Q:=Q) (l:=l) rfl (List.range' S.length (l.length - S.length)) (Zhr S.length l.length) _ w' (fun i hi=>by
   have:=List.mem_range'.1 hi
   omega) b8 h1
  rw[List.length_range']at this
  rw[Nat.zero_add]
  exact this
 | succ k ih=>
  intro done vs Z w' hc hs ht hk hz hp h0
  obtain⟨m,hm1,hm2,hm3⟩:=ZfW (done:=done) (m:=S.length) (by omega)
  have hml:m < l.length:=by omega
  have hmr:m∈Region.ready .any l.toArray done:=by
   refine mem_ready.2 ⟨hm2,l[m],by simp[hml],fun e he hb=>?_⟩
   have:=ZfQ b7 (i:=m) (o:=l[m]) (by rw[List.getElem?_take_of_lt hm1];simp[hml]) e he hb
   have h3:=hm3 e.on (by omega)
   have hlt:e.on < done.size:=by omega
   simpa [Array.getD,hlt]using h3
  rw[show k+1+(l.length - S.length)=(k+(l.length - S.length))+1 by omega]
  refine⟨fun h=>by rw[h]at hmr;simp at hmr,fun i hi=>?_⟩
  have hin:i < S.length:=by
   rcases Nat.lt_or_ge i S.length with h | h
   ·exact h
   ·exact absurd hi (Zbc (b6 m (List.mem_range.2 hm1)) hc hm2 i (by simp[h]))
  obtain⟨s,hsi⟩:∃s,S[i]? =some s:=⟨_,List.getElem?_eq_getElem hin⟩
  have hsi':(S.map PSz.toP)[i]? =some s.toP:=by rw[List.getElem?_map,hsi];rfl
  obtain⟨o,ho,hod⟩:=Zif b2 hsi'
  have ho2:l.toArray[i]? =some o:=by simpa using ho
  obtain⟨hun,o',ho',hall⟩:=mem_ready.1 hi
  obtain rfl:o'=o:=Option.some.inj (ho'.symm.trans ho2)
  have hgv:ZG S vs Z w' s.deps:=ZaL fun d hd=>by
   obtain⟨e,he,hb,t',ht1',ht2⟩:=Zih b5 hsi' ho d hd
   rw[List.getElem?_map]at ht1'
   obtain⟨t,ht1,rfl⟩:=Option.map_eq_some_iff.1 ht1'
   have h1:=hp _ t ht1 (hall e he hb)
   have ht3:t.d=d:=ht2
   rw[←ht3,Zh2 b4 ht1]
   exact h1
  have hone:=ZhX hO hsi ho vs Z w' hk hz hgv
  have h2:=Zae (P:=P) (ops:=l.toArray) (Q:=Q) ho2 (fun a' w'' h=>h.2.1) hone
  refine wpOp_mono ?_ h2
  rintro a' w'' ⟨⟨hk2,_,Z',hzn,hps⟩,v,hv⟩
  have hdm:s.d∈(S.map PSz.toP).map (·.d):=List.mem_map.2 ⟨s.toP,List.mem_of_getElem? hsi',rfl⟩
  have hdl:s.d < a.tmps.size:=by
   have:=b3 s.toP (List.mem_of_getElem? hsi')
   have h5:s.toP.d < a.tmps.size:=by simpa using this
   exact h5
  rw[show o'.dst=some s.d from hod,Zea hdm]at hv
  subst hv
  rw[Zcv hdm hdl]at hps hzn
  have hil:i < done.size:=by omega
  refine ih (done.setIfInBounds i true) (Zjt vs s.d v) Z' w'' (hc.set hi) (by simpa using hs) (fun t htn=>?_) (hk.trans hk2) (hzn.in hz hk.size hk2.size) (fun j t htj hdj=>?_) ?_
  ·have:=ht t htn
   have hne:i≠t:=by omega
   rw[getD_set_ne false hne]
   exact this
  ·by_cases e:j=i
   ·subst e
    rw[hsi]at htj
    cases htj
    exact hps
   ·have hne:t.d≠s.d:=fun h=>e (ZdU b4 (s:=t.toP) (t:=s.toP) (by rw[List.getElem?_map,htj];rfl) hsi' h)
    have hdj2:done.getD j false=true:=by rwa [getD_set_ne false (fun h=>e h.symm)]at hdj
    have h1:=hp j t htj hdj2
    have h3:Zjt vs s.d v t.d=vs t.d:=by simp[Zjt,hne]
    rw[h3]
    exact t.sp.st _ _ _ _ _ h1 hk2 hzn.sub hzn.up
  ·have:=Zij hun (m:=S.length) hin
   omega
theorem Zn {id:Nat} {a:Act} {w:World} {l:List Oper} (S:List PSz) (hm:P.follows .mixedOrders=true) (hB:Zik l (S.map PSz.toP) a.tmps.size=true)
 (h:∃A:(Nat→Value)→Act,(∀vs,Jj vs ((S.map PSz.toP).map (·.d)) a=A vs)∧Znv P l.toArray Q w S A S l∧
  ∀vs Z w',Kept [] w w'→zIn w Z w'→Zi vs Z w' S→wpList P l.toArray Q (l.drop S.length) (A vs) w'):
 (Code.region id l.toArray true).wp P Q a w:=by
 obtain⟨A,hA,h1,h2⟩:=h
 have hA2:A=fun vs=>fill ((S.map PSz.toP).map (·.d)) vs a:=by
  funext vs
  rw[ZaN]
  exact(hA vs).symm
 subst hA2
 have hsz:l.toArray.size=l.length:=by simp
 refine wp_region_any hm ?_
 have hle:S.length≤l.length:=by
  simp only[Zik,Bool.and_eq_true,decide_eq_true_eq,List.length_map]at hB
  exact hB.1.1.1.1.1.1.1
 have hcnt:∀m,m≤l.length→Zgh (Array.replicate l.length false) m=m:=by
  intro m
  induction m with
  | zero=>intro _;rfl
  | succ m ih=>
   intro hml
   have:(Array.replicate l.length false).getD m true=false:=by simp[Array.getD,show m < l.length by omega]
   simp only[Zgh,ih (by omega),this]
   simp
 have key:=ZuG (P:=P) (Q:=Q) (w0:=w) (a:=a) hB h1 h2 S.length (Array.replicate l.length false) (fun s=>a.tmps.getD s undef) [] {w with drawn:=w.drawn+1}
  (by simpa using Qa.none (md:= .any) (ops:=l.toArray)) (by simp) (fun t _=>by simp[Array.getD]) ⟨rfl,rfl,rfl,Nat.le_refl _,fun _ _ _=>rfl⟩ (fun q hq=>by simp at hq) (fun i s _ hd=>by simp[Array.getD]at hd) (hcnt _ hle)
 rw[Zcw]at key
 rw[show S.length+(l.length - S.length)=l.length by omega]at key
 rw[hsz]
 exact key
end
end
end Go.Proofs.YtfaecpkocgcofaaGreatDoor
