/- Lemmas for ResolveSettles, printed small: N18 N19 N20 N21 N22. -/
import Derived.Test.YtfaecpkocgcofaaGreatDoorZ36
set_option linter.all false
set_option maxRecDepth 100000
set_option maxHeartbeats 8000000
open Go.Proofs.Tryz
namespace Go.Proofs.YtfaecpkocgcofaaGreatDoor
section
open Go.RowKit
def YQ (t:Tab) (h:WhV):Nat→ExV→Bool
 | 0,_=>false
 | n+1,x=>if x.kind=3 then decide ((Yk t h x.s).length=0)else(x.ls.any (YQ t h n) || x.al.any fun a=>YQ t h n a.2.2.2)
def Zby:Nat→ExV→Prop
 | 0,_=>False
 | n+1,x=>x.kind≠4∧(∀y,y∈x.ls→Zby n y)∧∀a,a∈x.al→Zby n a.2.2.2
theorem Zgq (t:Tab) (h:WhV):∀(n:Nat) (x:ExV),YQ t h n x.er=YQ t h n x
 | 0,_=>rfl
 | n+1,x=>by
  have e1:(x.ls.map ExV.er).any (YQ t h n)=x.ls.any (YQ t h n):=by
   rw[List.any_map]
   congr 1
   funext y
   exact Zgq t h n y
  have e2:((x.al.map AsV.er).any fun a=>YQ t h n a.2.2.2)=x.al.any fun a=>YQ t h n a.2.2.2:=by
   rw[List.any_map]
   congr 1
   funext a
   exact Zgq t h n a.2.2.2
  rw[YQ,YQ,ExV.er_kind,ExV.er_s,ExV.er_ls,ExV.er_al,e1,e2]
theorem ZdV:∀{n:Nat} {x:ExV},Zby n x.er→Zby n x
 | 0,_,h=>h
 | n+1,x,⟨h1,h2,h3⟩=>by
  rw[ExV.er_kind]at h1
  rw[ExV.er_ls]at h2
  rw[ExV.er_al]at h3
  exact⟨h1,fun y hy=>ZdV (h2 y.er (List.mem_map.2 ⟨y,hy,rfl⟩)),fun a ha=>ZdV (h3 a.er (List.mem_map.2 ⟨a,ha,rfl⟩))⟩
theorem Tryz.entersUnk:∀args w,(callFunc 72 args).run prog w= .ok (.enter 72 args) w:=Go.Proofs.enters_of func72 (by kernel_rfl) rfl
theorem Tryz.entersUnk1:∀args w,(callFunc 133 args).run prog w= .ok (.enter 133 args) w:=Go.Proofs.enters_of func133 (by kernel_rfl) rfl
theorem ZmK (w:World) (R B:Nat) (a:AsV) (b:Bool) [Zc w B 102 #[.pointer (some ⟨R,0,none⟩)]]
 (hU:∀W,Kept [] w W→Calls prog 72 #[.pointer (some ⟨R,0,none⟩),.agg a.2.2.2.cells.toArray] W (ZE (.bool b) W)):
 Calls prog 133 (#[.agg (AsV.cells a).toArray]++ #[.pointer (some ⟨B,0,none⟩)]) w (ZE (.bool b) w):=by
 have HU:=hh hU
 clear hU
 go_enter func133,ntmps133
 go_wp2_with fail
 refine nxt (HU.out _ kp) fun w1 p_w1=>?_;have hz_w1:=szk w w1
 go_wp2_with fail
 exact Za rfl (Zj results133 (Zh rfl)) kp
theorem Zgp (R mr:Nat) (v:Zp) (t:Tab) (h:WhV):∀(n:Nat) (w:World) (x:ExV),Zby n x→Qo w R mr v t h→ExD [] w x→
 Calls prog 72 #[.pointer (some ⟨R,0,none⟩),.agg x.cells.toArray] w (ZE (.bool (YQ t h n x)) w):=by
 intro n
 induction n with
 | zero=>exact fun w x h0=>h0.elim
 | succ n ih=>
 intro w x hn hR hx
 have h1:=ZfP hx w (Kept.refl _ _)
 have HF:=hh (fun w' (hk:Kept [] w w')=>Zfa ZmV w' v t h x.s (hR.tab.kept hk) (hR.wh.kept hk) hR.tab.sm5.1 (Nat.le_trans hR.wh.us5.2 (by omega)) hR.tab.ow)
 have HL:Hid (∀W,Kept [] w W→Calls prog 69 #[.slice x.la x.ls.length x.lc,.func (.func 72) #[.pointer (some ⟨R,0,none⟩)] #[]] W (ZE (.bool (x.ls.any (YQ t h n))) W)):=fun W hk=>
  ZaK W x.la x.lc x.ls h1.2.1 (h1.1.kept hk) 72 #[.pointer (some ⟨R,0,none⟩)] #[] (YQ t h n) Tryz.entersUnk (fun W2 y hk2 hy=>ih W2 y (hn.2.1 y hy) (hR.kept (hk.trans hk2)) ((hx.kept (hk.trans hk2)).mem_ls hy))
 have HA:Hid (∀W B,Kept [] w W→Zc W B 102 #[.pointer (some ⟨R,0,none⟩)]→Calls prog 132 #[.slice x.aa x.al.length x.ac,.func (.func 133) #[] #[.pointer (some ⟨B,0,none⟩)]] W (ZE (.bool (x.al.any fun a=>YQ t h n a.2.2.2)) W)):=fun W B hk hb=>
  ZfI W x.aa x.ac x.al h1.2.2.2.1 (h1.2.2.1.kept hk) 133 #[] _ (fun a=>YQ t h n a.2.2.2) Tryz.entersUnk1 (fun W2 a hk2 ha=>by
   haveI:=hb.kept hk2
   exact ZmK W2 R B a _ (fun W3 hk3=>ih W3 a.2.2.2 (hn.2.2 a ha) (hR.kept ((hk.trans hk2).trans hk3)) ((hx.kept ((hk.trans hk2).trans hk3)).mem_al ha)))
 have HV:Hid (YQ t h (n+1) x=if x.kind=3 then decide ((Yk t h x.s).length=0)else(x.ls.any (YQ t h n) || x.al.any fun a=>YQ t h n a.2.2.2)):=rfl
 have h4:(x.kind == 4)=false:=by simpa using hn.1
 have hfl:=Zcu hR.tab.sm5.1 h x.s
 haveI bR:=hR.is
 clear hn hR hx h1 ih
 by_cases h3:x.kind=3
 ·have HW:Hid (YQ t h (n+1) x=decide ((Yk t h x.s).length=0)):=by rw[Hid,HV.out,if_pos h3]
  clear HV HL HA h4
  generalize Yk t h x.s=xs at*
  have h3':(x.kind == 3)=true:=by simpa using h3
  clear h3
  go_enter func72,ntmps72
  go_upto_region 2 with(fail)
  refine Zm ?_
  intro w1 hw1
  haveI p_w1:Zb w1 w:=⟨by rw[hw1];exact kp⟩
  haveI b2:Zc w1 w.heap.size 102 #[.pointer (some ⟨R,0,none⟩)]:=by rw[hw1];infer_instance
  haveI b3:Zc w1 (w.heap.size+1) 41 x.cells.toArray:=by rw[hw1];infer_instance
  clear hw1
  refine Zn [⟨10,[],false,.eq (.pointer (some ⟨R,0,none⟩))⟩,⟨11,[10],false,.eq (.pointer (some ⟨R,0,none⟩))⟩,⟨12,[11],false,.eq (.pointer (some ⟨R,0,none⟩))⟩,⟨13,[12],false,.eq (.agg (v.cells t))⟩,⟨14,[],false,.eq (.pointer (some ⟨R,0,none⟩))⟩,⟨15,[14],false,.eq (.pointer (some ⟨R,0,none⟩))⟩,⟨16,[15],false,.eq (.pointer (some ⟨R,5,none⟩))⟩,⟨17,[16],false,.eq (.agg h.cells.toArray)⟩,⟨18,[],false,.eq (.pointer (some ⟨w.heap.size+1,3,none⟩))⟩,⟨19,[18],false,.eq (.string x.s)⟩,⟨20,[13,17,19],false,.own w.heap.size xs⟩,⟨21,[20],false,.eq (.int .i64 xs.length)⟩,⟨22,[21],false,.eq (.bool ((xs.length:Int) == 0))⟩] (by kernel_rfl) (by kernel_rfl) ?_
  apply Exists.intro
  refine⟨fun vs=>?_,?_⟩
  ·simp only[List.map_cons,List.map_nil,PSz.toP,Jj,Act.put,List.setIfInBounds_toArray,List.set_cons_zero,List.set_cons_succ]
   exact rfl
  refine⟨⟨?_,?_,?_,?_,?_,?_,?_,?_,?_,?_,?_,?_,?_,trivial⟩,?_⟩<;>intro vs Z w9 hk hZ hg
  all_goals
   haveI p_w9:Zb w9 _:=⟨hk⟩
   have hz_w9:=hk.size
   have HZ:=hh hZ
   clear hk hZ
   (try simp only[ZG,Zi,Z8,SZ.eq_p,SZ.ex_p,SZ.wx_p,SZ.new_p,SZ.own_p,Nat.reduceEqDiff,reduceIte,and_true]at hg)
  ·clear hg
   go_wp2_with fail
   exact⟨kp,rfl,Z,.inl ⟨rfl,rfl⟩,rfl⟩
  ·obtain e10:=hg
   (try simp only[e10])
   go_wp2_with fail
   exact⟨kp,rfl,Z,.inl ⟨rfl,rfl⟩,rfl⟩
  ·obtain e11:=hg
   (try simp only[e11])
   go_wp2_with fail
   exact⟨kp,rfl,Z,.inl ⟨rfl,rfl⟩,rfl⟩
  ·obtain e12:=hg
   (try simp only[e12])
   go_wp2_with fail
   exact⟨kp,rfl,Z,.inl ⟨rfl,rfl⟩,rfl⟩
  ·clear hg
   go_wp2_with fail
   exact⟨kp,rfl,Z,.inl ⟨rfl,rfl⟩,rfl⟩
  ·obtain e14:=hg
   (try simp only[e14])
   go_wp2_with fail
   exact⟨kp,rfl,Z,.inl ⟨rfl,rfl⟩,rfl⟩
  ·obtain e15:=hg
   (try simp only[e15])
   go_wp2_with fail
   exact⟨kp,rfl,Z,.inl ⟨rfl,rfl⟩,rfl⟩
  ·obtain e16:=hg
   (try simp only[e16])
   go_wp2_with fail
   exact⟨kp,rfl,Z,.inl ⟨rfl,rfl⟩,rfl⟩
  ·clear hg
   go_wp2_with fail
   exact⟨kp,rfl,Z,.inl ⟨rfl,rfl⟩,rfl⟩
  ·obtain e18:=hg
   (try simp only[e18])
   go_wp2_with fail
   exact⟨kp,rfl,Z,.inl ⟨rfl,rfl⟩,rfl⟩
  ·obtain⟨e13,e17,e19⟩:=hg
   (try simp only[e13,e17,e19])
   go_wp2_with fail
   refine(HF.out _ kp).mono ?_
   rintro e w8 ⟨vf,rfl,ho,hk8⟩
   go_wp2_with fail
   exact⟨hk8,rfl,Z,.inl ⟨rfl,rfl⟩,Z7 ho (Kept.size (X:=[]) kp)⟩
  ·obtain i20:=hg
   obtain⟨A,c,e20⟩:=Zq hg
   simp only[e20]
   go_wp2_with fail
   exact⟨kp,rfl,Z,.inl ⟨rfl,rfl⟩,rfl⟩
  ·obtain e21:=hg
   (try simp only[e21])
   go_wp2_with fail
   exact⟨kp,rfl,Z,.inl ⟨rfl,rfl⟩,rfl⟩
  obtain⟨e10,e11,e12,e13,e14,e15,e16,e17,e18,e19,i20,e21,e22⟩:=hg
  simp only[e10,e11,e12,e13,e14,e15,e16,e17,e18,e19,e21,e22]
  clear e10 e11 e12 e13 e14 e15 e16 e17 e18 e19 i20 e21 e22
  have HK3:Hid (Kept [] w w9):=kp
  go_wp2_with fail
  refine Jw rfl (Zj results72 (Zh rfl)) ?_ HK3.out
  rw[HW.out]
  simp[ZeP]
 ·have HW:Hid (YQ t h (n+1) x=(x.ls.any (YQ t h n) || x.al.any fun a=>YQ t h n a.2.2.2)):=by rw[Hid,HV.out,if_neg h3]
  have h3':(x.kind == 3)=false:=by simpa using h3
  clear HV HF h3
  generalize x.ls.any (YQ t h n)=q1 at*
  generalize (x.al.any fun a=>YQ t h n a.2.2.2)=q2 at*
  cases q1
  ·go_enter func72,ntmps72
   go_wp2_with fail
   refine nxt (HL.out _ kp) fun w1 p_w1=>?_;have hz_w1:=szk w w1
   go_wp2_with fail
   refine nxt (HA.out _ _ kp inferInstance) fun w2 p_w2=>?_;have hz_w2:=szk w w2
   cases q2
   ·go_wp2_with fail
    rw[HW.out]
    exact Za rfl (Zj results72 (Zh rfl)) kp
   ·go_wp2_with fail
    rw[HW.out]
    exact Za rfl (Zj results72 (Zh rfl)) kp
  ·go_enter func72,ntmps72
   go_wp2_with fail
   refine nxt (HL.out _ kp) fun w1 p_w1=>?_;have hz_w1:=szk w w1
   go_wp2_with fail
   rw[HW.out]
   exact Za rfl (Zj results72 (Zh rfl)) kp
theorem Tryz.entersChk1:∀args w,(callFunc 70 args).run prog w= .ok (.enter 70 args) w:=Go.Proofs.enters_of func70 (by kernel_rfl) rfl
theorem Zom (w:World) (x:ExV) (hx:ExD [] w x) (hT:Zf8 w):Calls prog 70 (#[]++ #[.agg x.cells.toArray]++ #[]) w (ZE (.bool (!QK ZV x)) w):=by
 have HM:=hh (fun W (hk:Kept [] w W)=>Zrh ZV ZbD W x (hx.kept hk) (hT.kept hk))
 clear hx hT
 generalize QK ZV x=q at*
 go_enter func70,ntmps70
 go_wp2_with fail
 refine nxt (HM.out _ kp) fun w1 p_w1=>?_;have hz_w1:=szk w w1
 go_wp2_with fail
 exact Za rfl (Zj results70 (Zh rfl)) kp
def QT (t:Tab) (h:WhV) (n:Nat) (l:List ExV):Int:=if l.any (fun x=>!QK ZV x)then 2 else if l.any (YQ t h n)then 80 else 0
theorem ZlP (R mr:Nat) (v:Zp) (t:Tab) (h:WhV) (n:Nat) (w:World) (A:Option Addr) (c:Nat) (l:List ExV) (hn:∀x,x∈l→Zby n x) (hR:Qo w R mr v t h) (hr:Zo ExV 9 ExV.cells w A l) (hl:l.length≤140737488355328) (hx:∀x,x∈l→ExD [] w x) (hT:Zf8 w):
 Calls prog 30 #[.pointer (some ⟨R,0,none⟩),.slice A l.length c] w (ZE (.int .i64 (QT t h n l)) w):=by
 have H1:Hid (∀W,Kept [] w W→Calls prog 69 #[.slice A l.length c,.func (.func 70) #[] #[]] W (ZE (.bool (l.any fun x=>!QK ZV x)) W)):=fun W hk=>
  ZaK W A c l hl (hr.kept hk) 70 #[] #[] (fun x=>!QK ZV x) Tryz.entersChk1 (fun W2 x hk2 hxm=>Zom W2 x ((hx x hxm).kept (hk.trans hk2)) (hT.kept (hk.trans hk2)))
 have H2:Hid (∀W,Kept [] w W→Calls prog 69 #[.slice A l.length c,.func (.func 72) #[.pointer (some ⟨R,0,none⟩)] #[]] W (ZE (.bool (l.any (YQ t h n))) W)):=fun W hk=>
  ZaK W A c l hl (hr.kept hk) 72 #[.pointer (some ⟨R,0,none⟩)] #[] (YQ t h n) Tryz.entersUnk (fun W2 x hk2 hxm=>Zgp R mr v t h n W2 x (hn x hxm) (hR.kept (hk.trans hk2)) ((hx x hxm).kept (hk.trans hk2)))
 have HV:Hid (QT t h n l=if l.any (fun x=>!QK ZV x)then 2 else if l.any (YQ t h n)then 80 else 0):=rfl
 clear hn hR hr hx hT
 generalize (l.any fun x=>!QK ZV x)=q1 at*
 generalize l.any (YQ t h n)=q2 at*
 go_enter func30,ntmps30
 go_wp2_with fail
 refine nxt (H1.out _ kp) fun w1 p_w1=>?_;have hz_w1:=szk w w1
 cases q1
 ·go_wp2_with fail
  refine nxt (H2.out _ kp) fun w2 p_w2=>?_;have hz_w2:=szk w w2
  cases q2
  ·go_wp2_with fail
   rw[HV.out]
   exact Za rfl (Zj results30 (Zh rfl)) kp
  ·go_wp2_with fail
   rw[HV.out]
   exact Za rfl (Zj results30 (Zh rfl)) kp
 ·go_wp2_with fail
  rw[HV.out]
  exact Za rfl (Zj results30 (Zh rfl)) kp
theorem ZkG (w:World) (n:Nat) (hn:n < 100):Calls prog 274 #[.int .u64 1,.int .u64 n] w (ZmC (.tuple #[.int .u64 0,.int .u64 n]) w):=by
 have h1:bits .and .u64 (n:Int) 4294967295=n:=by
  have h:∀m:Fin 100,bits .and .u64 ((m.val:Nat):Int) 4294967295=((m.val:Nat):Int):=by decide+kernel
  exact h ⟨n,hn⟩
 have h2:(n:Int) / 4294967296=0:=by omega
 have h3:(n:Int) % 18446744073709551616=n:=by omega
 have h4:bits .and .u64 0 4294967295=0:=by decide+kernel
 have h5:bits .and .u64 1 4294967295=1:=by decide+kernel
 go_enter func274,ntmps274
 go_wp2_with fail
 exact ZS rfl (Qm results274 (Zh rfl) (Zh rfl))
theorem Zqp (w:World) (n:Nat) (hn:n < 100):Calls prog 236 #[.int .u64 1,.int .u64 n] w (ZmC (.tuple #[.int .u64 0,.int .u64 n]) w):=by
 have HM:=hh (ZkG w n hn)
 have h3:(n:Int) % 18446744073709551616=n:=by omega
 go_enter func236,ntmps236
 go_wp2_with fail
 refine HM.out.mono ?_
 rintro e w1 ⟨rfl,hw1⟩
 obtain rfl:=hw1
 go_wp2_with fail
 exact ZS rfl (Qm results236 (Zh rfl) (Zh rfl))
def rpP (k:Nat) (p:List Value):List Value:=(List.replicate k p).flatten
theorem Qb (k:Nat) {p:List Value} (hp:p.length=2):(rpP k p).length=k*2:=by
 induction k with
 | zero=>rfl
 | succ k ih=>
  have e:rpP (k+1) p=p++rpP k p:=by simp[rpP,List.replicate_succ]
  rw[e,List.length_append,ih,hp];omega
theorem ZgJ (a b:Nat) (p:List Value):rpP (a+b) p=rpP a p++rpP b p:=by
 rw[rpP,←List.replicate_append_replicate,List.flatten_append];rfl
theorem ZhL {a b:Nat} {p:List Value} (hp:p.length=2) (h:a≤b):(rpP b p).take (a*2)=rpP a p:=by
 obtain⟨c,rfl⟩:=Nat.le.dest h
 rw[ZgJ,List.take_append_of_le_length (by rw[Qb _ hp];omega),List.take_of_length_le (by rw[Qb _ hp];omega)]
theorem ZgI {k:Nat} {p:List Value} (h:∀v∈p,v.oneCell'=true):∀v∈rpP k p,v.oneCell'=true:=by
 intro v hv
 obtain⟨r,hr,hv⟩:=List.mem_flatten.1 hv
 rw[List.eq_of_mem_replicate hr]at hv
 exact h v hv
theorem ZhM {k c m:Nat} {p z:List Value} (hp:p.length=2) (hz:z.length=2) (h:c+m≤k):
 (rpP c p++rpP (k - c) z).take (c*2)++rpP m p++(rpP c p++rpP (k - c) z).drop (c*2+(rpP m p).length)=rpP (c+m) p++rpP (k - (c+m)) z:=by
 have h1:(rpP c p++rpP (k - c) z).take (c*2)=rpP c p:=by
  rw[List.take_append_of_le_length (by rw[Qb _ hp];omega),List.take_of_length_le (by rw[Qb _ hp];omega)]
 have h2:(rpP c p++rpP (k - c) z).drop (c*2+(rpP m p).length)=rpP (k - (c+m)) z:=by
  rw[Qb _ hp,List.drop_append,List.drop_of_length_le (by rw[Qb _ hp];omega),List.nil_append,Qb _ hp,show k - c=m+(k - (c+m)) by omega,ZgJ,
   show c*2+m*2 - c*2=m*2 by omega,List.drop_append_of_le_length (by rw[Qb _ hz];omega),List.drop_of_length_le (by rw[Qb _ hz];omega),List.nil_append]
 rw[h1,h2,ZgJ]
theorem Zky:(prog.info? 171).map (fun i=>(i.zero,i.size,i.bytes))=some (some (.agg #[.int .i64 0,.bool false]),2,16):=by kernel_rfl
theorem Zcd:(prog.info? 171).map (·.size)=some 2:=by kernel_rfl
def zP:List Value:=[.int .i64 0,.bool false]
theorem Zp0 {w':World} {g k:Nat} (h:w'.ownsRow g 171 2 (.slice (some ⟨g,0,none⟩) k k) k (madeCells (Value.agg #[.int .i64 0,.bool false]).cells (k*2)).toList) {p:List Value}:
 w'.heap[g]? =some (.cells (rpP 0 p++rpP (k - 0) zP).toArray 171 (0,0)):=by
 obtain⟨_,h⟩:=h
 rcases h with⟨h,_⟩ | ⟨g2,cap,cur,hv,_,hg,_,_,hs,ht⟩
 ·cases h
 ·cases hv
  rw[hg]
  have e:cur.toList=rpP k zP:=by
   rw[List.take_of_length_le (by rw[Array.length_toList];omega)]at ht
   rw[ht]
   exact ZfA zP k
  have e2:cur=(rpP k zP).toArray:=by rw[←e]
  rw[e2]
  rfl
def Zux (k:Nat) (p:List Value) (w:World) (e:Ending) (w':World):Prop:=
 e= .returned (.slice (some ⟨w.heap.size,0,none⟩) k k)∧w'.heap[w.heap.size]? =some (.cells (rpP k p).toArray 171 (0,0))∧Kept [] w w'
theorem Zdb (w:World) (B k:Nat) (p:List Value) (hp:p.length=2) (h1:∀v∈p,v.oneCell'=true) (hB:w.heap[B]? =some (.cells p.toArray 171 (0,0))) (hk:k < 100):
 Calls prog 162 #[.slice (some ⟨B,0,none⟩) 1 1,.int .i64 k] w (Zux k p w):=by
 have HM:=hh (Zqp w k hk)
 have HB:=hh hB
 have HP:=hh hp
 have H1:=hh h1
 obtain⟨ia,ha0,ha1,ha2,ha3⟩:=info_parts Zky
 have hma:ia.bytes*k≤281474976710656:=by rw[ha3];omega
 have hml:k≤maxLen:=by unfold maxLen;omega
 have h3:(k:Int) % 18446744073709551616=k:=by omega
 have h4:¬(9223372036854775807:Int) < (k:Int):=by omega
 have hBl:B < w.heap.size:=(Array.getElem?_eq_some_iff.1 hB).1
 clear hB hp h1
 go_enter func162,ntmps162
 go_wp2_with fail
 refine HM.out.mono ?_
 rintro e w1 ⟨rfl,hw1⟩
 obtain rfl:=hw1
 go_upto_region 7 with(at_make;refine wpList_make_full _ rfl _ _ 167 rfl w1.heap.size 171 ia _ 2 underlying167 ha0 ha1 ha2 .i64 .i64 _ _ k rfl rfl rfl rfl hma hml (Nat.le_refl _) ?_;intro w2 hown2 hgr2)
 have HN2:Hid (w2.heap[w1.heap.size]? =some (.cells (rpP 0 p++rpP (k - 0) zP).toArray 171 (0,0))):=Zp0 hown2
 have HK2:Hid (Kept [] w1 w2):=Kept.of_grown hgr2 (fun _ h=>by cases h)
 clear hown2 hgr2 hma
 have hmr:Nat.min 1 k≤k:=Nat.min_le_right 1 k
 have hm1:(rpP (Nat.min 1 k) p).length=Nat.min 1 k*2:=Qb _ HP.out
 have hm2:∀j v,(rpP (Nat.min 1 k) p)[j]? =some v→w2.cell? ((⟨B,0,none⟩:Addr).add j)=some v:=fun j v hj=>by
  rw[Addr.add_mid,Nat.zero_add,cell_of_row _ _ _ _ _ _ (HK2.out.obj HB.out (by simp))]
  have e:rpP 1 p=p:=by simp[rpP]
  rw[←ZhL HP.out (Nat.min_le_left 1 k),e]at hj
  have hjl:=(List.getElem?_eq_some_iff.1 hj).1
  rw[List.length_take]at hjl
  rw[List.getElem?_take,if_pos (by omega)]at hj
  simpa using hj
 have hm3:0+(rpP (Nat.min 1 k) p).length≤(rpP 0 p++rpP (k - 0) zP).toArray.size:=by
  rw[hm1,List.size_toArray,List.length_append,Qb _ HP.out,Qb _ rfl]
  omega
 have hm4:=ZgI (k:=Nat.min 1 k) H1.out
 go_upto_region 8 with(refine Qw rfl (.tmp 31) (.tmp 32) 167 167 rfl 171 2 underlying167 Zcd w1.heap.size 0 k k ⟨B,0,none⟩ 1 1 rfl rfl _ 171 HN2.out (rpP (Nat.min 1 k) p) hm1 hm2 hm3 hm4 ?_;intro w3 hg3 hgr3)
 have HN3:Hid (w3.heap[w1.heap.size]? =some (.cells (rpP (Nat.min 1 k) p++rpP (k - Nat.min 1 k) zP).toArray 171 (0,0))):=by
  have h:=ZhM (k:=k) (c:=0) (m:=Nat.min 1 k) HP.out (z:=zP) rfl (by omega)
  rw[Nat.zero_mul]at h
  rw[h,Nat.zero_add]at hg3
  exact hg3
 have HK3:Hid (Kept [] w1 w3):=HK2.out.grown hgr3 (fun q h=>by cases h;exact Nat.le_refl _)
 have hc1:=hmr
 have hc2:k=0∨0 < Nat.min 1 k:=by simp only[Nat.min_def];split <;> omega
 clear hg3 hgr3 hm1 hm2 hm3 hm4 HN2 HK2 hmr
 generalize Nat.min 1 k=c0 at*
 go_loopw [8] (fun s8 wr=>∃c:Nat,s8= .int .i64 c∧c≤k∧(k=0∨0 < c)∧wr.heap[w1.heap.size]? =some (.cells (rpP c p++rpP (k - c) zP).toArray 171 (0,0))∧Kept [] w1 wr) (fun s8 _=>k - (intOf s8).toNat)
 case atStart=>exact⟨c0,rfl,hc1,hc2,HN3.out,HK3.out⟩
 case round=>
  obtain⟨c,rfl,hck,hc0,hn,hkr⟩:=hrel
  have HN:=hh hn
  have HKR:=hh hkr
  clear hn hkr HN3 HK3 hc1 hc2
  by_cases hlt:c < k
  ·have hlt':(c:Int) < (k:Int):=by omega
   have h5:¬(k=c):=by omega
   have h6:(c:Int)≤(k:Int):=by omega
   have hmn:Nat.min c (k - c)≤k - c∧0 < Nat.min c (k - c)∧Nat.min c (k - c)≤c:=by simp only[Nat.min_def];split <;> omega
   obtain⟨hma,hmb,hmc⟩:=hmn
   go_wp2_with fail
   refine Q2 [(0,38,(.int .i64 c)),(1,39,(.slice (some ⟨w1.heap.size,0,none⟩) k k)),(2,40,(.int .i64 c)),(4,42,(.slice (some ⟨w1.heap.size,0,none⟩) k k)),(5,43,(.int .i64 c))] [(3,⟨41,[],false,.eq (.slice (some ⟨w1.heap.size,c*2,none⟩) (k - c) (k - c))⟩),(6,⟨44,[],false,.eq (.slice (some ⟨w1.heap.size,0,none⟩) c k)⟩)] [7,8,9] (by kernel_rfl) (by kernel_rfl) ⟨rfl,by kernel_rfl⟩ (by kernel_rfl) (fun _ _ _ _ _ h=>h) (by repeat(first | exact trivial | refine And.intro rfl ?_)) ?_
   apply Exists.intro
   refine⟨fun vs=>?_,?_⟩
   ·simp only[List.map_cons,List.map_nil,Q5,Jj,Act.put,List.setIfInBounds_toArray,List.set_cons_zero,List.set_cons_succ]
    exact rfl
   refine⟨⟨?_,?_,trivial⟩,?_⟩<;>intro vs Z w4 hk hZ hg
   all_goals
    simp only[ZW,List.flatMap_cons,List.flatMap_nil,List.getElem?_cons_zero,List.getElem?_cons_succ,Option.toList_some,List.cons_append,List.nil_append]
    haveI p_w4:Zb w4 _:=⟨hk⟩
    have hz_w4:=hk.size
    have HZ:=hh hZ
    clear hk hZ
    (try simp only[List.map_cons,List.map_nil,ZG,Zi,Z8,SZ.eq_p,SZ.ex_p,SZ.wx_p,SZ.new_p,Nat.reduceEqDiff,reduceIte,and_true]at hg)
   ·clear hg
    go_wp2_with fail
    exact⟨kp,rfl,Z,.inl ⟨rfl,rfl⟩,rfl⟩
   ·clear hg
    go_wp2_with fail
    exact⟨kp,rfl,Z,.inl ⟨rfl,rfl⟩,rfl⟩
   obtain⟨e41,e44⟩:=hg
   simp only[e41,e44]
   clear e41 e44
   have hk4:Kept [] wr w4:=kp
   have HN4:=hh (hk4.obj HN.out (by simp))
   have hq1:∀j v,(rpP (Nat.min c (k - c)) p)[j]? =some v→w4.cell? ((⟨w1.heap.size,0,none⟩:Addr).add j)=some v:=fun j v hj=>by
    rw[Addr.add_mid,Nat.zero_add,cell_of_row _ _ _ _ _ _ HN4.out]
    have hjl:=(List.getElem?_eq_some_iff.1 hj).1
    rw[Qb _ HP.out]at hjl
    rw[←Array.getElem?_toList,List.getElem?_append_left (by rw[Qb _ HP.out];omega)]
    rw[←ZhL HP.out hmc,List.getElem?_take,if_pos (by omega)]at hj
    exact hj
   have hq2:c*2+(rpP (Nat.min c (k - c)) p).length≤(rpP c p++rpP (k - c) zP).toArray.size:=by
    rw[Qb _ HP.out,List.size_toArray,List.length_append,Qb _ HP.out,Qb _ rfl]
    omega
   have hq3:(rpP (Nat.min c (k - c)) p).length=Nat.min c (k - c)*2:=Qb _ HP.out
   have hq4:=ZgI (k:=Nat.min c (k - c)) H1.out
   have h7:(c:Int)+((Nat.min c (k - c):Nat):Int) < 9223372036854775808:=by omega
   have h8: -9223372036854775808≤(c:Int)+((Nat.min c (k - c):Nat):Int):=by omega
   go_wp2_with (refine Qw rfl (.tmp 41) (.tmp 44) 167 167 rfl 171 2 underlying167 Zcd w1.heap.size (c*2) (k - c) (k - c) ⟨w1.heap.size,0,none⟩ c k rfl rfl _ 171 HN4.out (rpP (Nat.min c (k - c)) p) hq3 hq1 hq2 hq4 ?_;intro w5 hg5 hgr5)
   have HN5:Hid (w5.heap[w1.heap.size]? =some (.cells (rpP (c+Nat.min c (k - c)) p++rpP (k - (c+Nat.min c (k - c))) zP).toArray 171 (0,0))):=by
    have h:=ZhM (k:=k) (c:=c) (m:=Nat.min c (k - c)) HP.out (z:=zP) rfl (by omega)
    rw[h]at hg5
    exact hg5
   have HK5:Hid (Kept [] w1 w5):=(HKR.out.trans hk4).grown hgr5 (fun q h=>by cases h;exact Nat.le_refl _)
   clear hg5 hgr5 hk4 HN4 hq1 hq2 hq3 hq4
   go_roundw
   case rel=>exact⟨c+Nat.min c (k - c),by go_num,by omega,.inr (by omega),HN5.out,HK5.out⟩
   case measure=>simp[intOf];omega
  ·obtain rfl:c=k:=by omega
   go_wp2_with fail
   refine bodyPost_ret (Zj results162 (Zh rfl)) rfl ⟨rfl,?_,HKR.out⟩
   have h:=HN.out
   rw[Nat.sub_self,show rpP 0 zP= []from rfl,List.append_nil]at h
   exact h
def SZ.rp (k:Nat) (p:List Value):SZ:=⟨fun _ v w=>∃B,v= .slice (some ⟨B,0,none⟩) k k∧w.heap[B]? =some (.cells (rpP k p).toArray 171 (0,0)),fun _ _ _ _ _ ⟨B,h1,h2⟩ hk _ _=>⟨B,h1,hk.obj h2 (by simp)⟩⟩
theorem SZ.rp_p (k:Nat) (p:List Value) (Z:List Nat) (v:Value) (w:World):(SZ.rp k p).p Z v w=∃B,v= .slice (some ⟨B,0,none⟩) k k∧w.heap[B]? =some (.cells (rpP k p).toArray 171 (0,0)):=rfl
def Zmj (N k:Nat) (p:List Value) (w:World) (e:Ending) (w':World):Prop:=
 e= .returned (.tuple #[])∧w'.heap[N]? =some (.cells (rpP k p).toArray 171 (0,0))∧Kept [N] w w'
theorem ZhK (w:World) (BL N k:Nat) (cur:Array Value) (t:Int) (b:Bool) (hB:w.heap[BL]? =some (.cells #[.slice (some ⟨N,0,none⟩) k k] 167 (0,0)))
 (hN:w.heap[N]? =some (.cells cur 171 (0,0))) (hc:cur.size=k*2) (hk:k < 100):
 Calls prog 163 #[.agg #[.int .i64 t,.bool b],.pointer (some ⟨BL,0,none⟩)] w (Zmj N k [.int .i64 t,.bool b] w):=by
 haveI bL:Zc w BL 167 #[.slice (some ⟨N,0,none⟩) k k]:=⟨hB⟩
 have HN:=hh hN
 have HC:=hh hc
 have HR:=hh (fun(w':World) B h=>Zdb w' B k [.int .i64 t,.bool b] rfl (by simp[Value.oneCell']) h hk)
 clear hB hN hc
 go_enter func163,ntmps163
 go_upto_region 1 with fail
 refine Zn [⟨3,[],false,.eq (.slice (some ⟨N,0,none⟩) k k)⟩,⟨4,[],false,.eq (.agg #[.int .i64 t,.bool b])⟩,⟨5,[4],false,.rp 1 [.int .i64 t,.bool b]⟩,⟨6,[],false,.eq (.slice (some ⟨N,0,none⟩) k k)⟩,⟨7,[6],false,.eq (.int .i64 k)⟩,⟨8,[5,7],false,.rp k [.int .i64 t,.bool b]⟩] (by kernel_rfl) (by kernel_rfl) ?_
 apply Exists.intro
 refine⟨fun vs=>?_,?_⟩
 ·simp only[List.map_cons,List.map_nil,PSz.toP,Jj,Act.put,List.setIfInBounds_toArray,List.set_cons_zero,List.set_cons_succ]
  exact rfl
 refine⟨⟨?_,?_,?_,?_,?_,?_,trivial⟩,?_⟩<;>intro vs Z w1 hk hZ hg
 all_goals
  haveI p_w1:Zb w1 _:=⟨hk⟩
  have hz_w1:=hk.size
  have HZ:=hh hZ
  clear hk hZ
  (try simp only[ZG,Zi,Z8,SZ.eq_p,SZ.ex_p,SZ.wx_p,SZ.new_p,SZ.rp_p,Nat.reduceEqDiff,reduceIte,and_true]at hg)
 ·clear hg
  go_wp2_with fail
  exact⟨kp,rfl,Z,.inl ⟨rfl,rfl⟩,rfl⟩
 ·clear hg
  go_wp2_with fail
  exact⟨kp,rfl,Z,.inl ⟨rfl,rfl⟩,rfl⟩
 ·obtain e4:=hg
  (try simp only[e4])
  go_wp2_with fail
  exact⟨kp,rfl,Z,.inl ⟨rfl,rfl⟩,_,rfl,Zf rfl⟩
 ·clear hg
  go_wp2_with fail
  exact⟨kp,rfl,Z,.inl ⟨rfl,rfl⟩,rfl⟩
 ·obtain e6:=hg
  (try simp only[e6])
  go_wp2_with fail
  exact⟨kp,rfl,Z,.inl ⟨rfl,rfl⟩,rfl⟩
 ·obtain⟨⟨B5,e5,b5⟩,e7⟩:=hg
  (try simp only[e7])
  go_wp2_with fail
  refine(HR.out _ B5 (by simpa [rpP]using b5)).mono ?_
  rintro e w8 ⟨rfl,h8,hk8⟩
  go_wp2_with fail
  exact⟨hk8,rfl,Z,.inl ⟨rfl,rfl⟩,_,rfl,h8⟩
 obtain⟨e3,e4,⟨B5,e5,b5⟩,e6,e7,⟨B8,e8,b8⟩⟩:=hg
 simp only[e3,e4,e5,e6,e7,e8]
 have HN1:=hh ((show Kept [] w w1 from kp).obj HN.out (by simp))
 have hz:zIn (w.alloc (.cells #[.int .i64 t,.bool b] 171)) Z w1:=HZ.out
 have hcl:(rpP k [.int .i64 t,.bool b]).length=k*2:=Qb k rfl
 have hq1:∀j v,(rpP k [.int .i64 t,.bool b])[j]? =some v→w1.cell? ((⟨B8,0,none⟩:Addr).add j)=some v:=fun j v hj=>by
  rw[Addr.add_mid,Nat.zero_add,cell_of_row _ _ _ _ _ _ b8]
  simpa using hj
 have hq2:0+(rpP k [.int .i64 t,.bool b]).length≤cur.size:=by rw[hcl,HC.out];omega
 have hq3:(rpP k [.int .i64 t,.bool b]).length=Nat.min k k*2:=by rw[hcl];simp[Nat.min_def]
 have hq4:=ZgI (k:=k) (p:=[.int .i64 t,.bool b]) (by simp[Value.oneCell'])
 simp only[List.drop_succ_cons,List.drop_zero,List.length_cons,List.length_nil]
 refine Qw rfl (.tmp 3) (.tmp 8) 167 167 rfl 171 2 underlying167 Zcd N 0 k k ⟨B8,0,none⟩ k k rfl rfl cur 171 HN1.out (rpP k [.int .i64 t,.bool b]) hq3 hq1 hq2 hq4 ?_
 intro w5 hg5 hgr5
 go_wp2_with fail
 refine bodyPost_ret (v:= .tuple #[]) (by simp[results,results163,go_sem]) rfl ⟨rfl,?_,?_⟩
 ·rw[List.take_zero,List.nil_append,List.drop_of_length_le (by rw[Array.length_toList,hcl,HC.out];omega),List.append_nil]at hg5
  exact hg5
 ·have hk1:Kept [] w w1:=kp
  exact(hk1.mono (by simp)).trans (Kept.of_grown hgr5 (fun q h _=>by cases h;simp))
theorem Zfw (x:ExV):Yz x.er=Yz x:=by rw[Yz,Yz,ExV.er_kind]
theorem JY (t:Tab) (x:ExV):Jq t x.er=Jq t x:=by rw[Jq,Jq,Zfw,ExV.er_ent]
theorem Zk4 (t:Tab) (x:ExV):JM t x.er=JM t x:=by rw[JM,JM,Zfw,ExV.er_ent]
theorem Ziq (t:Tab) (x:ExV):ZbC t x.er=ZbC t x:=by
 rw[ZbC,ZbC,ExV.er_ls,ExV.er_s]
 rcases x.ls with _ | ⟨y,_ | ⟨z,r⟩⟩
 ·rfl
 ·simp only[List.map_cons,List.map_nil,Zk4,JY]
 ·rfl
theorem Zdw (t:Tab) (x:ExV):Q9 t x.er=Q9 t x:=by
 rw[Q9,Q9,ExV.er_ls]
 rcases x.ls with _ | ⟨p,r⟩
 ·rfl
 ·simp only[List.map_cons,ExV.er_s,ExV.er_kind,ExV.er_ls]
  rcases p.ls with _ | ⟨q,_ | ⟨q2,r2⟩⟩
  ·rfl
  ·simp only[List.map_cons,List.map_nil,JY]
  ·rfl
theorem ZeJ {I:ExV→Bool} (hI:∀y,I y.er=I y) (l:List ExV) (n:Nat):ZbQ I (l.map ExV.er) n=ZbQ I l n:=by
 rw[ZbQ,ZbQ,List.length_map,List.all_map]
 congr 2
 funext y
 exact hI y
theorem Zot {I:ExV→Bool} (hI:∀y,I y.er=I y) (t:Tab) (x:ExV):ZaS I t x.er=ZaS I t x:=by
 rw[ZaS,ZaS,ExV.er_ls,ExV.er_al,Zdw,ExV.er_ent]
 rcases x.ls with _ | ⟨y,_ | ⟨z,r⟩⟩
 ·rfl
 ·rcases x.al with _ | ⟨a,_ | ⟨b,r⟩⟩
  ·rfl
  ·simp only[List.map_cons,List.map_nil,AsV.er,hI]
  ·rfl
 ·rfl
theorem Zsh {I:ExV→Bool} (hI:∀y,I y.er=I y) (t:Tab) (x:ExV):inF I t x.er=inF I t x:=by
 rw[inF,inF,ExV.er_ls]
 have h:=ZeJ hI x.ls 3
 rcases hl:x.ls with _ | ⟨y,_ | ⟨z,_ | ⟨z2,r⟩⟩⟩
 ·rfl
 ·rw[hl]at h;exact h
 ·simp only[List.map_cons,List.map_nil,JY,hI]
 ·rw[hl]at h;exact h
theorem Znf {I:ExV→Bool} (hI:∀y,I y.er=I y) (t:Tab) (x:ExV):Zcb I t x.er=Zcb I t x:=by
 rw[Zcb,Zcb,ExV.er_ls]
 rcases x.ls with _ | ⟨y,_ | ⟨z,_ | ⟨z2,r⟩⟩⟩
 ·rfl
 ·rfl
 ·simp only[List.map_cons,List.map_nil,JY,hI]
 ·rfl
theorem Zph (t:Tab):∀(n:Nat) (x:ExV),isP t n x.er=isP t n x
 | 0,_=>rfl
 | n+1,x=>by
  have hI:=Zph t n
  rw[isP,isP,isF,isF,Zot hI,Zsh hI,Znf hI,Ziq,ExV.er_kind,ExV.er_ent,ExV.er_oper,ExV.er_t,ExV.er_ls,ZeJ hI,ZeJ hI,ZeJ hI]
theorem ZlN:(default:ExV).er=default:=by
 show ExV.er (ExV.mk default default default default default default default default default default default default default)=_
 rw[ExV.er_mk]
 rfl
theorem Zhd (l:List ExV) (i:Nat):(l.map ExV.er).getD i default=(l.getD i default).er:=by
 rw[List.getD_eq_getElem?_getD,List.getD_eq_getElem?_getD,List.getElem?_map]
 cases l[i]? with
 | none=>exact ZlN.symm
 | some x=>rfl
theorem ZkW (x:ExV):l0 x.er=(l0 x).er:=by rw[l0,l0,ExV.er_ls,Zhd]
theorem ZnF (x:ExV):l1 x.er=(l1 x).er:=by rw[l1,l1,ExV.er_ls,Zhd]
theorem Zsb (x:ExV):l2 x.er=(l2 x).er:=by rw[l2,l2,ExV.er_ls,Zhd]
theorem Zus (x:ExV):a0 x.er=(a0 x).er:=by
 rw[a0,a0,ExV.er_al,List.getD_eq_getElem?_getD,List.getD_eq_getElem?_getD,List.getElem?_map]
 cases x.al[0]? with
 | none=>exact ZlN.symm
 | some x=>rfl
theorem Zp9 {V:ExV→Option Int} (hV:∀y,V y.er=V y) (t:Tab) (x:ExV):Qv V t x.er=Qv V t x:=by
 have e1:Zjk t x.er=Zjk t x:=by rw[Zjk,Zjk,Ziq,ExV.er_s]
 have e2:ZlS V t x.er=ZlS V t x:=by rw[ZlS,ZlS,Zus,hV,Zdw,ExV.er_ent]
 have e3:ZiQ V t x.er=ZiQ V t x:=by rw[ZiQ,ZiQ,ZnF,ZkW,hV,JY]
 have e4:Zcj V t x.er=Zcj V t x:=by rw[Zcj,Zcj,ZkW,ZnF,Zsb,hV,hV,hV,JY,ExV.er_ls,List.length_map]
 have e5:ZgV V x.er=ZgV V x:=by rw[ZgV,ZgV,ZkW,hV,ExV.er_oper]
 have e6:dyV V x.er=dyV V x:=by rw[dyV,dyV,ZkW,ZnF,hV,hV,ExV.er_oper]
 have e7:ifV V x.er=ifV V x:=by rw[ifV,ifV,ZkW,ZnF,Zsb,hV,hV,hV]
 rw[Qv,Qv,e1,e2,e3,e4,e5,e6,e7,ExV.er_kind,ExV.er_n,ExV.er_ent]
theorem ZjO (t:Tab):∀(n:Nat) (x:ExV),ZF t n x.er=ZF t n x
 | 0,_=>rfl
 | n+1,x=>by rw[ZF,ZF,Zjs,Zjs,Zp9 (ZjO t n),ExV.er_t]
theorem ZbZ (t:Tab) (n:Nat) (x:ExV):Zv t n x.er=Zv t n x:=by rw[Zv,Zv,Zph,ZjO]
def JF (n:Int):Int:=if n=0 then 90 else if n=1 then 0 else 91
theorem Zgo (w:World) (n:Int):Calls prog 44 #[.int .i64 n] w (ZmC (.int .i64 (JF n)) w):=by
 by_cases h0:n=0
 ·subst h0
  go_enter func44,ntmps44
  go_wp2_with fail
  exact ZS rfl (Zj results44 (Zh rfl))
 ·by_cases h1:n=1
  ·subst h1
   go_enter func44,ntmps44
   go_wp2_with fail
   exact ZS rfl (Zj results44 (Zh rfl))
  ·have HW:Hid (JF n=91):=by rw[Hid,JF,if_neg h0,if_neg h1]
   have g0:(n == 0)=false:=by simp[h0]
   have g1:(n == 1)=false:=by simp[h1]
   go_enter func44,ntmps44
   go_wp2_with fail
   rw[HW.out]
   exact ZS rfl (Zj results44 (Zh rfl))
theorem ZoA (w:World) (BS BL N k:Nat) (cur:Array Value) (t:Int) (hS:w.heap[BS]? =some (.cells #[.func (.func 163) #[] #[.pointer (some ⟨BL,0,none⟩)]] 237 (0,0)))
 (hB:w.heap[BL]? =some (.cells #[.slice (some ⟨N,0,none⟩) k k] 167 (0,0)))
 (hN:w.heap[N]? =some (.cells cur 171 (0,0))) (hc:cur.size=k*2) (hk:k < 100):
 Calls prog 164 #[.int .i64 t,.pointer (some ⟨BS,0,none⟩)] w (Zmj N k [.int .i64 t,.bool false] w):=by
 haveI bS:Zc w BS 237 #[.func (.func 163) #[] #[.pointer (some ⟨BL,0,none⟩)]]:=⟨hS⟩
 have HS:=hh (ZhK w BL N k cur t false hB hN hc hk)
 have hen:∀args w,(callFunc 163 args).run prog w= .ok (.enter 163 args) w:=Go.Proofs.enters_of func163 (by kernel_rfl) rfl
 clear hS hB hN hc
 go_enter func164,ntmps164
 go_wp2_with fail
 refine HS.out.mono ?_
 rintro e w1 ⟨rfl,h1,h2⟩
 go_wp2_with fail
 exact bodyPost_ret (v:= .tuple #[]) (by simp[results,results164,go_sem]) rfl ⟨rfl,h1,h2⟩
theorem Znr (w:World) (R B mr:Nat) (v:Zp) (t:Tab) (h:WhV) (n:Nat) (x:ExV) [Zc w B 102 #[.pointer (some ⟨R,0,none⟩)]] (hR:Qo w R mr v t h) (hx:Qe w n x):
 Calls prog 237 (#[]++ #[.agg x.cells.toArray]++ #[.pointer (some ⟨B,0,none⟩)]) w (ZE (.bool ((Zv t n x).2 != 0)) w):=by
 have HV:=hh (fun w' (hk:Kept [] w w')=>ZbR w' v t x n (Zb0 v t n) (hR.tab.kept hk) (hx.kept hk))
 haveI:=hR.is
 generalize hvp:Zv t n x=vp at*
 clear hR hx hvp
 unfold Zaz Zp.cells at*
 go_enter func237,ntmps237
 go_upto_region 1 with fail
 refine Zn [⟨7,[],false,.eq (.pointer (some ⟨R,0,none⟩))⟩,⟨8,[7],false,.eq (.pointer (some ⟨R,0,none⟩))⟩,⟨9,[8],false,.eq (.pointer (some ⟨R,0,none⟩))⟩,⟨10,[9],false,.eq (.agg (v.cells t))⟩,⟨11,[],false,.eq (.agg x.cells.toArray)⟩,⟨12,[10,11],false,.eq (.tuple #[.int .i64 vp.1,.int .i64 vp.2])⟩,⟨6,[12],false,.eq (.tuple #[.int .i64 vp.1,.int .i64 vp.2])⟩,⟨13,[6],false,.eq (.int .i64 vp.1)⟩,⟨14,[6],false,.eq (.int .i64 vp.2)⟩,⟨4,[13],false,.eq (.int .i64 vp.1)⟩] (by kernel_rfl) (by kernel_rfl) ?_
 apply Exists.intro
 refine⟨fun vs=>?_,?_⟩
 ·simp only[List.map_cons,List.map_nil,PSz.toP,Jj,Act.put,List.setIfInBounds_toArray,List.set_cons_zero,List.set_cons_succ]
  exact rfl
 refine⟨⟨?_,?_,?_,?_,?_,?_,?_,?_,?_,?_,trivial⟩,?_⟩<;>intro vs Z w1 hk hZ hg
 all_goals
  haveI p_w1:Zb w1 _:=⟨hk⟩
  have hz_w1:=hk.size
  have HZ:=hh hZ
  clear hk hZ
  (try simp only[ZG,Zi,Z8,SZ.eq_p,SZ.ex_p,SZ.wx_p,SZ.new_p,Nat.reduceEqDiff,reduceIte,and_true]at hg)
 ·clear hg
  go_wp2_with fail
  exact⟨kp,rfl,Z,.inl ⟨rfl,rfl⟩,rfl⟩
 ·obtain e7:=hg
  (try simp only[e7])
  go_wp2_with fail
  exact⟨kp,rfl,Z,.inl ⟨rfl,rfl⟩,rfl⟩
 ·obtain e8:=hg
  (try simp only[e8])
  go_wp2_with fail
  exact⟨kp,rfl,Z,.inl ⟨rfl,rfl⟩,rfl⟩
 ·obtain e9:=hg
  (try simp only[e9])
  go_wp2_with fail
  exact⟨kp,rfl,Z,.inl ⟨rfl,rfl⟩,rfl⟩
 ·clear hg
  go_wp2_with fail
  exact⟨kp,rfl,Z,.inl ⟨rfl,rfl⟩,rfl⟩
 ·obtain⟨e10,e11⟩:=hg
  (try simp only[e10,e11])
  go_wp2_with fail
  refine(HV.out _ kp).mono ?_
  rintro e w8 ⟨rfl,hk8⟩
  go_wp2_with fail
  exact⟨hk8,rfl,Z,.inl ⟨rfl,rfl⟩,rfl⟩
 ·obtain e12:=hg
  (try simp only[e12])
  go_wp2_with fail
  exact⟨kp,rfl,Z,.inl ⟨rfl,rfl⟩,rfl⟩
 ·obtain e6:=hg
  (try simp only[e6])
  go_wp2_with fail
  exact⟨kp,rfl,Z,.inl ⟨rfl,rfl⟩,rfl⟩
 ·obtain e6:=hg
  (try simp only[e6])
  go_wp2_with fail
  exact⟨kp,rfl,Z,.inl ⟨rfl,rfl⟩,rfl⟩
 ·obtain e13:=hg
  (try simp only[e13])
  go_wp2_with fail
  exact⟨kp,rfl,Z,.inl ⟨rfl,rfl⟩,rfl⟩
 obtain⟨e7,e8,e9,e10,e11,e12,e6,e13,e14,e4⟩:=hg
 simp only[e7,e8,e9,e10,e11,e12,e6,e13,e14,e4]
 go_wp2_with fail
 exact Za rfl (Zj results237 (Zh rfl)) kp
def ZiS (t:Tab) (n:Nat) (l:List ExV):Int:=
 match l.find? (fun x=>x.t != 0)with
 | some x=>x.t
 | none=>if l.any (fun x=>(Zv t n x).2 != 0)then 1 else 0
theorem Zqf (t:Tab) (n:Nat) (l:List ExV):ZiS t n (l.map ExV.er)=ZiS t n l:=by
 have h:∀l:List ExV,(l.map ExV.er).find? (fun x=>x.t != 0)=(l.find? (fun x=>x.t != 0)).map ExV.er:=by
  intro l
  induction l with
  | nil=>rfl
  | cons a r ih=>rw[List.map_cons,List.find?_cons,List.find?_cons,ExV.er_t,ih];split <;> rfl
 rw[ZiS,ZiS,h]
 have e:(l.map ExV.er).any (fun x=>(Zv t n x).2 != 0)=l.any (fun x=>(Zv t n x).2 != 0):=by
  rw[List.any_map]
  congr 1
  funext y
  show((Zv t n y.er).2 != 0)=_
  rw[ZbZ]
 rw[e]
 cases l.find? (fun x=>x.t != 0)with
 | none=>rfl
 | some x=>exact ExV.er_t x
theorem ZqK {l:List ExV} {k:Nat} {x:ExV} (hn:(l.take k).all (fun x=>x.t == 0)=true) (hx:l[k]? =some x) (ht:(x.t != 0)=true):l.find? (fun x=>x.t != 0)=some x:=by
 obtain⟨hk,e⟩:=List.getElem?_eq_some_iff.1 hx
 rw[←List.take_append_drop k l,List.find?_append,List.drop_eq_getElem_cons hk,e,List.find?_cons,ht]
 have:(l.take k).find? (fun x=>x.t != 0)=none:=by
  rw[List.find?_eq_none]
  intro y hy
  have:=List.all_eq_true.1 hn y hy
  simpa using this
 rw[this]
 rfl
theorem ZqJ {l:List ExV} (hn:l.all (fun x=>x.t == 0)=true):l.find? (fun x=>x.t != 0)=none:=by
 rw[List.find?_eq_none]
 intro y hy
 have:=List.all_eq_true.1 hn y hy
 simpa using this
theorem Tryz.entersOpd1:∀args w,(callFunc 237 args).run prog w= .ok (.enter 237 args) w:=Go.Proofs.enters_of func237 (by kernel_rfl) rfl
theorem Zfs (w:World) (R mr:Nat) (v:Zp) (t:Tab) (h:WhV) (n:Nat) (A:Option Addr) (c:Nat) (l:List ExV) (hR:Qo w R mr v t h) (hr:Zo ExV 9 ExV.cells w A l) (hl:l.length≤140737488355328) (hx:∀x,x∈l→Qe w n x):
 Calls prog 165 #[.pointer (some ⟨R,0,none⟩),.slice A l.length c] w (ZE (.int .i64 (ZiS t n l)) w):=by
 have HA:=hh (fun(W:World) (hk:Kept [] w W) (B:Nat) (hB:Zc W B 102 #[.pointer (some ⟨R,0,none⟩)])=>
  ZaK W A c l hl (hr.kept hk) 237 #[] #[.pointer (some ⟨B,0,none⟩)] (fun x=>(Zv t n x).2 != 0) Tryz.entersOpd1 (fun W2 x hk2 hxm=>
   haveI:Zc W2 B 102 #[.pointer (some ⟨R,0,none⟩)]:=⟨hk2.obj hB.1 (by simp)⟩
   Znr W2 R B mr v t h n x (hR.kept (hk.trans hk2)) ((hx x hxm).kept (hk.trans hk2))))
 have HI:=hh hr
 have HW:Hid (ZiS t n l=match l.find? (fun x=>x.t != 0)with | some x=>x.t | none=>if l.any (fun x=>(Zv t n x).2 != 0)then 1 else 0):=rfl
 clear hR hr hx
 go_enter func165,ntmps165
 go_wp2_with fail
 go_loopw [9] (fun s9 wr=>∃k:Nat,s9= .int .i64 k∧k≤l.length∧(l.take k).all (fun x=>x.t == 0)=true∧Kept [] (w.alloc (.cells #[.pointer (some ⟨R,0,none⟩)] 102)) wr) (fun s9 _=>l.length - (intOf s9).toNat)
 case atStart=>exact⟨0,rfl,Nat.zero_le _,rfl,Kept.refl _ _⟩
 case round=>
  obtain⟨k,rfl,hk,hall,hkr⟩:=hrel
  have HN:=hh hall
  have HKR:=hh hkr
  haveI p_wr:Zb wr (w.alloc (.cells #[.pointer (some ⟨R,0,none⟩)] 102)):=⟨hkr⟩
  clear hall hkr
  obtain⟨wo,rfl⟩:∃wo:World,wo=wr:=⟨_,rfl⟩
  by_cases hlt:k < l.length
  ·obtain⟨x,hx⟩:∃x,l[k]? =some x:=⟨_,List.getElem?_eq_getElem hlt⟩
   have HX:=hh hx
   rcases HI.out with h0 | ⟨b,o,rfl,hcx⟩
   ·rw[h0]at hlt;simp at hlt
   ·haveI ie:Q1 wo b (o+k*9) x:=⟨fun j u hu=>HKR.out.cell ((Kept.alloc [] w _).cell (hcx k x hx j u hu) (by simp)) (by simp)⟩
    clear hcx hx
    have hlt':(k:Int) < (l.length:Int):=by omega
    by_cases ht:x.t=0
    ·have ht':(x.t != 0)=false:=by simp[ht]
     have HS:Hid ((l.take (k+1)).all (fun x=>x.t == 0)=true):=by
      obtain⟨hk',e⟩:=List.getElem?_eq_some_iff.1 HX.out
      rw[Hid,List.take_succ_eq_append_getElem hk',e,List.all_append,HN.out]
      simp[ht]
     clear ht
     go_wp2_with fail
     go_roundw
     case rel=>exact⟨k+1,by go_num,by omega,HS.out,kp⟩
     case measure=>simp[intOf];omega
    ·have ht':(x.t != 0)=true:=by simp[ht]
     have HO:Hid (ZiS t n l=x.t):=by
      have e:=HW.out
      rw[ZqK HN.out HX.out ht']at e
      exact e
     go_wp2_with fail
     rw[HO.out]
     exact Za rfl (Zj results165 (Zh rfl)) kp
  ·obtain rfl:k=l.length:=by omega
   have HO:Hid (ZiS t n l=if l.any (fun x=>(Zv t n x).2 != 0)then 1 else 0):=by
    have e:=HW.out
    rw[ZqJ (by have:=HN.out;rwa [List.take_length]at this)]at e
    exact e
   have hnl:¬(l.length:Int) < (l.length:Int):=by omega
   go_wp2_with fail
   refine nxt (HA.out _ kp w.heap.size ⟨HKR.out.obj (Zf rfl) (by simp)⟩) fun w8 p_w8=>?_;have hz_w8:=szk w w8
   cases hb:l.any (fun x=>(Zv t n x).2 != 0)
   ·rw[hb]at HO
    go_wp2_with fail
    rw[HO.out]
    exact Za rfl (Zj results165 (Zh rfl)) kp
   ·rw[hb]at HO
    go_wp2_with fail
    rw[HO.out]
    exact Za rfl (Zj results165 (Zh rfl)) kp
end
end Go.Proofs.YtfaecpkocgcofaaGreatDoor
