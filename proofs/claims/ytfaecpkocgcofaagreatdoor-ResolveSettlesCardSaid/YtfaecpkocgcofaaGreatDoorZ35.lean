/- Lemmas for ResolveSettles, printed small: M7. -/
import Derived.Test.YtfaecpkocgcofaaGreatDoorZ34
set_option linter.all false
set_option maxRecDepth 100000
set_option maxHeartbeats 8000000
open Go.Proofs.Tryz
namespace Go.Proofs.YtfaecpkocgcofaaGreatDoor
section
open Go.RowKit
def Jo (assoc:List AsV→Bool):Nat→Int→Int→ExV→Bool×Int
 | 0,_,l,_=>(false,l)
 | n+1,d,l,x=>if l - 1 < 0 then(false,l - 1)else if 32 < d then(false,l - 1)else if ZZ assoc x then Z1 (fun l y=>Jo assoc n (d+1) l y) (Za2 x) (l - 1)else(false,l - 1)
theorem Zie {F:Int→ExV→Bool×Int}:∀{A:List ExV} {l:Int},(∀l y,y∈A→0≤l∧l≤256→(F l y).1=true→0≤(F l y).2∧(F l y).2≤256)→0≤l∧l≤256→(Z1 F A l).1=true→0≤(Z1 F A l).2∧(Z1 F A l).2≤256
 | [],l,_,h,_=>h
 | y::A,l,hF,h,h1=>by
  unfold Z1 at h1⊢
  split at h1
  ·rename_i h2
   rw[if_pos h2]
   exact Zie (fun l y hy=>hF l y (by simp[hy])) (hF l y (by simp) h h2) h1
  ·cases h1
theorem ZkN {assoc:List AsV→Bool}:∀{n:Nat} {d l:Int} {x:ExV},0≤l∧l≤256→(Jo assoc n d l x).1=true→0≤(Jo assoc n d l x).2∧(Jo assoc n d l x).2≤256
 | 0,_,_,_,_,h=>by cases h
 | n+1,d,l,x,h,h1=>by
  unfold Jo at h1⊢
  split at h1
  ·cases h1
  ·rename_i h2
   rw[if_neg h2]
   split at h1
   ·cases h1
   ·rename_i h3
    rw[if_neg h3]
    split at h1
    ·rename_i h4
     rw[if_pos h4]
     exact Zie (fun l y _ hl=>ZkN hl) (by omega) h1
    ·cases h1
def Zmo (assoc:List AsV→Bool):Prop:=∀(w:World) (A:Option Addr) (c:Nat) (l:List AsV),ZeO w A l→Calls prog 180 #[.slice A l.length c] w (ZE (.bool (assoc l)) w)
theorem Tryz.entersMay11:∀args w,(callFunc 129 args).run prog w= .ok (.enter 129 args) w:=Go.Proofs.enters_of func129 (by kernel_rfl) rfl
theorem Tryz.entersMay1:∀args w,(callFunc 128 args).run prog w= .ok (.enter 128 args) w:=Go.Proofs.enters_of func128 (by kernel_rfl) rfl
def Zrr (BL BD BA:Nat):Value:= .func (.func 129) #[] #[.pointer (some ⟨BL,0,none⟩),.pointer (some ⟨BD,0,none⟩),.pointer (some ⟨BA,0,none⟩)]
def ZuA (BL BA:Nat) (d:Int) (w:World) (e:Ending) (w':World):Prop:=∃BD,e= .returned (Zrr BL BD BA)∧w'.heap[BD]? =some (.cells #[.int .i64 d] 3 (0,0))∧w.heap.size≤BD∧Kept [] w w'
theorem Zfz (w:World) (BL BA:Nat) (d:Int):Calls prog 128 (#[.int .i64 d]++ #[.pointer (some ⟨BL,0,none⟩),.pointer (some ⟨BA,0,none⟩)]) w (ZuA BL BA d w):=by
 go_enter func128,ntmps128
 go_wp2_with fail
 go_ret
 exact⟨w.heap.size,rfl,Zf rfl,Nat.le_refl _,Kept.alloc _ _ _⟩
def SZ.mv (BL BA:Nat) (d:Int) (X:List Nat):SZ:=⟨fun Z v w=>∃BD,v=Zrr BL BD BA∧w.heap[BD]? =some (.cells #[.int .i64 d] 3 (0,0))∧BD∉X,fun _ _ _ _ _ ⟨B,h1,h2,h3⟩ hk _ _=>⟨B,h1,hk.obj h2 (by simp),h3⟩⟩
theorem SZ.mv_p (BL BA:Nat) (d:Int) (X:List Nat) (Z:List Nat) (v:Value) (w:World):(SZ.mv BL BA d X).p Z v w=∃BD,v=Zrr BL BD BA∧w.heap[BD]? =some (.cells #[.int .i64 d] 3 (0,0))∧BD∉X:=rfl
theorem ZjK (assoc:List AsV→Bool) (hAS:Zmo assoc) (BL BA:Nat):∀(n:Nat) (w:World) (BD:Nat) (d l:Int) (x:ExV),34≤d+n→d≤33→0≤d→0≤l∧l≤256→Zc w BL 3 #[.int .i64 l]→Zc w BD 3 #[.int .i64 d]→
 Zc w BA 197 #[.func (.func 128) #[] #[.pointer (some ⟨BL,0,none⟩),.pointer (some ⟨BA,0,none⟩)]]→BD≠BL→BA≠BL→ExD [BL] w x→(∀W,Kept [BL] w W→Zf8 W)→
 Calls prog 129 (#[.agg x.cells.toArray]++ #[.pointer (some ⟨BL,0,none⟩),.pointer (some ⟨BD,0,none⟩),.pointer (some ⟨BA,0,none⟩)]) w (Ztk BL (Jo assoc n d l x) w):=by
 intro n
 induction n with
 | zero=>intro w BD d l x h1 h2;exfalso;omega
 | succ n ih=>
 intro w BD d l x hn hd33 hd0 hl hbl hbd hba hne2 hne3 hx hT
 have hbl2:=(Array.getElem?_eq_some_iff.1 hbl.has).1
 have hne1:w.heap.size≠BL:=by omega
 have HX:=hh hx
 have HT:=hh hT
 have HFI:Hid (∀W,Kept [BL] w W→Calls prog 130 #[.agg x.cells.toArray] W (ZE (.bool (ZZ assoc x)) W)):=fun W hk=>by
  have h1:=ZfP hx W hk
  exact Zi7 assoc W x (hT W hk) h1.1 h1.2.1 h1.2.2 (fun _ W2 hk2=>hAS W2 _ _ _ (h1.2.2.kept hk2))
 have HV:Hid (Jo assoc (n+1) d l x=if l - 1 < 0 then(false,l - 1)else if 32 < d then(false,l - 1)else if ZZ assoc x then Z1 (fun l y=>Jo assoc n (d+1) l y) (Za2 x) (l - 1)else(false,l - 1)):=rfl
 have HEA:Hid (∀W BD2,32≥d→0≤l - 1→Kept [BL] w W→W.heap[BL]? =some (.cells #[.int .i64 (l - 1)] 3 (0,0))→W.heap[BD2]? =some (.cells #[.int .i64 (d+1)] 3 (0,0))→BD2≠BL→
  W.heap[BA]? =some (.cells #[.func (.func 128) #[] #[.pointer (some ⟨BL,0,none⟩),.pointer (some ⟨BA,0,none⟩)]] 197 (0,0))→
  Calls prog 131 #[.agg x.cells.toArray,Zrr BL BD2 BA] W (Ztk BL (Z1 (fun l y=>Jo assoc n (d+1) l y) (Za2 x) (l - 1)) W)):=fun W BD2 h32 hl1 hk hb hb2 hne hb3=>by
  refine Zoh (fun l y=>Jo assoc n (d+1) l y) BL W x (l - 1) 129 _ Tryz.entersMay11 hb (hx.less hk (fun _ h=>h)) (by omega) (fun l y _ hl=>ZkN hl) (fun W2 y l2 hy hk2 hbl2 hl2=>?_)
  refine ih W2 BD2 (d+1) l2 y (by omega) (by omega) (by omega) hl2 ⟨hbl2⟩ ⟨hk2.obj hb2 (by simpa using hne)⟩ ⟨hk2.obj hb3 (by simpa using hne3)⟩ hne hne3 ((hx.less (hk.trans hk2) (fun _ h=>h)).sub_mem hy) (fun W3 hk3=>hT W3 ((hk.trans hk2).trans hk3))
 clear hx hT ih
 by_cases c1:l - 1 < 0
 ·have HW:Hid (Jo assoc (n+1) d l x=(false,l - 1)):=by rw[Hid,HV.out,if_pos c1]
  have c1':¬1≤l:=by omega
  clear HFI HEA HV c1
  go_enter func129,ntmps129
  go_upto_region 2 with(fail)
  refine Zm ?_
  intro w0 hw0
  have HK0:Hid (Kept [BL] w w0):=by rw[Hid,hw0];exact(Kept.setCell _ _ _ (by simp)).trans (Kept.alloc _ _ _)
  have hs0:(w.setCell ⟨BL,0,none⟩ (.int .i64 (l - 1))).heap.size=w.heap.size:=by simp
  have HB0:Hid (w0.heap[w.heap.size]? =some (.cells x.cells.toArray 41 (0,0))):=by rw[Hid,hw0];exact Zf hs0.symm
  have HL0:Hid (w0.heap[BL]? =some (.cells #[.int .i64 (l - 1)] 3 (0,0))):=by rw[Hid,hw0];exact Zr (heap_setCell_same _ _ _ _ _ _ hbl.has) (by rw[hs0];exact hbl2)
  have HD0:Hid (w0.heap[BD]? =some (.cells #[.int .i64 d] 3 (0,0))):=HK0.out.obj hbd.has (by simpa using hne2)
  have HA0:=HK0.out.obj hba.has (by simpa using hne3)
  haveI b0:Zc w0 w.heap.size 41 x.cells.toArray:=⟨HB0.out⟩
  haveI bl0:Zc w0 BL 3 #[.int .i64 (l - 1)]:=⟨HL0.out⟩
  haveI bd0:Zc w0 BD 3 #[.int .i64 d]:=⟨HD0.out⟩
  haveI ba0:Zc w0 BA 197 #[.func (.func 128) #[] #[.pointer (some ⟨BL,0,none⟩),.pointer (some ⟨BA,0,none⟩)]]:=⟨HA0⟩
  clear HB0 HL0 HD0 HA0 hs0
  clear hw0 hbl hbd hba
  refine Zn [⟨8,[],false,.eq (.int .i64 (l - 1))⟩,⟨9,[8],false,.eq (.bool false)⟩,⟨10,[9],false,.eq (.bool false)⟩,⟨11,[10],false,.eq undef⟩,⟨12,[11,10],false,.eq undef⟩,⟨13,[10,12],false,.eq (.bool false)⟩,⟨14,[13],false,.eq (.bool false)⟩,⟨15,[14],false,.eq undef⟩,⟨16,[15,14],false,.eq undef⟩,⟨17,[14,16],false,.eq (.bool false)⟩,⟨18,[17],false,.eq (.bool false)⟩,⟨19,[18],false,.eq undef⟩,⟨20,[18],false,.eq undef⟩,⟨21,[18],false,.eq undef⟩,⟨22,[21,18],false,.eq undef⟩,⟨23,[20,22,18],false,.eq undef⟩,⟨24,[19,23,18],false,.eq undef⟩,⟨25,[18,24],false,.eq (.bool false)⟩] (by kernel_rfl) (by kernel_rfl) ?_
  apply Exists.intro
  refine⟨fun vs=>?_,?_⟩
  ·simp only[List.map_cons,List.map_nil,PSz.toP,Jj,Act.put,List.setIfInBounds_toArray,List.set_cons_zero,List.set_cons_succ]
   exact rfl
  refine⟨⟨?_,?_,?_,?_,?_,?_,?_,?_,?_,?_,?_,?_,?_,?_,?_,?_,?_,?_,trivial⟩,?_⟩<;>intro vs Z w9 hk hZ hg
  all_goals
   haveI p_w9:Zb w9 _:=⟨hk⟩
   have hz_w9:=hk.size
   have HZ:=hh hZ
   clear hk hZ
   (try simp only[ZG,Zi,Z8,SZ.eq_p,SZ.ex_p,SZ.wx_p,SZ.new_p,Nat.reduceEqDiff,reduceIte,and_true]at hg)
  ·clear hg
   go_wp2_with fail
   exact⟨kp,rfl,Z,.inl ⟨rfl,rfl⟩,rfl⟩
  ·obtain e8:=hg
   (try simp only[e8])
   go_wp2_with fail
   exact⟨kp,rfl,Z,.inl ⟨rfl,rfl⟩,rfl⟩
  ·obtain e9:=hg
   (try simp only[e9])
   go_wp2_with fail
   exact⟨kp,rfl,Z,.inl ⟨rfl,rfl⟩,rfl⟩
  ·obtain e10:=hg
   (try simp only[e10])
   go_wp2_with fail
   exact⟨kp,rfl,Z,.inl ⟨rfl,rfl⟩,rfl⟩
  ·obtain⟨e11,e10⟩:=hg
   (try simp only[e11,e10])
   go_wp2_with fail
   exact⟨kp,rfl,Z,.inl ⟨rfl,rfl⟩,rfl⟩
  ·obtain⟨e10,e12⟩:=hg
   (try simp only[e10,e12])
   go_wp2_with fail
   exact⟨kp,rfl,Z,.inl ⟨rfl,rfl⟩,rfl⟩
  ·obtain e13:=hg
   (try simp only[e13])
   go_wp2_with fail
   exact⟨kp,rfl,Z,.inl ⟨rfl,rfl⟩,rfl⟩
  ·obtain e14:=hg
   (try simp only[e14])
   go_wp2_with fail
   exact⟨kp,rfl,Z,.inl ⟨rfl,rfl⟩,rfl⟩
  ·obtain⟨e15,e14⟩:=hg
   (try simp only[e15,e14])
   go_wp2_with fail
   exact⟨kp,rfl,Z,.inl ⟨rfl,rfl⟩,rfl⟩
  ·obtain⟨e14,e16⟩:=hg
   (try simp only[e14,e16])
   go_wp2_with fail
   exact⟨kp,rfl,Z,.inl ⟨rfl,rfl⟩,rfl⟩
  ·obtain e17:=hg
   (try simp only[e17])
   go_wp2_with fail
   exact⟨kp,rfl,Z,.inl ⟨rfl,rfl⟩,rfl⟩
  ·obtain e18:=hg
   (try simp only[e18])
   go_wp2_with fail
   exact⟨kp,rfl,Z,.inl ⟨rfl,rfl⟩,rfl⟩
  ·obtain e18:=hg
   (try simp only[e18])
   go_wp2_with fail
   exact⟨kp,rfl,Z,.inl ⟨rfl,rfl⟩,rfl⟩
  ·obtain e18:=hg
   (try simp only[e18])
   go_wp2_with fail
   exact⟨kp,rfl,Z,.inl ⟨rfl,rfl⟩,rfl⟩
  ·obtain⟨e21,e18⟩:=hg
   (try simp only[e21,e18])
   go_wp2_with fail
   exact⟨kp,rfl,Z,.inl ⟨rfl,rfl⟩,rfl⟩
  ·obtain⟨e20,e22,e18⟩:=hg
   (try simp only[e20,e22,e18])
   go_wp2_with fail
   exact⟨kp,rfl,Z,.inl ⟨rfl,rfl⟩,rfl⟩
  ·obtain⟨e19,e23,e18⟩:=hg
   (try simp only[e19,e23,e18])
   go_wp2_with fail
   exact⟨kp,rfl,Z,.inl ⟨rfl,rfl⟩,rfl⟩
  ·obtain⟨e18,e24⟩:=hg
   (try simp only[e18,e24])
   go_wp2_with fail
   exact⟨kp,rfl,Z,.inl ⟨rfl,rfl⟩,rfl⟩
  obtain⟨e8,e9,e10,e11,e12,e13,e14,e15,e16,e17,e18,e19,e20,e21,e22,e23,e24,e25⟩:=hg
  simp only[e8,e9,e10,e11,e12,e13,e14,e15,e16,e17,e18,e19,e20,e21,e22,e23,e24,e25]
  clear e8 e9 e10 e11 e12 e13 e14 e15 e16 e17 e18 e19 e20 e21 e22 e23 e24 e25
  have hk09:Kept [] w0 w9:=kp
  have HK09:=hh hk09
  have HB9:Hid (w9.heap[BL]? =some (.cells #[.int .i64 (l - 1)] 3 (0,0))):=Zc.has
  clear hk09
  go_wp2_with fail
  go_ret
  rw[HW.out]
  exact⟨rfl,HB9.out,HK0.out.trans (HK09.out.mono (by simp))⟩
 have c1':1≤l:=by omega
 by_cases c2:32 < d
 ·have HW:Hid (Jo assoc (n+1) d l x=(false,l - 1)):=by rw[Hid,HV.out,if_neg c1,if_pos c2]
  have c2':¬d≤32:=by omega
  clear HFI HEA HV c1 c2
  go_enter func129,ntmps129
  go_upto_region 2 with(fail)
  refine Zm ?_
  intro w0 hw0
  have HK0:Hid (Kept [BL] w w0):=by rw[Hid,hw0];exact(Kept.setCell _ _ _ (by simp)).trans (Kept.alloc _ _ _)
  have hs0:(w.setCell ⟨BL,0,none⟩ (.int .i64 (l - 1))).heap.size=w.heap.size:=by simp
  have HB0:Hid (w0.heap[w.heap.size]? =some (.cells x.cells.toArray 41 (0,0))):=by rw[Hid,hw0];exact Zf hs0.symm
  have HL0:Hid (w0.heap[BL]? =some (.cells #[.int .i64 (l - 1)] 3 (0,0))):=by rw[Hid,hw0];exact Zr (heap_setCell_same _ _ _ _ _ _ hbl.has) (by rw[hs0];exact hbl2)
  have HD0:Hid (w0.heap[BD]? =some (.cells #[.int .i64 d] 3 (0,0))):=HK0.out.obj hbd.has (by simpa using hne2)
  have HA0:=HK0.out.obj hba.has (by simpa using hne3)
  haveI b0:Zc w0 w.heap.size 41 x.cells.toArray:=⟨HB0.out⟩
  haveI bl0:Zc w0 BL 3 #[.int .i64 (l - 1)]:=⟨HL0.out⟩
  haveI bd0:Zc w0 BD 3 #[.int .i64 d]:=⟨HD0.out⟩
  haveI ba0:Zc w0 BA 197 #[.func (.func 128) #[] #[.pointer (some ⟨BL,0,none⟩),.pointer (some ⟨BA,0,none⟩)]]:=⟨HA0⟩
  clear HB0 HL0 HD0 HA0 hs0
  clear hw0 hbl hbd hba
  refine Zn [⟨8,[],false,.eq (.int .i64 (l - 1))⟩,⟨9,[8],false,.eq (.bool true)⟩,⟨10,[9],false,.eq (.bool true)⟩,⟨11,[10],false,.eq (.int .i64 d)⟩,⟨12,[11,10],false,.eq (.bool false)⟩,⟨13,[10,12],false,.eq (.bool false)⟩,⟨14,[13],false,.eq (.bool false)⟩,⟨15,[14],false,.eq undef⟩,⟨16,[15,14],false,.eq undef⟩,⟨17,[14,16],false,.eq (.bool false)⟩,⟨18,[17],false,.eq (.bool false)⟩,⟨19,[18],false,.eq undef⟩,⟨20,[18],false,.eq undef⟩,⟨21,[18],false,.eq undef⟩,⟨22,[21,18],false,.eq undef⟩,⟨23,[20,22,18],false,.eq undef⟩,⟨24,[19,23,18],false,.eq undef⟩,⟨25,[18,24],false,.eq (.bool false)⟩] (by kernel_rfl) (by kernel_rfl) ?_
  apply Exists.intro
  refine⟨fun vs=>?_,?_⟩
  ·simp only[List.map_cons,List.map_nil,PSz.toP,Jj,Act.put,List.setIfInBounds_toArray,List.set_cons_zero,List.set_cons_succ]
   exact rfl
  refine⟨⟨?_,?_,?_,?_,?_,?_,?_,?_,?_,?_,?_,?_,?_,?_,?_,?_,?_,?_,trivial⟩,?_⟩<;>intro vs Z w9 hk hZ hg
  all_goals
   haveI p_w9:Zb w9 _:=⟨hk⟩
   have hz_w9:=hk.size
   have HZ:=hh hZ
   clear hk hZ
   (try simp only[ZG,Zi,Z8,SZ.eq_p,SZ.ex_p,SZ.wx_p,SZ.new_p,Nat.reduceEqDiff,reduceIte,and_true]at hg)
  ·clear hg
   go_wp2_with fail
   exact⟨kp,rfl,Z,.inl ⟨rfl,rfl⟩,rfl⟩
  ·obtain e8:=hg
   (try simp only[e8])
   go_wp2_with fail
   exact⟨kp,rfl,Z,.inl ⟨rfl,rfl⟩,rfl⟩
  ·obtain e9:=hg
   (try simp only[e9])
   go_wp2_with fail
   exact⟨kp,rfl,Z,.inl ⟨rfl,rfl⟩,rfl⟩
  ·obtain e10:=hg
   (try simp only[e10])
   go_wp2_with fail
   exact⟨kp,rfl,Z,.inl ⟨rfl,rfl⟩,rfl⟩
  ·obtain⟨e11,e10⟩:=hg
   (try simp only[e11,e10])
   go_wp2_with fail
   exact⟨kp,rfl,Z,.inl ⟨rfl,rfl⟩,rfl⟩
  ·obtain⟨e10,e12⟩:=hg
   (try simp only[e10,e12])
   go_wp2_with fail
   exact⟨kp,rfl,Z,.inl ⟨rfl,rfl⟩,rfl⟩
  ·obtain e13:=hg
   (try simp only[e13])
   go_wp2_with fail
   exact⟨kp,rfl,Z,.inl ⟨rfl,rfl⟩,rfl⟩
  ·obtain e14:=hg
   (try simp only[e14])
   go_wp2_with fail
   exact⟨kp,rfl,Z,.inl ⟨rfl,rfl⟩,rfl⟩
  ·obtain⟨e15,e14⟩:=hg
   (try simp only[e15,e14])
   go_wp2_with fail
   exact⟨kp,rfl,Z,.inl ⟨rfl,rfl⟩,rfl⟩
  ·obtain⟨e14,e16⟩:=hg
   (try simp only[e14,e16])
   go_wp2_with fail
   exact⟨kp,rfl,Z,.inl ⟨rfl,rfl⟩,rfl⟩
  ·obtain e17:=hg
   (try simp only[e17])
   go_wp2_with fail
   exact⟨kp,rfl,Z,.inl ⟨rfl,rfl⟩,rfl⟩
  ·obtain e18:=hg
   (try simp only[e18])
   go_wp2_with fail
   exact⟨kp,rfl,Z,.inl ⟨rfl,rfl⟩,rfl⟩
  ·obtain e18:=hg
   (try simp only[e18])
   go_wp2_with fail
   exact⟨kp,rfl,Z,.inl ⟨rfl,rfl⟩,rfl⟩
  ·obtain e18:=hg
   (try simp only[e18])
   go_wp2_with fail
   exact⟨kp,rfl,Z,.inl ⟨rfl,rfl⟩,rfl⟩
  ·obtain⟨e21,e18⟩:=hg
   (try simp only[e21,e18])
   go_wp2_with fail
   exact⟨kp,rfl,Z,.inl ⟨rfl,rfl⟩,rfl⟩
  ·obtain⟨e20,e22,e18⟩:=hg
   (try simp only[e20,e22,e18])
   go_wp2_with fail
   exact⟨kp,rfl,Z,.inl ⟨rfl,rfl⟩,rfl⟩
  ·obtain⟨e19,e23,e18⟩:=hg
   (try simp only[e19,e23,e18])
   go_wp2_with fail
   exact⟨kp,rfl,Z,.inl ⟨rfl,rfl⟩,rfl⟩
  ·obtain⟨e18,e24⟩:=hg
   (try simp only[e18,e24])
   go_wp2_with fail
   exact⟨kp,rfl,Z,.inl ⟨rfl,rfl⟩,rfl⟩
  obtain⟨e8,e9,e10,e11,e12,e13,e14,e15,e16,e17,e18,e19,e20,e21,e22,e23,e24,e25⟩:=hg
  simp only[e8,e9,e10,e11,e12,e13,e14,e15,e16,e17,e18,e19,e20,e21,e22,e23,e24,e25]
  clear e8 e9 e10 e11 e12 e13 e14 e15 e16 e17 e18 e19 e20 e21 e22 e23 e24 e25
  have hk09:Kept [] w0 w9:=kp
  have HK09:=hh hk09
  have HB9:Hid (w9.heap[BL]? =some (.cells #[.int .i64 (l - 1)] 3 (0,0))):=Zc.has
  clear hk09
  go_wp2_with fail
  go_ret
  rw[HW.out]
  exact⟨rfl,HB9.out,HK0.out.trans (HK09.out.mono (by simp))⟩
 have c2':d≤32:=by omega
 cases c3:ZZ assoc x
 ·have HW:Hid (Jo assoc (n+1) d l x=(false,l - 1)):=by rw[Hid,HV.out,if_neg c1,if_neg c2,c3];rfl
  clear HEA HV
  go_enter func129,ntmps129
  go_upto_region 2 with(fail)
  refine Zm ?_
  intro w0 hw0
  have HK0:Hid (Kept [BL] w w0):=by rw[Hid,hw0];exact(Kept.setCell _ _ _ (by simp)).trans (Kept.alloc _ _ _)
  have hs0:(w.setCell ⟨BL,0,none⟩ (.int .i64 (l - 1))).heap.size=w.heap.size:=by simp
  have HB0:Hid (w0.heap[w.heap.size]? =some (.cells x.cells.toArray 41 (0,0))):=by rw[Hid,hw0];exact Zf hs0.symm
  have HL0:Hid (w0.heap[BL]? =some (.cells #[.int .i64 (l - 1)] 3 (0,0))):=by rw[Hid,hw0];exact Zr (heap_setCell_same _ _ _ _ _ _ hbl.has) (by rw[hs0];exact hbl2)
  have HD0:Hid (w0.heap[BD]? =some (.cells #[.int .i64 d] 3 (0,0))):=HK0.out.obj hbd.has (by simpa using hne2)
  have HA0:=HK0.out.obj hba.has (by simpa using hne3)
  haveI b0:Zc w0 w.heap.size 41 x.cells.toArray:=⟨HB0.out⟩
  haveI bl0:Zc w0 BL 3 #[.int .i64 (l - 1)]:=⟨HL0.out⟩
  haveI bd0:Zc w0 BD 3 #[.int .i64 d]:=⟨HD0.out⟩
  haveI ba0:Zc w0 BA 197 #[.func (.func 128) #[] #[.pointer (some ⟨BL,0,none⟩),.pointer (some ⟨BA,0,none⟩)]]:=⟨HA0⟩
  clear HB0 HL0 HD0 HA0 hs0
  clear hw0 hbl hbd hba
  have HFI0:=hh (fun W (hk:Kept [] w0 W)=>HFI.out W (HK0.out.trans (hk.mono (by simp))))
  rw[c3]at HFI0
  refine Zn [⟨8,[],false,.eq (.int .i64 (l - 1))⟩,⟨9,[8],false,.eq (.bool true)⟩,⟨10,[9],false,.eq (.bool true)⟩,⟨11,[10],false,.eq (.int .i64 d)⟩,⟨12,[11,10],false,.eq (.bool true)⟩,⟨13,[10,12],false,.eq (.bool true)⟩,⟨14,[13],false,.eq (.bool true)⟩,⟨15,[14],false,.eq (.agg x.cells.toArray)⟩,⟨16,[15,14],false,.eq (.bool false)⟩,⟨17,[14,16],false,.eq (.bool false)⟩,⟨18,[17],false,.eq (.bool false)⟩,⟨19,[18],false,.eq undef⟩,⟨20,[18],false,.eq undef⟩,⟨21,[18],false,.eq undef⟩,⟨22,[21,18],false,.eq undef⟩,⟨23,[20,22,18],false,.eq undef⟩,⟨24,[19,23,18],false,.eq undef⟩,⟨25,[18,24],false,.eq (.bool false)⟩] (by kernel_rfl) (by kernel_rfl) ?_
  apply Exists.intro
  refine⟨fun vs=>?_,?_⟩
  ·simp only[List.map_cons,List.map_nil,PSz.toP,Jj,Act.put,List.setIfInBounds_toArray,List.set_cons_zero,List.set_cons_succ]
   exact rfl
  refine⟨⟨?_,?_,?_,?_,?_,?_,?_,?_,?_,?_,?_,?_,?_,?_,?_,?_,?_,?_,trivial⟩,?_⟩<;>intro vs Z w9 hk hZ hg
  all_goals
   haveI p_w9:Zb w9 _:=⟨hk⟩
   have hz_w9:=hk.size
   have HZ:=hh hZ
   clear hk hZ
   (try simp only[ZG,Zi,Z8,SZ.eq_p,SZ.ex_p,SZ.wx_p,SZ.new_p,Nat.reduceEqDiff,reduceIte,and_true]at hg)
  ·clear hg
   go_wp2_with fail
   exact⟨kp,rfl,Z,.inl ⟨rfl,rfl⟩,rfl⟩
  ·obtain e8:=hg
   (try simp only[e8])
   go_wp2_with fail
   exact⟨kp,rfl,Z,.inl ⟨rfl,rfl⟩,rfl⟩
  ·obtain e9:=hg
   (try simp only[e9])
   go_wp2_with fail
   exact⟨kp,rfl,Z,.inl ⟨rfl,rfl⟩,rfl⟩
  ·obtain e10:=hg
   (try simp only[e10])
   go_wp2_with fail
   exact⟨kp,rfl,Z,.inl ⟨rfl,rfl⟩,rfl⟩
  ·obtain⟨e11,e10⟩:=hg
   (try simp only[e11,e10])
   go_wp2_with fail
   exact⟨kp,rfl,Z,.inl ⟨rfl,rfl⟩,rfl⟩
  ·obtain⟨e10,e12⟩:=hg
   (try simp only[e10,e12])
   go_wp2_with fail
   exact⟨kp,rfl,Z,.inl ⟨rfl,rfl⟩,rfl⟩
  ·obtain e13:=hg
   (try simp only[e13])
   go_wp2_with fail
   exact⟨kp,rfl,Z,.inl ⟨rfl,rfl⟩,rfl⟩
  ·obtain e14:=hg
   (try simp only[e14])
   go_wp2_with fail
   exact⟨kp,rfl,Z,.inl ⟨rfl,rfl⟩,rfl⟩
  ·obtain⟨e15,e14⟩:=hg
   (try simp only[e15,e14])
   go_wp2_with fail
   refine(HFI0.out _ kp).mono ?_
   rintro e w9 ⟨rfl,hk9⟩
   go_wp2_with fail
   exact⟨hk9,rfl,Z,.inl ⟨rfl,rfl⟩,rfl⟩
  ·obtain⟨e14,e16⟩:=hg
   (try simp only[e14,e16])
   go_wp2_with fail
   exact⟨kp,rfl,Z,.inl ⟨rfl,rfl⟩,rfl⟩
  ·obtain e17:=hg
   (try simp only[e17])
   go_wp2_with fail
   exact⟨kp,rfl,Z,.inl ⟨rfl,rfl⟩,rfl⟩
  ·obtain e18:=hg
   (try simp only[e18])
   go_wp2_with fail
   exact⟨kp,rfl,Z,.inl ⟨rfl,rfl⟩,rfl⟩
  ·obtain e18:=hg
   (try simp only[e18])
   go_wp2_with fail
   exact⟨kp,rfl,Z,.inl ⟨rfl,rfl⟩,rfl⟩
  ·obtain e18:=hg
   (try simp only[e18])
   go_wp2_with fail
   exact⟨kp,rfl,Z,.inl ⟨rfl,rfl⟩,rfl⟩
  ·obtain⟨e21,e18⟩:=hg
   (try simp only[e21,e18])
   go_wp2_with fail
   exact⟨kp,rfl,Z,.inl ⟨rfl,rfl⟩,rfl⟩
  ·obtain⟨e20,e22,e18⟩:=hg
   (try simp only[e20,e22,e18])
   go_wp2_with fail
   exact⟨kp,rfl,Z,.inl ⟨rfl,rfl⟩,rfl⟩
  ·obtain⟨e19,e23,e18⟩:=hg
   (try simp only[e19,e23,e18])
   go_wp2_with fail
   exact⟨kp,rfl,Z,.inl ⟨rfl,rfl⟩,rfl⟩
  ·obtain⟨e18,e24⟩:=hg
   (try simp only[e18,e24])
   go_wp2_with fail
   exact⟨kp,rfl,Z,.inl ⟨rfl,rfl⟩,rfl⟩
  obtain⟨e8,e9,e10,e11,e12,e13,e14,e15,e16,e17,e18,e19,e20,e21,e22,e23,e24,e25⟩:=hg
  simp only[e8,e9,e10,e11,e12,e13,e14,e15,e16,e17,e18,e19,e20,e21,e22,e23,e24,e25]
  clear e8 e9 e10 e11 e12 e13 e14 e15 e16 e17 e18 e19 e20 e21 e22 e23 e24 e25
  have hk09:Kept [] w0 w9:=kp
  have HK09:=hh hk09
  have HB9:Hid (w9.heap[BL]? =some (.cells #[.int .i64 (l - 1)] 3 (0,0))):=Zc.has
  clear hk09
  go_wp2_with fail
  go_ret
  rw[HW.out]
  exact⟨rfl,HB9.out,HK0.out.trans (HK09.out.mono (by simp))⟩
 ·have HW:Hid (Jo assoc (n+1) d l x=Z1 (fun l y=>Jo assoc n (d+1) l y) (Za2 x) (l - 1)):=by rw[Hid,HV.out,if_neg c1,if_neg c2,c3];rfl
  clear HV
  go_enter func129,ntmps129
  go_upto_region 2 with(fail)
  refine Zm ?_
  intro w0 hw0
  have HK0:Hid (Kept [BL] w w0):=by rw[Hid,hw0];exact(Kept.setCell _ _ _ (by simp)).trans (Kept.alloc _ _ _)
  have hs0:(w.setCell ⟨BL,0,none⟩ (.int .i64 (l - 1))).heap.size=w.heap.size:=by simp
  have HB0:Hid (w0.heap[w.heap.size]? =some (.cells x.cells.toArray 41 (0,0))):=by rw[Hid,hw0];exact Zf hs0.symm
  have HL0:Hid (w0.heap[BL]? =some (.cells #[.int .i64 (l - 1)] 3 (0,0))):=by rw[Hid,hw0];exact Zr (heap_setCell_same _ _ _ _ _ _ hbl.has) (by rw[hs0];exact hbl2)
  have HD0:Hid (w0.heap[BD]? =some (.cells #[.int .i64 d] 3 (0,0))):=HK0.out.obj hbd.has (by simpa using hne2)
  have HA0:=HK0.out.obj hba.has (by simpa using hne3)
  haveI b0:Zc w0 w.heap.size 41 x.cells.toArray:=⟨HB0.out⟩
  haveI bl0:Zc w0 BL 3 #[.int .i64 (l - 1)]:=⟨HL0.out⟩
  haveI bd0:Zc w0 BD 3 #[.int .i64 d]:=⟨HD0.out⟩
  haveI ba0:Zc w0 BA 197 #[.func (.func 128) #[] #[.pointer (some ⟨BL,0,none⟩),.pointer (some ⟨BA,0,none⟩)]]:=⟨HA0⟩
  clear HB0 HL0 HD0 HA0 hs0
  clear hw0 hbl hbd hba
  have HFI0:=hh (fun W (hk:Kept [] w0 W)=>HFI.out W (HK0.out.trans (hk.mono (by simp))))
  rw[c3]at HFI0
  have HBA0:=hh (Zc.has (w:=w0) (B:=BA))
  have hbl3:BL < w0.heap.size:=(Array.getElem?_eq_some_iff.1 bl0.has).1
  have eg:=Tryz.entersMay1
  refine Zn [⟨8,[],false,.eq (.int .i64 (l - 1))⟩,⟨9,[8],false,.eq (.bool true)⟩,⟨10,[9],false,.eq (.bool true)⟩,⟨11,[10],false,.eq (.int .i64 d)⟩,⟨12,[11,10],false,.eq (.bool true)⟩,⟨13,[10,12],false,.eq (.bool true)⟩,⟨14,[13],false,.eq (.bool true)⟩,⟨15,[14],false,.eq (.agg x.cells.toArray)⟩,⟨16,[15,14],false,.eq (.bool true)⟩,⟨17,[14,16],false,.eq (.bool true)⟩,⟨18,[17],false,.eq (.bool true)⟩,⟨19,[18],false,.eq (.agg x.cells.toArray)⟩,⟨20,[18],false,.eq (.func (.func 128) #[] #[.pointer (some ⟨BL,0,none⟩),.pointer (some ⟨BA,0,none⟩)])⟩,⟨21,[18],false,.eq (.int .i64 d)⟩,⟨22,[21,18],false,.eq (.int .i64 (d+1))⟩,⟨23,[20,22,18],false,.mv BL BA (d+1) [BL]⟩] (by kernel_rfl) (by kernel_rfl) ?_
  apply Exists.intro
  refine⟨fun vs=>?_,?_⟩
  ·simp only[List.map_cons,List.map_nil,PSz.toP,Jj,Act.put,List.setIfInBounds_toArray,List.set_cons_zero,List.set_cons_succ]
   exact rfl
  refine⟨⟨?_,?_,?_,?_,?_,?_,?_,?_,?_,?_,?_,?_,?_,?_,?_,?_,trivial⟩,?_⟩<;>intro vs Z w9 hk hZ hg
  all_goals
   haveI p_w9:Zb w9 _:=⟨hk⟩
   have hz_w9:=hk.size
   have HZ:=hh hZ
   clear hk hZ
   (try simp only[ZG,Zi,Z8,SZ.eq_p,SZ.ex_p,SZ.wx_p,SZ.new_p,SZ.mv_p,Nat.reduceEqDiff,reduceIte,and_true]at hg)
  ·clear hg
   go_wp2_with fail
   exact⟨kp,rfl,Z,.inl ⟨rfl,rfl⟩,rfl⟩
  ·obtain e8:=hg
   (try simp only[e8])
   go_wp2_with fail
   exact⟨kp,rfl,Z,.inl ⟨rfl,rfl⟩,rfl⟩
  ·obtain e9:=hg
   (try simp only[e9])
   go_wp2_with fail
   exact⟨kp,rfl,Z,.inl ⟨rfl,rfl⟩,rfl⟩
  ·obtain e10:=hg
   (try simp only[e10])
   go_wp2_with fail
   exact⟨kp,rfl,Z,.inl ⟨rfl,rfl⟩,rfl⟩
  ·obtain⟨e11,e10⟩:=hg
   (try simp only[e11,e10])
   go_wp2_with fail
   exact⟨kp,rfl,Z,.inl ⟨rfl,rfl⟩,rfl⟩
  ·obtain⟨e10,e12⟩:=hg
   (try simp only[e10,e12])
   go_wp2_with fail
   exact⟨kp,rfl,Z,.inl ⟨rfl,rfl⟩,rfl⟩
  ·obtain e13:=hg
   (try simp only[e13])
   go_wp2_with fail
   exact⟨kp,rfl,Z,.inl ⟨rfl,rfl⟩,rfl⟩
  ·obtain e14:=hg
   (try simp only[e14])
   go_wp2_with fail
   exact⟨kp,rfl,Z,.inl ⟨rfl,rfl⟩,rfl⟩
  ·obtain⟨e15,e14⟩:=hg
   (try simp only[e15,e14])
   go_wp2_with fail
   refine(HFI0.out _ kp).mono ?_
   rintro e w9 ⟨rfl,hk9⟩
   go_wp2_with fail
   exact⟨hk9,rfl,Z,.inl ⟨rfl,rfl⟩,rfl⟩
  ·obtain⟨e14,e16⟩:=hg
   (try simp only[e14,e16])
   go_wp2_with fail
   exact⟨kp,rfl,Z,.inl ⟨rfl,rfl⟩,rfl⟩
  ·obtain e17:=hg
   (try simp only[e17])
   go_wp2_with fail
   exact⟨kp,rfl,Z,.inl ⟨rfl,rfl⟩,rfl⟩
  ·obtain e18:=hg
   (try simp only[e18])
   go_wp2_with fail
   exact⟨kp,rfl,Z,.inl ⟨rfl,rfl⟩,rfl⟩
  ·obtain e18:=hg
   (try simp only[e18])
   go_wp2_with fail
   exact⟨kp,rfl,Z,.inl ⟨rfl,rfl⟩,rfl⟩
  ·obtain e18:=hg
   (try simp only[e18])
   go_wp2_with fail
   exact⟨kp,rfl,Z,.inl ⟨rfl,rfl⟩,rfl⟩
  ·obtain⟨e21,e18⟩:=hg
   (try simp only[e21,e18])
   go_wp2_with fail
   exact⟨kp,rfl,Z,.inl ⟨rfl,rfl⟩,rfl⟩
  ·obtain⟨e20,e22,e18⟩:=hg
   (try simp only[e20,e22,e18])
   go_wp2_with fail
   refine(Zfz _ BL BA (d+1)).mono ?_
   rintro e w8 ⟨BD2,rfl,hb8,hle8,hk8⟩
   go_wp2_with fail
   exact⟨hk8,rfl,Z,.inl ⟨rfl,rfl⟩,BD2,rfl,hb8,by have:=(Kept.size (X:=[]) (w:=w0) (w':=w9) kp);simp;omega⟩
  obtain⟨e8,e9,e10,e11,e12,e13,e14,e15,e16,e17,e18,e19,e20,e21,e22,⟨B23,e23,b23,n23⟩⟩:=hg
  simp only[e8,e9,e10,e11,e12,e13,e14,e15,e16,e17,e18,e19,e20,e21,e22,e23]
  clear e8 e9 e10 e11 e12 e13 e14 e15 e16 e17 e18 e19 e20 e21 e22 e23
  have hk09:Kept [] w0 w9:=kp
  have HE9:=hh (HEA.out w9 B23 (by omega) (by omega) (HK0.out.trans (hk09.mono (by simp))) Zc.has b23 (by simpa using n23) (hk09.obj HBA0.out (by simp)))
  have HK09:=hh hk09
  clear b23 n23 hk09 HEA
  unfold Zrr at*
  go_wp2_with fail
  refine HE9.out.mono ?_
  rintro e w8 ⟨rfl,hb8,hk8⟩
  have HB8:=hh hb8
  have HK8:=hh hk8
  clear hb8 hk8
  go_wp2_with fail
  go_ret
  rw[HW.out]
  exact⟨rfl,HB8.out,HK0.out.trans ((HK09.out.mono (by simp)).trans HK8.out)⟩
end
end Go.Proofs.YtfaecpkocgcofaaGreatDoor
