/- Lemmas for ResolveSettles, printed small: V13 CA3. -/
import Derived.Test.YtfaecpkocgcofaaGreatDoorZ13
import Derived.Deep.RegionHeld3
set_option linter.all false
set_option maxRecDepth 100000
set_option maxHeartbeats 8000000
open Go.Proofs.Tryz
namespace Go.Proofs.YtfaecpkocgcofaaGreatDoor
section
open Go.RowKit
theorem Zp8 (w:World) (v:Zp) (t:Tab) (x:ExV) (n:Nat) (ih:Zaq v t n) (hT:Zw w v t) (hx:Qe w (n+1) x) (hI:isF (isP t n) t x=true):YS w v t x n:=by
 unfold isF at hI
 rw[Bool.and_eq_true]at hI
 obtain⟨_,hI⟩:=hI
 by_cases k1:x.kind=1
 ·exact Zp7 w v t x n k1
 rw[if_neg k1]at hI
 by_cases k3:x.kind=3∨x.kind=4
 ·exact Zna w v t x n hT k3
 rw[if_neg k3]at hI
 by_cases k6:x.kind=6
 ·rw[if_pos k6]at hI
  exact Znd w v t x n hT hx hI k6
 rw[if_neg k6]at hI
 by_cases k7:x.kind=7
 ·rw[if_pos k7]at hI
  exact Znc w v t x n ih hT hx hI k7
 rw[if_neg k7]at hI
 by_cases k8:x.kind=8
 ·rw[if_pos k8]at hI
  exact Zm9 w v t x n ih hT hx hI k8
 rw[if_neg k8]at hI
 by_cases k10:x.kind=10
 ·rw[if_pos k10]at hI
  exact Zr3 w v t x n ih hT hx hI k10
 rw[if_neg k10]at hI
 by_cases k11:x.kind=11
 ·rw[if_pos k11,Bool.and_eq_true]at hI
  exact Znb w v t x n ih hT hx hI.2 k11
 rw[if_neg k11]at hI
 by_cases k12:x.kind=12
 ·rw[if_pos k12,Bool.and_eq_true,decide_eq_true_eq]at hI
  exact Zp5 w v t x n ih hT hx hI.2 hI.1 k12
 rw[if_neg k12]at hI
 by_cases k13:x.kind=13
 ·rw[if_pos (.inl k13)]at hI
  exact Zr2 w v t x n ih hT hx hI k13
 by_cases k14:x.kind=14
 ·rw[if_pos (.inr k14)]at hI
  exact Zp6 w v t x n ih hT hx hI k14
 rw[if_neg (by rintro(h | h) <;> contradiction)]at hI
 cases hI
theorem ZjM (w:World) (v:Zp) (t:Tab) (x:ExV) (n:Nat) (ih:Zaq v t n) (hT:Zw w v t) (hx:Qe w (n+1) x) (hI:isF (isP t n) t x=true):
 Calls prog 39 #[.agg (v.cells t),.agg x.cells.toArray] w (Zjz (Zjs (ZF t n) t x) w):=by
 have HS:=hh (fun w' (hk:Kept [] w w')=>QF w' v t x.t (hT.kept hk))
 have HR:=hh (fun w' (hk:Kept [] w w')=>Zp8 w' v t x n ih (hT.kept hk) (hx.kept hk) hI)
 have hsp:(ZU t x.t).isSome=true:=by
  unfold isF at hI
  rw[Bool.and_eq_true]at hI
  exact hI.1
 obtain⟨b,hb⟩:=Option.isSome_iff_exists.1 hsp
 have HM:Hid (Zjs (ZF t n) t x=match Qv (ZF t n) t x with | none=>none | some u=>ZO u b):=by
  rw[Hid,Zjs,hb]
  cases Qv (ZF t n) t x <;> rfl
 rw[hb]at HS
 clear hT hx hI ih hsp hb
 unfold YS at HR
 unfold Zp.cells at*
 unfold bdV at HS
 simp only[Option.getD_some,Option.isSome_some]at HS
 generalize Qv (ZF t n) t x=o at*
 go_enter func39,ntmps39
 go_wp2_with fail
 refine nxt (HS.out _ kp) fun w2 p_w2=>?_;have hz_w2:=szk w w2
 clear HS
 cases o with
 | none=>
  have HW:Hid (Zjs (ZF t n) t x=none):=HM.out
  go_wp2_with fail
  refine J4 [0,1,3] 2 (by kernel_rfl) (by kernel_rfl) (fun _ _ _ _ _ h=>h) ?_;apply Exists.intro;refine⟨fun U hU hN=>?_,?_⟩;simp only[ZW,List.flatMap_cons,List.flatMap_nil,List.getElem?_cons_zero,List.getElem?_cons_succ,Option.toList_some,List.cons_append,List.nil_append]
  ·repeat(go_big_quiet_step (fail))
   refine wpQuiet_nil ?_
   exact rfl
  simp only[ZW,List.flatMap_cons,List.flatMap_nil,List.getElem?_cons_zero,List.getElem?_cons_succ,Option.toList_some,List.cons_append,List.nil_append]
  intro w8 hk8
  haveI p_w8:Zb w8 _:=⟨hk8⟩
  clear hk8
  go_wp2_with fail
  refine nxt (Calls.retP (HR.out _ kp) rfl) fun w9 p_w9=>?_;have hz_w9:=szk w w9
  simp only[Zrg]
  show bodyPost prog Tryz.f39 _ (.panic QJ) _ _
  rw[HW.out]
  exact ZA rfl kp
 | some u=>
  have HW1:Hid (Zjs (ZF t n) t x=ZO u b):=HM.out
  go_wp2_with fail
  refine Zy [0,1,3,2] [4,5] (by kernel_rfl) (by kernel_rfl) (fun _ _ _ _ _ h=>h) ?_;apply Exists.intro;refine⟨fun U hU hN=>?_,?_⟩;simp only[ZW,List.flatMap_cons,List.flatMap_nil,List.getElem?_cons_zero,List.getElem?_cons_succ,Option.toList_some,List.cons_append,List.nil_append]
  ·iterate 3 (go_big_quiet_step (fail))
   go_big_quiet_step (exact Calls.headV hU (Calls.retV (HR.out _ (Kept.trans kp (Zs.prop _))) rfl))
   refine wpQuiet_nil ?_
   exact rfl
  simp only[ZW,List.flatMap_cons,List.flatMap_nil,List.getElem?_cons_zero,List.getElem?_cons_succ,Option.toList_some,List.cons_append,List.nil_append]
  intro w8 hk8
  haveI p_w8:Zb w8 _:=⟨hk8⟩
  clear hk8 HR HM
  go_wp2_with fail
  cases hq:ZO u b with
  | none=>
   have HW:Hid (Zjs (ZF t n) t x=none):=by rw[Hid,HW1.out,hq]
   refine nxt (Calls.retP (QX _ _ b) hq) fun w10 p_w10=>?_;have hz_w10:=szk w w10
   show bodyPost _ _ _ (.panic QJ) _ _
   rw[HW.out]
   exact ZA rfl kp
  | some u'=>
   have HW:Hid (Zjs (ZF t n) t x=some u'):=by rw[Hid,HW1.out,hq]
   refine nxt (Calls.retV (QX _ _ b) hq) fun w10 p_w10=>?_;have hz_w10:=szk w w10
   clear hq
   go_wp2_with fail
   rw[HW.out]
   exact Zu rfl (Zj results39 (Zh rfl)) kp
theorem Zb0 (v:Zp) (t:Tab):∀n,Zaq v t n
 | 0=>fun _ _ _ hx _=>hx.elim
 | n+1=>fun w x hT hx hI=>ZjM w v t x n (Zb0 v t n) hT hx hI
def ovl (x:Zx):Bool:=x.kind == 3 || x.kind == 4 || x.kind == 14 || x.kind == 10
def JH (t:Tab) (s:Int):Int:=if s < 0 then -1 else((t.subs[s.toNat]?).map ZL.t).getD (-1)
theorem Zz {W:World} {b:Nat} {x:Zx} (h:W.heap[b]? =some (.cells x.cells.toArray 95 (0,0))) (j:Nat) {u:Value} (hu:x.cells[j]? =some u):W.cell? ⟨b,j,none⟩=some u:=by
 rw[cell_of_row _ _ _ _ _ _ h]
 simpa using hu
theorem Qn (w:World) (x:Zx):Calls prog 234 #[.agg x.cells.toArray] w (J0 (ovl x) w):=by
 have c0:(w.alloc (.cells x.cells.toArray 95)).cell? ⟨w.heap.size,0,none⟩=some (.int .u8 x.kind):=Zz (heap_alloc_new _ _) 0 rfl
 have HO:Hid (ovl x=(x.kind == 3 || x.kind == 4 || x.kind == 14 || x.kind == 10)):=rfl
 cases h1:(x.kind == 3)
 ·cases h2:(x.kind == 4)
  ·cases h3:(x.kind == 14)
   ·cases h4:(x.kind == 10)
    ·rw[h1,h2,h3,h4]at HO
     go_enter func234,ntmps234
     go_wp2_with fail
     go_ret
     exact⟨by rw[HO.out];rfl,Kept.alloc _ _ _⟩
    ·rw[h1,h2,h3,h4]at HO
     go_enter func234,ntmps234
     go_wp2_with fail
     go_ret
     exact⟨by rw[HO.out];rfl,Kept.alloc _ _ _⟩
   ·rw[h1,h2,h3]at HO
    go_enter func234,ntmps234
    go_wp2_with fail
    go_ret
    exact⟨by rw[HO.out];rfl,Kept.alloc _ _ _⟩
  ·rw[h1,h2]at HO
   go_enter func234,ntmps234
   go_wp2_with fail
   go_ret
   exact⟨by rw[HO.out];rfl,Kept.alloc _ _ _⟩
 ·rw[h1]at HO
  go_enter func234,ntmps234
  go_wp2_with fail
  go_ret
  exact⟨by rw[HO.out];rfl,Kept.alloc _ _ _⟩
def Zu4 (n:Int) (w:World) (e:Ending) (w':World):Prop:=e= .returned (.int .i64 n)∧Kept [] w w'
theorem ZiA (w:World) (v:Zp) (t:Tab) (s:Int) (hT:Zw w v t):Calls prog 288 #[.agg (v.cells t),.int .i64 s] w (Zu4 (JH t s) w):=by
 have HT:=hh hT
 have q1:=hT.slc
 have q2:=hT.sm
 clear hT
 unfold Zp.cells
 go_enter func288,ntmps288
 by_cases h0:s < 0
 ·have HR:Hid (JH t s= -1):=by simp[Hid,JH,h0]
  go_wp2_with fail
  go_ret
  rw[HR.out]
  exact⟨rfl,Kept.alloc _ _ _⟩
 ·obtain⟨n,rfl⟩:=Int.eq_ofNat_of_zero_le (by omega:0≤s)
  by_cases h1:n < t.subs.length
  ·obtain⟨x,hx⟩:∃x,t.subs[n]? =some x:=⟨_,List.getElem?_eq_getElem h1⟩
   have HR:Hid (JH t (n:Int)=x.t):=by
    rw[Hid,JH,if_neg (by omega)]
    simp[hx]
   obtain⟨b,o,ha,hr⟩:=HT.out.ss.some_ hx
   have c0:w.cell? ⟨b,o+n*3,none⟩=some (.int .i64 x.t):=hr n x hx 0 _ rfl
   have c1:∀ob,(w.alloc ob).cell? ⟨b,o+n*3,none⟩=some (.int .i64 x.t):=fun ob=>(Kept.alloc [] w ob).cell c0 (by simp)
   rw[ha]
   clear hr hx ha c0
   go_wp2_with fail
   go_ret
   rw[HR.out]
   exact⟨rfl,Kept.alloc _ _ _⟩
  ·have HR:Hid (JH t (n:Int)= -1):=by
    rw[Hid,JH,if_neg (by omega)]
    rw[List.getElem?_eq_none (by simp;omega)];rfl
   go_wp2_with fail
   go_ret
   rw[HR.out]
   exact⟨rfl,Kept.alloc _ _ _⟩
def Yw (w:World) (B:Nat) (v:Zp) (t:Tab):Prop:=w.heap[B]? =some (.cells (v.cells t) 231 (0,0))
theorem Yw.cells {w:World} {B:Nat} {v:Zp} {t:Tab} (h:Yw w B v t):w.cell? ⟨B,0,none⟩=some (.slice v.ta t.types.length v.tc)∧w.cell? ⟨B,1,none⟩=some (.slice v.sa t.subs.length v.sc)∧w.cell? ⟨B,2,none⟩=some (.slice v.ea t.ents.length v.ec)∧w.cell? ⟨B,3,none⟩=some (.slice v.ga v.gn v.gc)∧w.cell? ⟨B,4,none⟩=some (.slice v.ia v.im v.ic):=by
 have hc:∀j,w.cell? ⟨B,j,none⟩=(v.cells t)[j]? :=fun j=>cell_of_row _ _ _ _ _ _ h
 exact⟨hc 0,hc 1,hc 2,hc 3,hc 4⟩
theorem Yw.kept {w w':World} {B:Nat} {v:Zp} {t:Tab} (h:Yw w B v t) (hk:Kept [] w w'):Yw w' B v t:=hk.obj h (by simp)
theorem Zdc {W:World} {b:Nat} {x:Zd} (h:W.heap[b]? =some (.cells x.cells.toArray 98 (0,0))) (j:Nat) {u:Value} (hu:x.cells[j]? =some u):W.cell? ⟨b,j,none⟩=some u:=by
 rw[cell_of_row _ _ _ _ _ _ h]
 simpa using hu
def Zb9 (t:Tab) (x y:Zd):Bool:=JH t x.sub == JH t y.sub
theorem Zfj (w:World) (B:Nat) (v:Zp) (t:Tab) (x y:Zd) (hB:Yw w B v t) (hT:Zw w v t):
 Calls prog 287 #[.agg x.cells.toArray,.agg y.cells.toArray,.pointer (some ⟨B,0,none⟩)] w (J0 (Zb9 t x y) w):=by
 have HT:=hh hT
 have hl:B < w.heap.size:=(Array.getElem?_eq_some_iff.1 hB).1
 have HB:=hh hB
 clear hT hB
 go_enter func287,ntmps287
 go_wp2_with fail
 refine Zm ?_
 intro w2 hw2
 have hk:Kept [] w w2:=by rw[hw2];exact(Kept.alloc _ _ _).trans (Kept.alloc _ _ _)
 have k0:w2.cell? ⟨w.heap.size,2,none⟩=some (.int .i64 x.sub):=by
  rw[hw2]
  exact Zdc (x:=x) (Zr (Zf rfl) (by simp)) 2 rfl
 have k1:w2.cell? ⟨w.heap.size+1,2,none⟩=some (.int .i64 y.sub):=by
  rw[hw2]
  exact Zdc (x:=y) (Zf (by simp)) 2 rfl
 obtain⟨c0,c1,c2,c3,c4⟩:=(HB.out.kept hk).cells
 have HK:=hh hk
 have HT2:=hh (HT.out.kept hk)
 have HSP:Hid (Zb9 t x y=(JH t x.sub == JH t y.sub)):=rfl
 have KP:Hid (∀wx,Kept [] w2 wx→(fun wx=>wx.cell? ⟨w.heap.size,2,none⟩=some (.int .i64 x.sub)∧wx.cell? ⟨w.heap.size+1,2,none⟩=some (.int .i64 y.sub)∧wx.cell? ⟨B,0,none⟩=some (.slice v.ta t.types.length v.tc)∧wx.cell? ⟨B,1,none⟩=some (.slice v.sa t.subs.length v.sc)∧wx.cell? ⟨B,2,none⟩=some (.slice v.ea t.ents.length v.ec)∧wx.cell? ⟨B,3,none⟩=some (.slice v.ga v.gn v.gc)∧wx.cell? ⟨B,4,none⟩=some (.slice v.ia v.im v.ic)∧Kept [] w2 wx) wx):=fun wx h=>⟨h.cell k0 (by simp),h.cell k1 (by simp),h.cell c0 (by simp),h.cell c1 (by simp),h.cell c2 (by simp),h.cell c3 (by simp),h.cell c4 (by simp),h⟩
 clear hw2 hk HT HB
 go_region_held3 (fun wx=>wx.cell? ⟨w.heap.size,2,none⟩=some (.int .i64 x.sub)∧wx.cell? ⟨w.heap.size+1,2,none⟩=some (.int .i64 y.sub)∧wx.cell? ⟨B,0,none⟩=some (.slice v.ta t.types.length v.tc)∧wx.cell? ⟨B,1,none⟩=some (.slice v.sa t.subs.length v.sc)∧wx.cell? ⟨B,2,none⟩=some (.slice v.ea t.ents.length v.ec)∧wx.cell? ⟨B,3,none⟩=some (.slice v.ga v.gn v.gc)∧wx.cell? ⟨B,4,none⟩=some (.slice v.ia v.im v.ic)∧Kept [] w2 wx)
  (first | exact KP.out _ HKX2.out | exact KP.out _ HKX.out | exact KP.out _ (HKX2.out.trans (Kept.drew _ _)) | exact KP.out _ (HKX.out.trans (Kept.drew _ _)) | exact KP.out _ (Kept.drew _ _) | exact KP.out _ (Kept.refl _ _))
  ((
   go_at_call 288
   have hkx:=(‹_∧_∧_∧_∧_∧_∧_∧Kept [] w2 _›).2.2.2.2.2.2.2
   refine(ZiA _ v t _ (HT2.out.kept hkx)).mono ?_
   rintro e w5 ⟨rfl,hk5⟩
   have HKX:=hh (hkx.trans hk5)
   clear hkx hk5))
 all_goals
  go_wp2_with fail
  go_ret
  exact⟨by rw[HSP.out];rfl,HK.out.trans HKX.out⟩
def Zce (p:Zd→Zd→Bool):List Zd→List Zd→Bool
 | [],[]=>true
 | x::xs,y::ys=>p x y && Zce p xs ys
 | _,_=>false
theorem Zfo {p:Zd→Zd→Bool}:∀{xs ys:List Zd},xs.length≠ys.length→Zce p xs ys=false
 | [],[],h=>absurd rfl h
 | x::xs,y::ys,h=>by rw[Zce,Zfo (by simpa using h)];simp
 | [],_::_,_=>rfl
 | _::_,[],_=>rfl
theorem ZhS {p:Zd→Zd→Bool}:∀{xs ys:List Zd} (k:Nat) {x y:Zd},xs[k]? =some x→ys[k]? =some y→p x y=false→Zce p xs ys=false
 | [],_,_,_,_,h,_,_=>by simp at h
 | _::_,[],_,_,_,_,h,_=>by simp at h
 | a::xs,b::ys,0,x,y,hx,hy,h=>by
  simp at hx hy;subst hx hy;rw[Zce,h];rfl
 | a::xs,b::ys,k+1,x,y,hx,hy,h=>by
  rw[Zce,ZhS k (by simpa using hx) (by simpa using hy) h];simp
theorem Zfn {p:Zd→Zd→Bool}:∀{xs ys:List Zd},xs.length=ys.length→(∀(k:Nat) x y,xs[k]? =some x→ys[k]? =some y→p x y=true)→Zce p xs ys=true
 | [],[],_,_=>rfl
 | [],_::_,h,_=>by simp at h
 | _::_,[],h,_=>by simp at h
 | x::xs,y::ys,hl,h=>by
  rw[Zce,h 0 x y rfl rfl,Zfn (by simpa using hl) (fun k a b ha hb=>h (k+1) a b (by simpa using ha) (by simpa using hb))];rfl
@[go_sem] theorem Tryz.storePar (x:Zd) (w:World) (k:Nat) (hk:k=w.heap.size):Sem.run prog (storeCells ⟨k,0,none⟩ x.cells)
 (w.alloc (.cells #[.string ⟨#[]⟩,.int .u8 0,.int .i64 0,.int .u8 0,.int .u8 0,.int .i64 0,.string ⟨#[]⟩,.slice none 0 0,.slice none 0 0,.int .i64 0,.int .i64 0,.int .i64 0,.int .i64 0] 98))= .ok () (w.alloc (.cells x.cells.toArray 98)):=by
 subst hk
 exact run_storeCells_new w 98 _ x.cells.toArray (by simpa using Tryz.infoPar x) (by simp[Zd.cells,ExV.cells]) x.one
theorem Zd.range {w:World} {b:Nat} {x:Zd} (h:w.heap[b]? =some (.cells x.cells.toArray 98 (0,0))):w.rangeAt b 0 x.cells:=fun j u hu=>by
 rw[Nat.zero_add,cell_of_row _ _ _ _ _ _ h]
 simpa using hu
theorem Zee (w:World) (a a':Option Addr) (c c':Nat) (xs ys:List Zd) (hc:xs.length≤c) (hm:c≤9223372036854775807) (hc':ys.length≤c') (hm':c'≤9223372036854775807) (hx:Zo Zd 13 Zd.cells w a xs) (hy:Zo Zd 13 Zd.cells w a' ys)
 (K:Nat) (caps:Array Value) (p:Zd→Zd→Bool) (eg:∀args w,(callFunc K args).run prog w= .ok (.enter K args) w)
 (hp:∀W (x y:Zd),Kept [] w W→Calls prog K (#[.agg x.cells.toArray,.agg y.cells.toArray]++caps) W (J0 (p x y) W)):
 Calls prog 286 #[.slice a xs.length c,.slice a' ys.length c',.func (.func K) #[] caps] w (J0 (Zce p xs ys) w):=by
 have HX:=hh hx
 have HY:=hh hy
 have HP:=hh hp
 clear hx hy hp
 by_cases hl:xs.length=ys.length
 ·have hne:((xs.length:Int) != (ys.length:Int))=false:=by rw[hl];simp
  have HL:=hh hl
  have hl1:xs.length≤ys.length:=by omega
  clear hl
  go_enter func286,ntmps286
  go_wp2_with fail
  go_loopw [17] (fun i wr=>∃k:Nat,k≤xs.length∧i= .int .i64 k∧(∀(j:Nat) x y,j < k→xs[j]? =some x→ys[j]? =some y→p x y=true)∧Kept [] w wr) (fun i _=>xs.length - (intOf i).toNat)
  case atStart=>exact⟨0,Nat.zero_le _,rfl,fun j x y h=>by omega,Kept.refl _ _⟩
  case round=>
   obtain⟨k,hk,rfl,hn,hkr⟩:=hrel
   have HN:=hh hn
   have HK:=hh hkr
   clear hn hkr
   obtain⟨wo,rfl⟩:∃wo:World,wo=wr:=⟨_,rfl⟩
   by_cases hlt:k < xs.length
   ·obtain⟨x,hx⟩:∃x,xs[k]? =some x:=⟨_,List.getElem?_eq_getElem hlt⟩
    obtain⟨y,hy⟩:∃y,ys[k]? =some y:=⟨_,List.getElem?_eq_getElem (by omega)⟩
    obtain⟨b,o,rfl,hr⟩:=(HX.out.kept HK.out).some_ hx
    obtain⟨b',o',rfl,hr'⟩:=(HY.out.kept HK.out).some_ hy
    have HRX:=hh (hr k x hx)
    have HRY:=hh (hr' k y hy)
    have HXK:=hh hx
    have HYK:=hh hy
    clear hr hr' hx hy
    go_wp2_with (first
     | (refine wpList_load_mid rfl 98 (.tmp 20) rfl b (o+k*13) rfl x.cells _ HRX.out underlying98 rfl (Tryz.infoPar x) ?_)
     | (refine wpList_load_mid rfl 98 (.tmp 24) rfl b' (o'+k*13) rfl y.cells _ (World.rangeAt_alloc HRY.out _) underlying98 rfl (Tryz.infoPar y) ?_)
     | (refine wpList_load_mid rfl 98 (.tmp 8) rfl wo.heap.size 0 rfl x.cells _ (Zd.range (Zr (Zf rfl) (by simp))) underlying98 rfl (Tryz.infoPar x) ?_)
     | (refine wpList_load_mid rfl 98 (.tmp 9) rfl (wo.heap.size+1) 0 rfl y.cells _ (Zd.range (Zf (by simp))) underlying98 rfl (Tryz.infoPar y) ?_))
    refine(HP.out _ x y (HK.out.trans ((Kept.alloc _ _ _).trans (Kept.alloc _ _ _)))).mono ?_
    rintro e w2 ⟨rfl,hk2⟩
    have HK2:=hh (HK.out.trans (((Kept.alloc _ _ _).trans (Kept.alloc _ _ _)).trans hk2))
    clear hk2
    cases hpx:p x y
    ·have HR:=hh (ZhS k HXK.out HYK.out hpx)
     clear hpx
     go_wp2_with fail
     go_ret
     exact⟨by rw[HR.out];rfl,HK2.out⟩
    ·have HN2:Hid (∀(j:Nat) x y,j < k+1→xs[j]? =some x→ys[j]? =some y→p x y=true):=fun j a b hj ha hb=>by
      by_cases e:j=k
      ·subst e
       rw[HXK.out]at ha;rw[HYK.out]at hb
       injection ha with ha;injection hb with hb
       subst ha hb;exact hpx
      ·exact HN.out j a b (by omega) ha hb
     clear hpx
     go_wp2_with fail
     go_roundw
     case rel=>exact⟨k+1,by omega,by go_num,HN2.out,HK2.out⟩
     case measure=>simp[intOf];omega
   ·obtain rfl:k=xs.length:=by omega
    have HR:=hh (Zfn HL.out (fun j x y hx hy=>HN.out j x y (List.getElem?_eq_some_iff.1 hx).1 hx hy))
    go_wp2_with fail
    go_ret
    exact⟨by rw[HR.out];rfl,HK.out⟩
 ·have HR:=hh (Zfo (p:=p) hl)
  go_enter func286,ntmps286
  go_wp2_with fail
  go_ret
  exact⟨by rw[HR.out];rfl,Kept.refl _ _⟩
end
end Go.Proofs.YtfaecpkocgcofaaGreatDoor
