/- Lemmas for ResolveSettles, printed small: M4 M5. -/
import Derived.Test.YtfaecpkocgcofaaGreatDoorZ32
set_option linter.all false
set_option maxRecDepth 100000
set_option maxHeartbeats 8000000
open Go.Proofs.Tryz
namespace Go.Proofs.YtfaecpkocgcofaaGreatDoor
section
open Go.RowKit
def YZ (x:ExV):Bool:=decide (3≤x.kind) && decide (x.kind≤8)
theorem ZcK (w:World) (x:ExV):Calls prog 181 #[.agg x.cells.toArray] w (ZE (.bool (YZ x)) w):=by
 by_cases h:3≤x.kind
 ·have HW:Hid (YZ x=decide (x.kind≤8)):=by rw[Hid,YZ,decide_eq_true h,Bool.true_and]
  go_enter func181,ntmps181
  go_wp2_with fail
  rw[HW.out]
  exact Za rfl (Zj results181 (Zh rfl)) kp
 ·have HW:Hid (YZ x=false):=by rw[Hid,YZ,decide_eq_false h,Bool.false_and]
  have h2:x.kind < 3:=by omega
  go_enter func181,ntmps181
  go_wp2_with fail
  rw[HW.out]
  exact Za rfl (Zj results181 (Zh rfl)) kp
def Q0 (x:ExV) (n:Nat):Bool:=decide (x.ls.length=n) && YZ (x.ls.headD Zg)
theorem Zdr (w:World) (x:ExV) (n:Nat) (hr:Zo ExV 9 ExV.cells w x.la x.ls) (hl:x.ls.length≤140737488355328) (hn:0 < n):Calls prog 178 #[.agg x.cells.toArray,.int .i64 n] w (ZE (.bool (Q0 x n)) w):=by
 by_cases h:x.ls.length=n
 ·obtain⟨y,hy⟩:∃y,x.ls[0]? =some y:=⟨_,List.getElem?_eq_getElem (by omega)⟩
  obtain⟨b,o,ha,hc⟩:=hr.some_ hy
  haveI iy:Q1 w b o y:=⟨by have:=hc 0 y hy;simpa using this⟩
  have hy2:x.ls.headD Zg=y:=by
   cases hq:x.ls with
   | nil=>rw[hq]at hy;simp at hy
   | cons a r=>rw[hq]at hy;simpa using hy
  have HW:Hid (Q0 x n=YZ y):=by rw[Hid,Q0,decide_eq_true h,Bool.true_and,hy2]
  have hn1:((x.ls.length:Int) == (n:Int))=true:=by simp;omega
  clear hr hc hy hy2
  have HN:=hh (fun W=>ZcK W y)
  have hpos:0 < x.ls.length:=by omega
  clear h
  go_enter func178,ntmps178
  go_wp2_with fail
  refine nxt (HN.out _) fun w1 p_w1=>?_;have hz_w1:=szk w w1
  go_wp2_with fail
  rw[HW.out]
  exact Za rfl (Zj results178 (Zh rfl)) kp
 ·have HW:Hid (Q0 x n=false):=by rw[Hid,Q0,decide_eq_false h,Bool.false_and]
  have hn1:((x.ls.length:Int) == (n:Int))=false:=by simp;omega
  clear hr h
  go_enter func178,ntmps178
  go_wp2_with fail
  rw[HW.out]
  exact Za rfl (Zj results178 (Zh rfl)) kp
def Zjv (a b:AsV):Int:=min 1 (a.2.1.length:Int) - min 1 (b.2.1.length:Int)
theorem Znq (w:World) (a b:AsV) (ha:a.2.1.length≤140737488355328) (hb:b.2.1.length≤140737488355328):Calls prog 280 #[.agg (AsV.cells a).toArray,.agg (AsV.cells b).toArray] w (ZE (.int .i64 (Zjv a b)) w):=by
 have HV:Hid (Zjv a b=min 1 (a.2.1.length:Int) - min 1 (b.2.1.length:Int)):=rfl
 have h1:0≤min 1 (a.2.1.length:Int)∧min 1 (a.2.1.length:Int)≤1:=by omega
 have h2:0≤min 1 (b.2.1.length:Int)∧min 1 (b.2.1.length:Int)≤1:=by omega
 go_enter func280,ntmps280
 go_wp2_with fail
 rw[HV.out]
 exact Za rfl (Zj results280 (Zh rfl)) kp
def ZP:List AsV→Bool
 | a::b::r=>!decide (Zjv b a < 0) && ZP (b::r)
 | _=>true
theorem Zbk:∀{l:List AsV} (k:Nat),ZP (l.drop k)=false→ZP l=false
 | _,0,h=>h
 | [],k+1,h=>by simp[ZP]at h
 | [a],k+1,h=>by simp[ZP]at h
 | a::b::r,k+1,h=>by
  have:=Zbk (l:=b::r) k (by simpa using h)
  rw[ZP,this,Bool.and_false]
theorem Ze2 {l:List AsV} {i:Nat} {x y:AsV} (hx:l[i+1]? =some x) (hy:l[i]? =some y):ZP (l.drop i)=(!decide (Zjv x y < 0) && ZP (l.drop (i+1))):=by
 obtain⟨h1,rfl⟩:=List.getElem?_eq_some_iff.1 hx
 obtain⟨h2,rfl⟩:=List.getElem?_eq_some_iff.1 hy
 rw[List.drop_eq_getElem_cons h2,List.drop_eq_getElem_cons h1,ZP,←List.drop_eq_getElem_cons h1]
theorem Ze3 {l:List AsV} {i:Nat} (h:l.length≤i+1):ZP (l.drop i)=true:=by
 have h1:(l.drop i).length≤1:=by simp;omega
 match hq:l.drop i,h1 with
 | [],_=>rfl
 | [a],_=>rfl
theorem Tryz.entersOrd1:∀args w,(callFunc 280 args).run prog w= .ok (.enter 280 args) w:=Go.Proofs.enters_of func280 (by kernel_rfl) rfl
def ZeO (w:World) (A:Option Addr) (l:List AsV):Prop:=Zo AsV 10 AsV.cells w A l∧l.length≤140737488355328∧∀a,a∈l→Zo ChV 2 ChV.cells w a.1 a.2.1∧a.2.1.length≤140737488355328∧∀c,c∈a.2.1→Zo ExV 9 ExV.cells w c.2.1 c.2.2.2∧c.2.2.2.length≤140737488355328
theorem ZeO.kept {w w':World} {A:Option Addr} {l:List AsV} (h:ZeO w A l) (hk:Kept [] w w'):ZeO w' A l:=
 ⟨h.1.kept hk,h.2.1,fun a ha=>⟨(h.2.2 a ha).1.kept hk,(h.2.2 a ha).2.1,fun c hc=>⟨((h.2.2 a ha).2.2 c hc).1.kept hk,((h.2.2 a ha).2.2 c hc).2⟩⟩⟩
theorem ZiC (w:World) (A:Option Addr) (c:Nat) (l:List AsV) (h:ZeO w A l):
 Calls prog 279 #[.slice A l.length c,.func (.func 280) #[] #[]] w (ZE (.bool (ZP l)) w):=by
 have HI:=hh h.1
 have hm:=h.2.1
 have HC:=hh (fun a (ha:a∈l)=>(h.2.2 a ha).2.1)
 have eg:=Tryz.entersOrd1
 clear h
 go_enter func279,ntmps279
 go_wp2_with fail
 go_loopw [5] (fun s5 wr=>∃k:Nat,s5= .int .i64 ((k:Int) - 1)∧k≤l.length∧(l.length≤k∨ZP (l.drop (k - 1))=true)∧(k=0→l.length=0)∧Kept [] w wr) (fun s5 _=>(intOf s5).toNat)
 case atStart=>exact⟨l.length,rfl,Nat.le_refl _,.inl (by omega),fun h=>h,Kept.refl _ _⟩
 case round=>
  obtain⟨k,rfl,hk,hs,h0,hkr⟩:=hrel
  have HS:Hid (ZP (l.drop (k - 1))=true):=hs.elim (fun h=>Ze3 (by omega)) (fun h=>h)
  have HK:=hh hkr
  haveI p_wr:Zb wr w:=⟨hkr⟩
  clear hs hkr
  obtain⟨wo,rfl⟩:∃wo:World,wo=wr:=⟨_,rfl⟩
  by_cases hlt:1 < k
  ·obtain⟨i,rfl⟩:∃i,k=i+2:=⟨k - 2,by omega⟩
   obtain⟨x,hx⟩:∃x,l[i+1]? =some x:=⟨_,List.getElem?_eq_getElem (by omega)⟩
   obtain⟨y,hy⟩:∃y,l[i]? =some y:=⟨_,List.getElem?_eq_getElem (by omega)⟩
   have HST:Hid (ZP (l.drop i)=(!decide (Zjv x y < 0) && ZP (l.drop (i+1)))):=Ze2 hx hy
   rw[show i+2 - 1=i+1 by omega]at HS
   rw[HS.out,Bool.and_true]at HST
   have HO:=hh (fun W=>Znq W x y (HC.out x (List.mem_of_getElem? hx)) (HC.out y (List.mem_of_getElem? hy)))
   rcases HI.out with h0 | ⟨b,o,rfl,hcx⟩
   ·rw[h0]at hx;simp at hx
   haveI ix:QH w b (o+(i+1)*10) x:=⟨hcx _ x hx⟩
   haveI iy:QH w b (o+i*10) y:=⟨hcx _ y hy⟩
   rw[show((i+2:Nat):Int) - 1=((i+1:Nat):Int) by omega]
   have e2:((i+1:Nat):Int) - 1=(i:Int):=by omega
   clear hcx hx hy h0
   by_cases hq:Zjv x y < 0
   ·have hq2:decide (Zjv x y < 0)=true:=decide_eq_true hq
    have HR:Hid (ZP l=false):=Zbk i (by rw[HST.out,hq2];rfl)
    clear HST
    go_wp2_with fail
    refine Ze 12 0 (fun _=> .cells #[] 0) (by kernel_rfl) (by kernel_rfl) (fun i o h1 h2=>by omega) (fun _ _ _ _ _ h=>h) ?_;apply Exists.intro;refine⟨fun U hU hN=>?_,?_⟩;simp only[List.take_succ_cons,List.take_zero]
    ·repeat(go_big_quiet_step (exact Calls.headV hU (HO.out _)))
     refine wpQuiet_nil ?_
     exact rfl
    simp only[List.drop_succ_cons,List.drop_zero,List.take_succ_cons,List.take_zero]
    intro w2 hk_w2 _
    haveI p_w2:Zb w2 _:=⟨hk_w2⟩
    clear hk_w2
    go_wp2_with fail
    go_ret
    rw[HR.out]
    exact⟨rfl,kp⟩
   ·have hq2:decide (Zjv x y < 0)=false:=decide_eq_false hq
    rw[hq2]at HST
    go_wp2_with fail
    refine Ze 12 0 (fun _=> .cells #[] 0) (by kernel_rfl) (by kernel_rfl) (fun i o h1 h2=>by omega) (fun _ _ _ _ _ h=>h) ?_;apply Exists.intro;refine⟨fun U hU hN=>?_,?_⟩;simp only[List.take_succ_cons,List.take_zero]
    ·repeat(go_big_quiet_step (exact Calls.headV hU (HO.out _)))
     refine wpQuiet_nil ?_
     exact rfl
    simp only[List.drop_succ_cons,List.drop_zero,List.take_succ_cons,List.take_zero]
    intro w2 hk_w2 _
    haveI p_w2:Zb w2 _:=⟨hk_w2⟩
    clear hk_w2
    go_wp2_with fail
    go_roundw
    case rel=>refine⟨i+1,?_,by omega,.inr (by simpa using HST.out),by omega,kp⟩;first | trivial | (simp;done) | (congr 1;omega)
    case measure=>simp[intOf]
  ·have HR:Hid (ZP l=true):=by
    have h1:=HS.out
    have e:l.drop (k - 1)=l:=by rw[show k - 1=0 by omega];rfl
    rwa [e]at h1
   have h2:decide ((0:Int) < (k:Int) - 1)=false:=by simp;omega
   go_wp2_with fail
   go_ret
   rw[HR.out]
   exact⟨rfl,kp⟩
theorem Zcn (w:World) (A:Option Addr) (c:Nat) (l:List AsV) (h:ZeO w A l):Calls prog 251 #[.slice A l.length c] w (ZE (.bool (ZP l)) w):=by
 have HS:=hh (ZiC w A c l h)
 clear h
 go_enter func251,ntmps251
 go_wp2_with fail
 refine HS.out.mono ?_
 rintro e w1 ⟨rfl,hk1⟩
 have HK1:=hh hk1
 clear hk1
 go_wp2_with fail
 exact Za rfl (Zj results251 (Zh rfl)) HK1.out
def ZtU:List ExV→Bool
 | [x]=>decide (x.kind=3)
 | _=>false
def Yi:List ChV→Bool
 | [c]=>decide (c.1=1) && ZtU c.2.2.2
 | _=>false
theorem ZiF (w:World) (A:Option Addr) (c:Nat) (l:List ChV) (hr:Zo ChV 2 ChV.cells w A l) (hl:l.length≤140737488355328) (hc:∀k,k∈l→Zo ExV 9 ExV.cells w k.2.1 k.2.2.2∧k.2.2.2.length≤140737488355328):
 Calls prog 253 #[.slice A l.length c] w (ZE (.bool (Yi l)) w):=by
 match l,hr,hl,hc with
 | [],_,_,_=>
  have HW:Hid (Yi []=false):=rfl
  go_enter func253,ntmps253
  go_wp2_with fail
  rw[HW.out]
  exact Za rfl (Zj results253 (Zh rfl)) (Kept.refl _ _)
 | a::b::r,_,hl,_=>
  have HW:Hid (Yi (a::b::r)=false):=rfl
  have h1:((r.length:Int)+1+1 == 1)=false:=by simp;omega
  go_enter func253,ntmps253
  go_wp2_with fail
  rw[HW.out]
  exact Za rfl (Zj results253 (Zh rfl)) (Kept.refl _ _)
 | [(k,kA,kC,kl)],hr,_,hc=>
  obtain⟨b,o,rfl,hcx⟩:=hr.some_ (j:=0) (x:=(k,kA,kC,kl)) rfl
  haveI ic:YP w b o (k,kA,kC,kl):=⟨by have:=hcx 0 _ rfl;simpa using this⟩
  have qc0:w.cell? ⟨b,o,none⟩=some (.int .u8 k):=by have:=ic.range 0 _ rfl;simpa using this
  have qc1:w.cell? ⟨b,o+1,none⟩=some (.slice kA kl.length kC):=by have:=ic.range 1 _ rfl;simpa using this
  have hc1:=hc _ (List.mem_singleton.2 rfl)
  simp only at hc1
  clear hcx hc hr
  by_cases hk:k=1
  case neg=>
   have HW:Hid (Yi [(k,kA,kC,kl)]=false):=by rw[Hid,Yi,decide_eq_false hk];rfl
   have hk2:(k == 1)=false:=by simpa using hk
   clear hk
   go_enter func253,ntmps253
   go_wp2_with fail
   rw[HW.out]
   exact Za rfl (Zj results253 (Zh rfl)) (Kept.refl _ _)
  have hk2:(k == 1)=true:=by simpa using hk
  have HV:Hid (Yi [(k,kA,kC,kl)]=ZtU kl):=by rw[Hid,Yi,decide_eq_true hk,Bool.true_and]
  clear hk
  rcases kl with _ | ⟨x,_ | ⟨y,r⟩⟩
  ·have HW:Hid (Yi [(k,kA,kC,[])]=false):=HV.out
   go_enter func253,ntmps253
   go_wp2_with fail
   rw[HW.out]
   exact Za rfl (Zj results253 (Zh rfl)) (Kept.refl _ _)
  case cons.cons=>
   have HW:Hid (Yi [(k,kA,kC,x::y::r)]=false):=HV.out
   have h1:((r.length:Int)+1+1 == 1)=false:=by simp;omega
   go_enter func253,ntmps253
   go_wp2_with fail
   rw[HW.out]
   exact Za rfl (Zj results253 (Zh rfl)) (Kept.refl _ _)
  ·obtain⟨xb,xo,rfl,hxx⟩:=hc1.1.some_ (j:=0) (x:=x) rfl
   haveI ix:Q1 w xb xo x:=⟨by have:=hxx 0 _ rfl;simpa using this⟩
   clear hxx hc1
   have HW:Hid (Yi [(k,some ⟨xb,xo,none⟩,kC,[x])]=(x.kind == 3)):=by
    rw[Hid,HV.out,ZtU]
    cases h:(x.kind == 3)
    ·rw[decide_eq_false (by simpa using h)]
    ·rw[decide_eq_true (by simpa using h)]
   go_enter func253,ntmps253
   go_wp2_with fail
   rw[HW.out]
   exact Za rfl (Zj results253 (Zh rfl)) (Kept.refl _ _)
def Zjm (a:AsV):Bool:=decide (0 < a.2.1.length) && !Yi a.2.1
theorem Zoz (w:World) (a:AsV) (hr:Zo ChV 2 ChV.cells w a.1 a.2.1) (hl:a.2.1.length≤140737488355328) (hc:∀k,k∈a.2.1→Zo ExV 9 ExV.cells w k.2.1 k.2.2.2∧k.2.2.2.length≤140737488355328):
 Calls prog 252 #[.agg (AsV.cells a).toArray] w (ZE (.bool (Zjm a)) w):=by
 have HS:=hh (fun W (hk:Kept [] w W)=>ZiF W a.1 a.2.2.1 a.2.1 (hr.kept hk) hl (fun k h=>⟨(hc k h).1.kept hk,(hc k h).2⟩))
 clear hr hc
 by_cases h:0 < a.2.1.length
 ·have HW:Hid (Zjm a= !Yi a.2.1):=by rw[Hid,Zjm,decide_eq_true h,Bool.true_and]
  generalize Yi a.2.1=q at*
  have h1:(0:Int) < (a.2.1.length:Int):=by omega
  go_enter func252,ntmps252
  go_wp2_with fail
  refine nxt (HS.out _ kp) fun w1 p_w1=>?_;have hz_w1:=szk w w1
  go_wp2_with fail
  rw[HW.out]
  exact Za rfl (Zj results252 (Zh rfl)) kp
 ·have HW:Hid (Zjm a=false):=by rw[Hid,Zjm,decide_eq_false h,Bool.false_and]
  have h1:¬0 < a.2.1.length:=h
  go_enter func252,ntmps252
  go_wp2_with fail
  rw[HW.out]
  exact Za rfl (Zj results252 (Zh rfl)) kp
theorem Tryz.entersArg1:∀args w,(callFunc 252 args).run prog w= .ok (.enter 252 args) w:=Go.Proofs.enters_of func252 (by kernel_rfl) rfl
def ZbE (l:List AsV):Bool:=decide (0 < l.length) && (decide (l.length≤8) && (ZP l && !l.any Zjm))
theorem ZeE (w:World) (A:Option Addr) (c:Nat) (l:List AsV) (h:ZeO w A l):Calls prog 179 #[.slice A l.length c] w (ZE (.bool (ZbE l)) w):=by
 have HO:=hh (fun W (hk:Kept [] w W)=>Zcn W A c l (h.kept hk))
 have HH:=hh (fun W (hk:Kept [] w W)=>ZfI W A c l h.2.1 (h.1.kept hk) 252 #[] #[] Zjm Tryz.entersArg1 (fun W2 x hk2 hx=>by
  have h3:=h.2.2 x hx
  exact Zoz W2 x (h3.1.kept (hk.trans hk2)) h3.2.1 (fun k hkm=>⟨(h3.2.2 k hkm).1.kept (hk.trans hk2),(h3.2.2 k hkm).2⟩)))
 have HV:Hid (ZbE l=(decide (0 < l.length) && (decide (l.length≤8) && (ZP l && !l.any Zjm)))):=rfl
 clear h
 generalize hs:ZP l=q1 at*
 generalize l.any Zjm=q2 at*
 clear hs
 by_cases h0:0 < l.length
 case neg=>
  have HW:Hid (ZbE l=false):=by rw[Hid,HV.out,decide_eq_false h0];rfl
  go_enter func179,ntmps179
  go_wp2_with fail
  rw[HW.out]
  exact Za rfl (Zj results179 (Zh rfl)) kp
 by_cases h8:l.length≤8
 case neg=>
  have HW:Hid (ZbE l=false):=by rw[Hid,HV.out,decide_eq_false h8];simp
  have h1:decide ((l.length:Int)≤8)=false:=by simp;omega
  have h1':decide ((0:Int) < (l.length:Int))=true:=by simp;simpa using h0
  have h9:(8:Int) < (l.length:Int):=by omega
  go_enter func179,ntmps179
  go_wp2_with fail
  rw[HW.out]
  exact Za rfl (Zj results179 (Zh rfl)) kp
 replace HV:Hid (ZbE l=(q1 && !q2)):=by rw[Hid,HV.out,decide_eq_true h0,decide_eq_true h8];rfl
 have h1:(0:Int) < (l.length:Int):=by omega
 have h2:(l.length:Int)≤8:=by omega
 cases q1
 ·go_enter func179,ntmps179
  go_wp2_with fail
  refine nxt (HO.out _ kp) fun w1 p_w1=>?_;have hz_w1:=szk w w1
  go_wp2_with fail
  rw[HV.out]
  exact Za rfl (Zj results179 (Zh rfl)) kp
 ·go_enter func179,ntmps179
  go_wp2_with fail
  refine nxt (HO.out _ kp) fun w1 p_w1=>?_;have hz_w1:=szk w w1
  go_wp2_with fail
  refine nxt (HH.out _ kp) fun w2 p_w2=>?_;have hz_w2:=szk w w2
  go_wp2_with fail
  rw[HV.out]
  exact Za rfl (Zj results179 (Zh rfl)) kp
theorem ZeP {α:Type} (l:List α):((l.length:Int) == 0)=decide (l= []):=by cases l <;> simp <;> omega
theorem Zgg {α:Type} (l:List α):((l.length:Int) == 1)=decide (l.length=1):=by by_cases h:l.length=1 <;> simp[h];omega
theorem Zgf {α:Type} (l:List α):((l.length:Int) == 2)=decide (l.length=2):=by by_cases h:l.length=2 <;> simp[h];omega
theorem Zge {α:Type} (l:List α):((l.length:Int) == 3)=decide (l.length=3):=by by_cases h:l.length=3 <;> simp[h];omega
theorem Jw {P:Program} {fn:Func} {a:Act} {w w':World} {b b':Bool} (hd:a.defers= []) (hr:(results fn a.tmps).run P w'= .ok (.bool b') w') (hb:b'=b) (hk:Kept [] w w'):bodyPost P fn (ZE (.bool b) w) .ret a w':=by
 subst hb
 exact Za hd hr hk
def Z3 (x:ExV):ExV:= .mk 0 (if x.kind=11∨x.kind=12 then 0 else x.oper) (if x.kind=1 then 0 else x.n) (if x.kind=3∨x.kind=4∨x.kind=6 then⟨#[]⟩else x.s) none 0 []
 (if x.kind=7∨x.kind=9 then none else x.aa) (if x.kind=7∨x.kind=9 then 0 else x.ac) (if x.kind=7∨x.kind=9 then []else x.al) 0 0 0
def okP (assoc:List AsV→Bool) (x:ExV):Bool:=
 if x.kind=1 then decide (x.ls.length=0) && (decide (0≤x.n) && decide (x.n≤2147483647))
 else if x.kind=2 then decide (x.ls.length=0)
 else if x.kind=3 then decide (x.ls.length=0) && ZbJ x.s
 else if x.kind=4∨x.kind=6 then Q0 x 1 && ZbJ x.s
 else if x.kind=5 then Q0 x 1
 else if x.kind=7 then Q0 x 1 && ZbE x.al
 else if x.kind=8 then Q0 x 2
 else if x.kind=9 then decide (x.ls.length=0) && assoc x.al
 else if x.kind=10 then decide (x.ls.length=3)
 else if x.kind=11 then decide (x.ls.length=1) && (decide (18≤x.oper) && decide (x.oper≤21))
 else if x.kind=12 then decide (x.ls.length=2) && (decide (1≤x.oper) && decide (x.oper≤17))
 else if x.kind=13∨x.kind=14 then decide (x.ls.length=3) || (decide (x.ls.length=2) && YZ (x.ls.getD 1 Zg))
 else false
def ZdT (x:ExV):Bool:=decide (x.oper=0) && (decide (x.n=0) && (decide (x.s.toList= []) && decide (x.al.length=0)))
def ZZ (assoc:List AsV→Bool) (x:ExV):Bool:=okP assoc x && ZdT (Z3 x)
def r0X (x:ExV):ExV:= .mk 0 x.oper x.n x.s none 0 [] x.aa x.ac x.al 0 0 0
theorem Zqa (x:ExV):((((x.cells.set 0 (.int .u8 0)).set 6 (.int .i64 0)).set 7 (.int .i64 0)).set 8 (.int .i64 0)).set 4 (.slice none 0 0)=(r0X x).cells:=rfl
theorem Zi7 (assoc:List AsV→Bool) (w:World) (x:ExV) (hT:Zf8 w) (hr:Zo ExV 9 ExV.cells w x.la x.ls) (hl:x.ls.length≤140737488355328) (hA:ZeO w x.aa x.al)
 (h9:x.kind=9→∀W,Kept [] w W→Calls prog 180 #[.slice x.aa x.al.length x.ac] W (ZE (.bool (assoc x.al)) W)):
 Calls prog 130 #[.agg x.cells.toArray] w (ZE (.bool (ZZ assoc x)) w):=by
 have HN:=hh (fun W (hk:Kept [] w W)=>Zg3 W x.s (hT.kept hk))
 have H11:Hid (∀W,Kept [] w W→Calls prog 178 #[.agg x.cells.toArray,.int .i64 1] W (ZE (.bool (Q0 x 1)) W)):=fun W hk=>Zdr W x 1 (hr.kept hk) hl (by decide)
 have H12:Hid (∀W,Kept [] w W→Calls prog 178 #[.agg x.cells.toArray,.int .i64 2] W (ZE (.bool (Q0 x 2)) W)):=fun W hk=>Zdr W x 2 (hr.kept hk) hl (by decide)
 have HG:=hh (fun W (hk:Kept [] w W)=>ZeE W x.aa x.ac x.al (hA.kept hk))
 have H9:=hh h9
 have HR:=hh hr
 have HS:=Zqa x
 have hal:=hA.2.1
 clear hT hr hA h9
 go_enter func130,ntmps130
 go_upto_block 0 with(fail)
 refine Zm ?_
 intro w0 hw0
 haveI p_w0:Zb w0 w:=⟨by rw[hw0];exact kp⟩
 haveI b1:Zc w0 w.heap.size 41 x.cells.toArray:=by rw[hw0];infer_instance
 haveI b3:Zc w0 (w.heap.size+1) 41 (r0X x).cells.toArray:=by rw[hw0];infer_instance
 clear hw0 HS
 generalize hkd:x.kind=kd at*
 have HKD:=hh hkd
 clear hkd
 go_cut [4] (fun v4 wc=>v4= .bool (okP assoc x)∧wc.heap[w.heap.size+1]? =some (.cells (Z3 x).cells.toArray 41 (0,0))∧Kept [] w wc)
 case rest=>
  obtain⟨rfl,hb,hkr⟩:=hcut
  have HKR:=hh hkr
  have HV:Hid (ZZ assoc x=(okP assoc x && ZdT (Z3 x))):=rfl
  generalize okP assoc x=q at*
  generalize Z3 x=r at*
  haveI br:Zc wc (w.heap.size+1) 41 r.cells.toArray:=⟨hb⟩
  clear hb hkr HN H11 H12 HG H9 HR
  cases q
  ·have HW:Hid (ZZ assoc x=false):=by rw[Hid,HV.out];rfl
   go_wp2_with fail
   rw[HW.out]
   exact Za rfl (Zj results130 (Zh rfl)) HKR.out
  rw[Bool.true_and]at HV
  go_wp2_with fail
  all_goals
   refine Jw rfl (Zj results130 (Zh rfl)) ?_ HKR.out
   rw[HV.out,ZdT]
   simp[*,ZeP]
 by_cases k1:kd=1
 ·subst k1
  have k1:=HKD.out
  have HO:Hid (okP assoc x=(decide (x.ls.length=0) && (decide (0≤x.n) && decide (x.n≤2147483647)))):=by simp[Hid,okP,k1]
  have HX:Hid ((Z3 x).cells.toArray=((r0X x).cells.toArray.setIfInBounds 2 (.int .i64 0))):=by
   rw[Hid,Z3];simp only[k1];rfl
  clear k1
  go_wp2_with fail
  all_goals
   go_meet
   refine⟨?_,?_,kp⟩
   ·rw[HO.out]
    all_goals try simp[*,ZeP,Zgg,Zgf,Zge]
    all_goals(intros;omega)
   ·rw[HX.out];exact Zc.has
 by_cases k2:kd=2
 ·subst k2
  have k2:=HKD.out
  have HO:Hid (okP assoc x=(decide (x.ls.length=0))):=by simp[Hid,okP,k2]
  have HX:Hid ((Z3 x).cells.toArray=(r0X x).cells.toArray):=by
   rw[Hid,Z3];simp only[k2];rfl
  clear k2
  go_wp2_with fail
  all_goals
   go_meet
   refine⟨?_,?_,kp⟩
   ·rw[HO.out]
    all_goals try simp[*,ZeP,Zgg,Zgf,Zge]
    all_goals(intros;omega)
   ·rw[HX.out];exact Zc.has
 by_cases k3:kd=3
 ·subst k3
  have k3:=HKD.out
  have HO:Hid (okP assoc x=(decide (x.ls.length=0) && ZbJ x.s)):=by simp[Hid,okP,k3]
  have HX:Hid ((Z3 x).cells.toArray=((r0X x).cells.toArray.setIfInBounds 3 (.string ⟨#[]⟩))):=by
   rw[Hid,Z3];simp only[k3];rfl
  clear k3
  go_wp2_with fail
  all_goals try(refine nxt (HN.out _ kp) fun w5 p_w5=>?_;have hz_w5:=szk w w5;go_wp2_with fail)
  all_goals
   go_meet
   refine⟨?_,?_,kp⟩
   ·rw[HO.out]
    all_goals try simp[*,ZeP,Zgg,Zgf,Zge]
    all_goals(intros;omega)
   ·rw[HX.out];exact Zc.has
 by_cases k4:kd=4
 ·subst k4
  have k4:=HKD.out
  have HO:Hid (okP assoc x=(Q0 x 1 && ZbJ x.s)):=by simp[Hid,okP,k4]
  have HX:Hid ((Z3 x).cells.toArray=((r0X x).cells.toArray.setIfInBounds 3 (.string ⟨#[]⟩))):=by
   rw[Hid,Z3];simp only[k4];rfl
  clear k4
  go_wp2_with fail
  all_goals try(refine nxt (H11.out _ kp) fun w5 p_w5=>?_;have hz_w5:=szk w w5;go_wp2_with fail)
  all_goals try(refine nxt (HN.out _ kp) fun w5 p_w5=>?_;have hz_w5:=szk w w5;go_wp2_with fail)
  all_goals
   go_meet
   refine⟨?_,?_,kp⟩
   ·rw[HO.out]
    all_goals try simp[*,ZeP,Zgg,Zgf,Zge]
    all_goals(intros;omega)
   ·rw[HX.out];exact Zc.has
 by_cases k5:kd=5
 ·subst k5
  have k5:=HKD.out
  have HO:Hid (okP assoc x=(Q0 x 1)):=by simp[Hid,okP,k5]
  have HX:Hid ((Z3 x).cells.toArray=(r0X x).cells.toArray):=by
   rw[Hid,Z3];simp only[k5];rfl
  clear k5
  go_wp2_with fail
  all_goals try(refine nxt (H11.out _ kp) fun w5 p_w5=>?_;have hz_w5:=szk w w5;go_wp2_with fail)
  all_goals
   go_meet
   refine⟨?_,?_,kp⟩
   ·rw[HO.out]
    all_goals try simp[*,ZeP,Zgg,Zgf,Zge]
    all_goals(intros;omega)
   ·rw[HX.out];exact Zc.has
 by_cases k6:kd=6
 ·subst k6
  have k6:=HKD.out
  have HO:Hid (okP assoc x=(Q0 x 1 && ZbJ x.s)):=by simp[Hid,okP,k6]
  have HX:Hid ((Z3 x).cells.toArray=((r0X x).cells.toArray.setIfInBounds 3 (.string ⟨#[]⟩))):=by
   rw[Hid,Z3];simp only[k6];rfl
  clear k6
  go_wp2_with fail
  all_goals try(refine nxt (H11.out _ kp) fun w5 p_w5=>?_;have hz_w5:=szk w w5;go_wp2_with fail)
  all_goals try(refine nxt (HN.out _ kp) fun w5 p_w5=>?_;have hz_w5:=szk w w5;go_wp2_with fail)
  all_goals
   go_meet
   refine⟨?_,?_,kp⟩
   ·rw[HO.out]
    all_goals try simp[*,ZeP,Zgg,Zgf,Zge]
    all_goals(intros;omega)
   ·rw[HX.out];exact Zc.has
 by_cases k7:kd=7
 ·subst k7
  have k7:=HKD.out
  have HO:Hid (okP assoc x=(Q0 x 1 && ZbE x.al)):=by simp[Hid,okP,k7]
  have HX:Hid ((Z3 x).cells.toArray=((r0X x).cells.toArray.setIfInBounds 5 (.slice none 0 0))):=by
   rw[Hid,Z3];simp only[k7];rfl
  clear k7
  go_wp2_with fail
  all_goals try(refine nxt (H11.out _ kp) fun w5 p_w5=>?_;have hz_w5:=szk w w5;go_wp2_with fail)
  all_goals try(refine nxt (HG.out _ kp) fun w5 p_w5=>?_;have hz_w5:=szk w w5;go_wp2_with fail)
  all_goals
   go_meet
   refine⟨?_,?_,kp⟩
   ·rw[HO.out]
    all_goals try simp[*,ZeP,Zgg,Zgf,Zge]
    all_goals(intros;omega)
   ·rw[HX.out];exact Zc.has
 by_cases k8:kd=8
 ·subst k8
  have k8:=HKD.out
  have HO:Hid (okP assoc x=(Q0 x 2)):=by simp[Hid,okP,k8]
  have HX:Hid ((Z3 x).cells.toArray=(r0X x).cells.toArray):=by
   rw[Hid,Z3];simp only[k8];rfl
  clear k8
  go_wp2_with fail
  all_goals try(refine nxt (H12.out _ kp) fun w5 p_w5=>?_;have hz_w5:=szk w w5;go_wp2_with fail)
  all_goals
   go_meet
   refine⟨?_,?_,kp⟩
   ·rw[HO.out]
    all_goals try simp[*,ZeP,Zgg,Zgf,Zge]
    all_goals(intros;omega)
   ·rw[HX.out];exact Zc.has
 by_cases k9:kd=9
 ·subst k9
  have k9:=HKD.out
  have HO:Hid (okP assoc x=(decide (x.ls.length=0) && assoc x.al)):=by simp[Hid,okP,k9]
  have HX:Hid ((Z3 x).cells.toArray=((r0X x).cells.toArray.setIfInBounds 5 (.slice none 0 0))):=by
   rw[Hid,Z3];simp only[k9];rfl
  have HA9:=hh (H9.out rfl)
  clear k9
  go_wp2_with fail
  all_goals try(refine nxt (HA9.out _ kp) fun w5 p_w5=>?_;have hz_w5:=szk w w5;go_wp2_with fail)
  all_goals
   go_meet
   refine⟨?_,?_,kp⟩
   ·rw[HO.out]
    all_goals try simp[*,ZeP,Zgg,Zgf,Zge]
    all_goals(intros;omega)
   ·rw[HX.out];exact Zc.has
 by_cases k10:kd=10
 ·subst k10
  have k10:=HKD.out
  have HO:Hid (okP assoc x=(decide (x.ls.length=3))):=by simp[Hid,okP,k10]
  have HX:Hid ((Z3 x).cells.toArray=(r0X x).cells.toArray):=by
   rw[Hid,Z3];simp only[k10];rfl
  clear k10
  go_wp2_with fail
  all_goals
   go_meet
   refine⟨?_,?_,kp⟩
   ·rw[HO.out]
    all_goals try simp[*,ZeP,Zgg,Zgf,Zge]
    all_goals(intros;omega)
   ·rw[HX.out];exact Zc.has
 by_cases k11:kd=11
 ·subst k11
  have k11:=HKD.out
  have HO:Hid (okP assoc x=(decide (x.ls.length=1) && (decide (18≤x.oper) && decide (x.oper≤21)))):=by simp[Hid,okP,k11]
  have HX:Hid ((Z3 x).cells.toArray=((r0X x).cells.toArray.setIfInBounds 1 (.int .u8 0))):=by
   rw[Hid,Z3];simp only[k11];rfl
  clear k11
  go_wp2_with fail
  all_goals
   go_meet
   refine⟨?_,?_,kp⟩
   ·rw[HO.out]
    all_goals try simp[*,ZeP,Zgg,Zgf,Zge]
    all_goals(intros;omega)
   ·rw[HX.out];exact Zc.has
 by_cases k12:kd=12
 ·subst k12
  have k12:=HKD.out
  have HO:Hid (okP assoc x=(decide (x.ls.length=2) && (decide (1≤x.oper) && decide (x.oper≤17)))):=by simp[Hid,okP,k12]
  have HX:Hid ((Z3 x).cells.toArray=((r0X x).cells.toArray.setIfInBounds 1 (.int .u8 0))):=by
   rw[Hid,Z3];simp only[k12];rfl
  clear k12
  go_wp2_with fail
  all_goals
   go_meet
   refine⟨?_,?_,kp⟩
   ·rw[HO.out]
    all_goals try simp[*,ZeP,Zgg,Zgf,Zge]
    all_goals(intros;omega)
   ·rw[HX.out];exact Zc.has
 by_cases k13:kd=13
 ·subst k13
  have k13:=HKD.out
  have HO:Hid (okP assoc x=(decide (x.ls.length=3) || (decide (x.ls.length=2) && YZ (x.ls.getD 1 Zg)))):=by simp[Hid,okP,k13]
  have HX:Hid ((Z3 x).cells.toArray=(r0X x).cells.toArray):=by
   rw[Hid,Z3];simp only[k13];rfl
  by_cases h2:x.ls.length=2
  case neg=>
   have h2':((x.ls.length:Int) == 2)=false:=by simp;omega
   go_wp2_with fail
   all_goals
    go_meet
    refine⟨?_,?_,kp⟩
    ·rw[HO.out]
     all_goals try simp[*,ZeP,Zgg,Zgf,Zge]
     all_goals(intros;omega)
    ·rw[HX.out];exact Zc.has
  obtain⟨y,hy⟩:∃y,x.ls[1]? =some y:=⟨_,List.getElem?_eq_getElem (by omega)⟩
  obtain⟨lb,lo,hla,hlr⟩:=HR.out.some_ hy
  haveI iy:Q1 w lb (lo+9) y:=⟨by have:=hlr 1 y hy;simpa using this⟩
  have hyd:x.ls.getD 1 Zg=y:=by simp[List.getD_eq_getElem?_getD,hy]
  rw[hyd]at HO
  have HNY:=hh (fun W=>ZcK W y)
  clear hlr hy hyd
  clear k13
  go_wp2_with fail
  all_goals try(refine nxt (HNY.out _) fun w5 p_w5=>?_;have hz_w5:=szk w w5;go_wp2_with fail)
  all_goals
   go_meet
   refine⟨?_,?_,kp⟩
   ·rw[HO.out]
    all_goals try simp[*,ZeP,Zgg,Zgf,Zge]
    all_goals(intros;omega)
   ·rw[HX.out];exact Zc.has
 by_cases k14:kd=14
 ·subst k14
  have k14:=HKD.out
  have HO:Hid (okP assoc x=(decide (x.ls.length=3) || (decide (x.ls.length=2) && YZ (x.ls.getD 1 Zg)))):=by simp[Hid,okP,k14]
  have HX:Hid ((Z3 x).cells.toArray=(r0X x).cells.toArray):=by
   rw[Hid,Z3];simp only[k14];rfl
  by_cases h2:x.ls.length=2
  case neg=>
   have h2':((x.ls.length:Int) == 2)=false:=by simp;omega
   go_wp2_with fail
   all_goals
    go_meet
    refine⟨?_,?_,kp⟩
    ·rw[HO.out]
     all_goals try simp[*,ZeP,Zgg,Zgf,Zge]
     all_goals(intros;omega)
    ·rw[HX.out];exact Zc.has
  obtain⟨y,hy⟩:∃y,x.ls[1]? =some y:=⟨_,List.getElem?_eq_getElem (by omega)⟩
  obtain⟨lb,lo,hla,hlr⟩:=HR.out.some_ hy
  haveI iy:Q1 w lb (lo+9) y:=⟨by have:=hlr 1 y hy;simpa using this⟩
  have hyd:x.ls.getD 1 Zg=y:=by simp[List.getD_eq_getElem?_getD,hy]
  rw[hyd]at HO
  have HNY:=hh (fun W=>ZcK W y)
  clear hlr hy hyd
  clear k14
  go_wp2_with fail
  all_goals try(refine nxt (HNY.out _) fun w5 p_w5=>?_;have hz_w5:=szk w w5;go_wp2_with fail)
  all_goals
   go_meet
   refine⟨?_,?_,kp⟩
   ·rw[HO.out]
    all_goals try simp[*,ZeP,Zgg,Zgf,Zge]
    all_goals(intros;omega)
   ·rw[HX.out];exact Zc.has
 have HO:Hid (okP assoc x=false):=by simp[Hid,okP,HKD.out,k1,k2,k3,k4,k5,k6,k7,k8,k9,k10,k11,k12,k13,k14]
 have HX:Hid ((Z3 x).cells.toArray=(r0X x).cells.toArray):=by
  rw[Hid,Z3];simp only[HKD.out,k1,k3,k4,k6,k7,k9,k11,k12,or_self,if_false];rfl
 go_wp2_with fail
 go_meet
 refine⟨?_,?_,kp⟩
 ·rw[HO.out]
 ·rw[HX.out];exact Zc.has
end
end Go.Proofs.YtfaecpkocgcofaaGreatDoor
