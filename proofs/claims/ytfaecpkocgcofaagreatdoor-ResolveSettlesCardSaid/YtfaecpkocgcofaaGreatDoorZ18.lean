/- Lemmas for ResolveSettles, printed small: CB4 CB5 CB6. -/
import Derived.Test.YtfaecpkocgcofaaGreatDoorZ17
set_option linter.all false
set_option maxRecDepth 100000
set_option maxHeartbeats 8000000
open Go.Proofs.Tryz
namespace Go.Proofs.YtfaecpkocgcofaaGreatDoor
section
open Go.RowKit
theorem ZfH {xs:List Int} {k:Nat} {x n:Int} (hx:xs[k]? =some x):Zcr (xs.take (k+1)) n=(Zcr (xs.take k) n || n == x):=by
 obtain⟨h,rfl⟩:=List.getElem?_eq_some_iff.1 hx
 rw[ZaQ xs k n h]
 congr 1
 simp only[List.getD_eq_getElem?_getD,List.getElem?_eq_getElem h,Option.getD_some]
 rw[Bool.eq_iff_iff,beq_iff_eq,beq_iff_eq]
 exact⟨Eq.symm,Eq.symm⟩
theorem Zh8 {xs:List Int} {k:Nat} {x n:Int} (hx:xs[k]? =some x) (h:(n == x)=true):Zcr xs n=true:=by
 have:n=x:=by simpa using h
 subst this
 unfold Zcr
 simpa using List.mem_of_getElem? hx
def ZsU (b:Bool) (w:World) (e:Ending) (w':World):Prop:=∃i:Int,e= .returned (.int .i64 i)∧decide (0≤i)=b∧w'=w
theorem Zi4 (w:World) (a:Option Addr) (c:Nat) (xs:List Int) (n:Int) (hc:xs.length≤c) (hm:c≤9223372036854775807) (hI:ZM w a xs):
 Calls prog 272 #[.slice a xs.length c,.int .i64 n] w (ZsU (Zcr xs n) w):=by
 have HI:=hh hI
 clear hI
 go_enter func272,ntmps272
 go_wp2_with fail
 go_loopw [8] (fun i wr=>∃k:Nat,k≤xs.length∧i= .int .i64 k∧Zcr (xs.take k) n=false∧wr=w) (fun i _=>xs.length - (intOf i).toNat)
 case atStart=>exact⟨0,Nat.zero_le _,rfl,rfl,rfl⟩
 case round=>
  obtain⟨k,hk,rfl,hn,rfl⟩:=hrel
  have HN:=hh hn
  clear hn
  by_cases hlt:k < xs.length
  ·obtain⟨x,hx⟩:∃x,xs[k]? =some x:=⟨_,List.getElem?_eq_getElem hlt⟩
   have HS:Hid (Zcr (xs.take (k+1)) n=(n == x)):=by rw[Hid,ZfH hx,HN.out,Bool.false_or]
   have HG:Hid ((n == x)=true→Zcr xs n=true):=Zh8 hx
   rcases HI.out with h0 | ⟨b,o,rfl,hcx⟩
   ·rw[h0]at hlt;simp at hlt
   ·have qx:=hcx k x hx
    clear hcx hx
    cases hq:(n == x)
    ·rw[hq]at HS
     clear HG
     go_wp2_with fail
     go_roundw
     case rel=>exact⟨k+1,by omega,by go_num,HS.out,trivial⟩
     case measure=>simp[intOf];omega
    ·have HG2:=hh (HG.out hq)
     clear HG HS
     go_wp2_with fail
     go_ret
     exact⟨_,rfl,by rw[HG2.out];simp,rfl⟩
  ·obtain rfl:k=xs.length:=by omega
   have HN2:=hh (by have:=HN.out;rw[List.take_length]at this;exact this)
   clear HN
   go_wp2_with fail
   go_ret
   exact⟨_,rfl,by rw[HN2.out];simp,rfl⟩
theorem Jv (w:World) (a:Option Addr) (c:Nat) (xs:List Int) (n:Int) (hc:xs.length≤c) (hm:c≤9223372036854775807) (hI:ZM w a xs):
 Calls prog 235 #[.slice a xs.length c,.int .i64 n] w fun e w'=>e= .returned (.bool (Zcr xs n))∧w'=w:=by
 have HC:=hh (Zi4 w a c xs n hc hm hI)
 clear hI
 go_enter func235,ntmps235
 go_wp2_with fail
 refine HC.out.mono ?_
 rintro e w2 ⟨i,rfl,hi,rfl⟩
 have HI:=hh hi
 clear hi HC
 go_wp2_with fail
 go_ret
 rw[HI.out]
 exact⟨rfl,rfl⟩
theorem ZX.cells {w:World} {F:Nat} {v:Zp} {t:Tab} {h:WhV} {name:ByteArray} {all:List Int} (hf:ZX w F v t h name all):∃a c,ZM w a all∧all.length≤c∧c≤9223372036854775807∧
 w.cell? ⟨F,0,none⟩=some (.slice v.ta t.types.length v.tc)∧w.cell? ⟨F,1,none⟩=some (.slice v.sa t.subs.length v.sc)∧w.cell? ⟨F,2,none⟩=some (.slice v.ea t.ents.length v.ec)∧w.cell? ⟨F,3,none⟩=some (.slice v.ga v.gn v.gc)∧w.cell? ⟨F,4,none⟩=some (.slice v.ia v.im v.ic)∧
 w.cell? ⟨F,5,none⟩=some (.int .i64 h.region)∧w.cell? ⟨F,6,none⟩=some (.int .i64 h.after)∧w.cell? ⟨F,7,none⟩=some (.slice h.ua h.units.length h.uc)∧w.cell? ⟨F,8,none⟩=some (.slice h.sa h.uses.length h.sc)∧w.cell? ⟨F,9,none⟩=some (.string name)∧w.cell? ⟨F,10,none⟩=some (.slice a all.length c):=by
 obtain⟨⟨a,c,h1,h2,h3,h4⟩,_,_⟩:=hf
 have hc:∀j,w.cell? ⟨F,j,none⟩=(ZfL v t h name (.slice a all.length c))[j]? :=fun j=>cell_of_row _ _ _ _ _ _ h1
 exact⟨a,c,h2,h3,h4,hc 0,hc 1,hc 2,hc 3,hc 4,hc 5,hc 6,hc 7,hc 8,hc 9,hc 10⟩
def Zdf (t:Tab) (h:WhV) (e:Int) (x:Zx):Bool:=(((x.owner != 0) || decide (x.unit < 0)) || Zcr h.units e) || Jr t h.region e
theorem ZiE (w:World) (F:Nat) (v:Zp) (t:Tab) (h:WhV) (name:ByteArray) (all:List Int) (k:Nat) (x:Zx) (hx:t.ents[k]? =some x) (hF:ZX w F v t h name all):
 Calls prog 160 #[.pointer (some ⟨F,0,none⟩),.int .i64 k] w (J0 (Zdf t h k x) w):=by
 have HF:=hh hF
 have HR:Hid (Zdf t h k x=((((x.owner != 0) || decide (x.unit < 0)) || Zcr h.units k) || Jr t h.region k)):=rfl
 have q1:=hF.tab.elc
 have q2:=hF.tab.em
 have hlt:=(List.getElem?_eq_some_iff.1 hx).1
 obtain⟨b,o,hea,hr⟩:=hF.tab.es.some_ hx
 have HROW:=hh (hr k x hx)
 obtain⟨a,c,hin,hl1,hl2,_,_,c2,_⟩:=hF.cells
 rw[hea]at c2
 clear hx hF hr hin hl1 hl2
 go_enter func160,ntmps160
 go_upto_region 2 with(refine wpList_load_mid rfl 95 (.tmp 13) rfl b (o+k*22) rfl x.cells _ HROW.out underlying95 rfl (Tryz.infoEnt x) ?_)
 refine Zm ?_
 intro w0 hw0
 have hk0:Kept [] w w0:=by rw[hw0];exact Kept.alloc _ _ _
 have n2:w0.cell? ⟨w.heap.size,2,none⟩=some (.int .i64 x.owner):=by rw[hw0];exact Zz (x:=x) (heap_alloc_new _ _) 2 rfl
 have n20:w0.cell? ⟨w.heap.size,20,none⟩=some (.int .i64 x.unit):=by rw[hw0];exact Zz (x:=x) (heap_alloc_new _ _) 20 rfl
 have HK0:=hh hk0
 have HF0:=hh (HF.out.kept hk0)
 clear hw0 hk0 HF HROW c2
 obtain⟨a',c',_,_,_,f0,f1,f2,f3,f4,f5,_,f7,_⟩:=HF0.out.cells
 have u1:=HF0.out.wh.u1
 have u2:=HF0.out.wh.u2
 clear hea
 cases h1:(x.owner != 0)
 ·rw[h1]at HR
  cases h2:decide (x.unit < 0)
  ·rw[h2]at HR
   cases h3:Zcr h.units k
   ·rw[h3]at HR
    have HCO:=hh h3
    have HF1:=hh (HF0.out.kept (Kept.drew _ _))
    have HK1:=hh (HK0.out.trans (Kept.drew _ _))
    have HQ:Hid (∀W,Kept [] w0 W→Calls prog 235 #[.slice h.ua h.units.length h.uc,.int .i64 k] W (fun e w''=>e= .returned (.bool false)∧w''=W)):=fun W hk=>by
     have hc:=Jv W h.ua h.uc h.units k u1 u2 (HF0.out.wh.u.kept hk)
     rw[h3]at hc
     exact hc
    clear h3
    go_still_tail 29,(by kernel_rfl)
    still_call (HQ.out _ (by first | exact Kept.drew _ _ | exact Kept.refl _ _))
    repeat still_step
    refine wpStill_nil ?_
    change wpList _ _ _ _ _ w0.drew
    generalize w0.drew=w1 at*
    go_wp2_with (first
     | (go_at_call 235;refine(Jv _ h.ua h.uc h.units k u1 u2 HF1.out.wh.u).mono ?_;rintro e w5 ⟨rfl,rfl⟩;rw[HCO.out])
     | (go_at_call 104;refine(Zdl _ v t h.region k HF1.out.tab).mono ?_;rintro e w6 ⟨rfl,hk6⟩;have HK6:=hh (HK1.out.trans hk6);clear hk6))
    go_ret
    exact⟨by rw[HR.out];rfl,HK6.out⟩
   ·rw[h3]at HR
    have HQ:Hid (∀W,Kept [] w0 W→Calls prog 235 #[.slice h.ua h.units.length h.uc,.int .i64 k] W (fun e w''=>e= .returned (.bool true)∧w''=W)):=fun W hk=>by
     have hc:=Jv W h.ua h.uc h.units k u1 u2 (HF0.out.wh.u.kept hk)
     rw[h3]at hc
     exact hc
    clear h3
    go_quiet ((go_at_call 235;exact Calls.quiet_of_same (HQ.out _ (by first | exact Kept.refl _ _ | exact Kept.drew _ _ | exact Kept.drewN _ _ _))))
    go_wp2_with fail
    go_ret
    exact⟨by rw[HR.out];rfl,HK0.out.trans (Kept.drewN _ _ _)⟩
  ·rw[h2]at HR
   go_quiet (fail)
   go_wp2_with fail
   go_ret
   exact⟨by rw[HR.out];rfl,HK0.out.trans (Kept.drewN _ _ _)⟩
 ·rw[h1]at HR
  go_quiet (fail)
  go_wp2_with fail
  go_ret
  exact⟨by rw[HR.out];rfl,HK0.out.trans (Kept.drewN _ _ _)⟩
theorem Jz {P:Program} {ops:Array Oper} {w:World} {Q:Act→Prop} {a:Act} {op:Oper} {rest:List Oper} (hgd:op.guard=none) (ty:TypeId) (x:Operand) (ho:op.op= .load ty x)
 (b o:Nat) (hx:a.eval x= .pointer (some ⟨b,o,none⟩)) (cs:List Value) (d:TypeDesc) (hc:w.rangeAt b o cs)
 (hu:P.underlying ty=some d) (hd:d.isRow=true) (hi:(P.info? ty).map (·.size)=some cs.length)
 (h:wpStill P ops w Q rest (a.put op.dst (.agg cs.toArray))):wpStill P ops w Q (op::rest) a:=
 wpStill_step fun K hK=>by
  have hw:Region.wanted op (yielded ops a.tmps)=true:=by simp[Region.wanted,hgd]
  rw[if_pos hw]
  unfold Oper.still execOp
  simp only[ho,hx,Instr.loadAt,Instr.sureAddr,Sem.run_bind,Sem.run_pure,Result.andThen_ok,run_loadVar_mid w b o ty cs d hc hu hd hi,Oper.stillUpon]
  exact⟨trivial,hK _ h⟩
theorem Zhc (w:World) (F Bf Be:Nat) (v:Zp) (t:Tab) (h:WhV) (name:ByteArray) (all:List Int) (i k:Nat) (x y:Zx) (hx:t.ents[i]? =some x) (hy:t.ents[k]? =some y) (hF:ZX w F v t h name all)
 (hBf:w.cell? ⟨Bf,0,none⟩=some (.pointer (some ⟨F,0,none⟩))) (hBe:w.cell? ⟨Be,0,none⟩=some (.int .i64 k)):
 Calls prog 270 #[.int .i64 i,.pointer (some ⟨Bf,0,none⟩),.pointer (some ⟨Be,0,none⟩)] w (J0 (Zmr t x y) w):=by
 have HF:=hh hF
 have q1:=hF.tab.elc
 have q2:=hF.tab.em
 have hxl:=(List.getElem?_eq_some_iff.1 hx).1
 have hyl:=(List.getElem?_eq_some_iff.1 hy).1
 have HEX:=hh (hF.tab.ent (List.mem_of_getElem? hx))
 have HEY:=hh (hF.tab.ent (List.mem_of_getElem? hy))
 obtain⟨b,o,hea,hr⟩:=hF.tab.es.some_ hx
 have rx:=hr i x hx
 have ry:=hr k y hy
 obtain⟨a,c,_,_,_,f0,f1,f2,f3,f4,_⟩:=hF.cells
 have f2':=f2
 rw[hea]at f2'
 have j1:(0:Int)≤(i:Int):=by omega
 have j2:(i:Int) < (t.ents.length:Int):=by omega
 have j3:(0:Int)≤(k:Int):=by omega
 have j4:(k:Int) < (t.ents.length:Int):=by omega
 have HVT:Hid (v.cells t= #[.slice v.ta t.types.length v.tc,.slice v.sa t.subs.length v.sc,.slice (some ⟨b,o,none⟩) t.ents.length v.ec,.slice v.ga v.gn v.gc,.slice v.ia v.im v.ic]):=by rw[Hid,←hea];rfl
 have RX:Hid (w.rangeAt b (o+i*22) x.cells∧w.drew.rangeAt b (o+i*22) x.cells):=⟨rx,by simpa using rx⟩
 have RY:Hid (w.rangeAt b (o+k*22) y.cells∧w.drew.rangeAt b (o+k*22) y.cells):=⟨ry,by simpa using ry⟩
 have HC:Hid (Calls prog 233 #[.agg #[.slice v.ta t.types.length v.tc,.slice v.sa t.subs.length v.sc,.slice (some ⟨b,o,none⟩) t.ents.length v.ec,.slice v.ga v.gn v.gc,.slice v.ia v.im v.ic],.agg x.cells.toArray,.agg y.cells.toArray] w.drew (J0 (Zmr t x y) w.drew)):=by
  rw[Hid,←HVT.out]
  exact J9 w.drew v t x y (HF.out.tab.kept (Kept.drew _ _)) (HEX.out.kept (Kept.drew _ _)) (HEY.out.kept (Kept.drew _ _))
 clear hx hy hF hr hea f2 rx ry
 go_enter func270,ntmps270
 go_upto_region 1 with(fail)
 go_still_tail 22,(by kernel_rfl)
 refine Jz rfl 95 (.tmp 16) rfl b (o+i*22) rfl x.cells _ (by first | exact RX.out.1 | exact RX.out.2) underlying95 rfl (Tryz.infoEnt x) ?_
 repeat still_step
 refine Jz rfl 95 (.tmp 25) rfl b (o+k*22) rfl y.cells _ (by first | exact RY.out.1 | exact RY.out.2) underlying95 rfl (Tryz.infoEnt y) ?_
 repeat still_step
 refine wpStill_nil ?_
 change wpList _ _ _ _ _ w.drew
 go_wp2_with fail
 refine HC.out.mono ?_
 rintro e w1 ⟨rfl,hk1⟩
 have HK1:=hh ((Kept.drew [] w).trans hk1)
 clear hk1
 go_wp2_with fail
 go_ret
 exact⟨rfl,HK1.out⟩
theorem Zag {t:Tab} {e:Int} (h:(Y9 t e).isSome=true):∃(n:Nat) (x:Zx),e=(n:Int)∧t.ents[n]? =some x∧JJ t e=x:=by
 obtain⟨x,hx⟩:=Option.isSome_iff_exists.1 h
 have h0:=JT hx
 obtain⟨n,rfl⟩:=Int.eq_ofNat_of_zero_le h0
 refine⟨n,x,rfl,?_,by unfold JJ;rw[hx];rfl⟩
 unfold Y9 at hx
 rw[if_neg (by omega)]at hx
 simpa using hx
theorem Zob:∀args w,(callFunc 270 args).run prog w= .ok (.enter 270 args) w:=Go.Proofs.enters_of func270 (by kernel_rfl) rfl
def Zrs (t:Tab) (l:List Int) (y:Zx):Bool:=l.any fun a=>Zmr t (JJ t a) y
theorem Zdo (w:World) (F:Nat) (v:Zp) (t:Tab) (h:WhV) (name:ByteArray) (all:List Int) (k:Nat) (y:Zx) (hy:t.ents[k]? =some y) (hF:ZX w F v t h name all)
 (a:Option Addr) (c:Nat) (l:List Int) (hc:l.length≤c) (hm:c≤9223372036854775807) (hI:ZM w a l) (hl:∀e,e∈l→(Y9 t e).isSome=true):
 Calls prog 228 #[.pointer (some ⟨F,0,none⟩),.int .i64 k,.slice a l.length c] w (J0 (Zrs t l y) w):=by
 have HF:=hh hF
 have HI:=hh hI
 have HL:=hh hl
 have HY:=hh hy
 clear hF hI hl hy
 go_enter func228,ntmps228
 go_upto_region 1 with(fail)
 refine Zm ?_
 intro w0 hw0
 have hk0:Kept [] w w0:=by rw[hw0];exact(Kept.alloc _ _ _).trans (Kept.alloc _ _ _)
 have b0:w0.heap[w.heap.size]? =some (.cells #[.pointer (some ⟨F,0,none⟩)] 229 (0,0)):=by rw[hw0];exact Zr (Zf rfl) (by simp)
 have b1:w0.heap[w.heap.size+1]? =some (.cells #[.int .i64 k] 3 (0,0)):=by rw[hw0];exact Zf (by simp)
 have HK0:=hh hk0
 have HC:=hh (ZaR w0 a c l hc hm (HI.out.kept hk0) 270 #[.pointer (some ⟨w.heap.size,0,none⟩),.pointer (some ⟨w.heap.size+1,0,none⟩)] (fun e=>Zmr t (JJ t e) y) Zob (fun W e hk he=>by
  obtain⟨i,x,rfl,hx,hxe⟩:=Zag (HL.out e he)
  rw[hxe]
  exact Zhc W F w.heap.size (w.heap.size+1) v t h name all i k x y hx HY.out (HF.out.kept (hk0.trans hk)) ((ZB (hk.obj b0 (by simp))).1) ((ZB (hk.obj b1 (by simp))).1)))
 clear hw0 hk0 b0 b1
 go_wp2_with fail
 refine HC.out.mono ?_
 rintro e w1 ⟨rfl,hk1⟩
 have HK1:=hh (HK0.out.trans hk1)
 clear hk1 HC
 go_wp2_with fail
 go_ret
 exact⟨rfl,HK1.out⟩
def ZeQ (t:Tab) (h:WhV) (r:Int) (out:List Int) (e:Int):Bool:=((JJ t e).owner == r && Zdf t h e (JJ t e)) && !Zrs t out (JJ t e)
theorem Zhn (w:World) (F Bf Br Bo:Nat) (v:Zp) (t:Tab) (h:WhV) (name:ByteArray) (all:List Int) (k:Nat) (x:Zx) (hx:t.ents[k]? =some x) (r:Int) (hF:ZX w F v t h name all)
 (hBf:w.cell? ⟨Bf,0,none⟩=some (.pointer (some ⟨F,0,none⟩))) (hBr:w.cell? ⟨Br,0,none⟩=some (.int .i64 r))
 (a:Option Addr) (c:Nat) (out:List Int) (hBo:w.cell? ⟨Bo,0,none⟩=some (.slice a out.length c)) (hc:out.length≤c) (hm:c≤9223372036854775807) (hI:ZM w a out) (hl:∀e,e∈out→(Y9 t e).isSome=true):
 Calls prog 227 #[.int .i64 k,.pointer (some ⟨Bf,0,none⟩),.pointer (some ⟨Br,0,none⟩),.pointer (some ⟨Bo,0,none⟩)] w (J0 (ZeQ t h r out k) w):=by
 have HF:=hh hF
 have HI:=hh hI
 have HL:=hh hl
 have HX:=hh hx
 have q1:=hF.tab.elc
 have q2:=hF.tab.em
 have hxl:=(List.getElem?_eq_some_iff.1 hx).1
 have hxe:JJ t k=x:=by unfold JJ Y9;rw[if_neg (by omega)];simp[hx]
 have HR:Hid (ZeQ t h r out k=((x.owner == r && Zdf t h k x) && !Zrs t out x)):=by rw[Hid,ZeQ,hxe]
 obtain⟨b,o,hea,hr⟩:=hF.tab.es.some_ hx
 have ro:w.cell? ⟨b,o+k*22+2,none⟩=some (.int .i64 x.owner):=hr k x hx 2 _ rfl
 obtain⟨a',c',_,_,_,f0,f1,f2,f3,f4,_⟩:=hF.cells
 rw[hea]at f2
 have j3:(0:Int)≤(k:Int):=by omega
 have j4:(k:Int) < (t.ents.length:Int):=by omega
 clear hx hF hr hea hI hl hxe f0 f1 f3 f4
 go_enter func227,ntmps227
 go_upto_region 1 with(fail)
 have g0:=Qr.cell hBf
 have g1:=Qr.cell hBr
 have g2:=Qr.cell hBo
 have g3:=Qr.cell f2
 have g4:=Qr.cell ro
 have HCN:Hid (∀z:Qr w,Calls prog 160 #[.pointer (some ⟨F,0,none⟩),.int .i64 k] z.1 (J0 (Zdf t h k x) z.1)):=fun z=>ZiE z.1 F v t h name all k x HX.out (HF.out.kept z.2)
 have HCH:Hid (∀z:Qr w,Calls prog 228 #[.pointer (some ⟨F,0,none⟩),.int .i64 k,.slice a out.length c] z.1 (J0 (Zrs t out x) z.1)):=fun z=>Zdo z.1 F v t h name all k x HX.out (HF.out.kept z.2) a c out hc hm (HI.out.kept z.2) HL.out
 clear hBf hBr hBo f2 ro
 cases h1:(x.owner == r)
 ·rw[h1]at HR
  refine Z4 (by kernel_rfl) (by kernel_rfl) ?_
  repeat(go_big_quiet_step (fail))
  refine wpQuiet_nil ?_
  rintro w' ⟨z,rfl⟩
  obtain⟨w1,hk1⟩:=z
  go_wp2_with fail
  go_ret
  exact⟨by rw[HR.out];rfl,hk1⟩
 ·rw[h1]at HR
  cases h2:Zdf t h k x
  ·rw[h2]at HR HCN
   clear h2
   refine Z4 (by kernel_rfl) (by kernel_rfl) ?_
   repeat(go_big_quiet_step (exact Calls.after_b (HCN.out _)))
   refine wpQuiet_nil ?_
   rintro w' ⟨z,rfl⟩
   obtain⟨w1,hk1⟩:=z
   go_wp2_with fail
   go_ret
   exact⟨by rw[HR.out];rfl,hk1⟩
  ·rw[h2]at HR HCN
   clear h2
   refine Z4 (by kernel_rfl) (by kernel_rfl) ?_
   repeat(go_big_quiet_step (first | exact Calls.after_b (HCN.out _) | exact Calls.after_b (HCH.out _)))
   refine wpQuiet_nil ?_
   rintro w' ⟨z,rfl⟩
   obtain⟨w1,hk1⟩:=z
   go_wp2_with fail
   go_ret
   exact⟨by rw[HR.out];rfl,hk1⟩
end
end Go.Proofs.YtfaecpkocgcofaaGreatDoor
