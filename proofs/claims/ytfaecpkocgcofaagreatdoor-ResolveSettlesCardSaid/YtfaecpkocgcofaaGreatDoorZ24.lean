/- Lemmas for ResolveSettles, printed small: N1 X13 N2. -/
import Derived.Test.YtfaecpkocgcofaaGreatDoorZ23
set_option linter.all false
set_option maxRecDepth 100000
set_option maxHeartbeats 8000000
open Go.Proofs.Tryz
namespace Go.Proofs.YtfaecpkocgcofaaGreatDoor
section
open Go.RowKit
def Zgc (t:Tab) (h:WhV) (ty:Int) (obj:Bool) (m:MeV):Bool:=(m.t == ty || (m.t == 0 && Z9 t h ty)) && (m.obj || !obj)
def ZdC (t:Tab) (h:WhV) (ty:Int) (obj:Bool) (acc:Int×ExV) (m:MeV):Int×ExV:=if Zgc t h ty obj m then(min 2 (acc.1+m.n),m.e)else acc
def QR (t:Tab) (h:WhV) (ms:List MeV) (ty:Int) (obj:Bool):Int×ExV:=ms.foldl (ZdC t h ty obj) (0,Zg)
theorem ZoR (t:Tab) (h:WhV) (ty:Int) (obj:Bool):∀(ms:List MeV) (acc:Int×ExV),((ms.map MeV.er).foldl (ZdC t h ty obj) (acc.1,acc.2.er))=((ms.foldl (ZdC t h ty obj) acc).1,(ms.foldl (ZdC t h ty obj) acc).2.er)
 | [],_=>rfl
 | m::ms,acc=>by
  rw[List.map_cons,List.foldl_cons,List.foldl_cons]
  have e:ZdC t h ty obj (acc.1,acc.2.er) m.er=((ZdC t h ty obj acc m).1,(ZdC t h ty obj acc m).2.er):=by
   unfold ZdC
   show(if Zgc t h ty obj m then _ else _)=_
   split <;> rfl
  rw[e,ZoR t h ty obj ms]
theorem ZpE (t:Tab) (h:WhV) (ms:List MeV) (ty:Int) (obj:Bool):QR t h (ms.map MeV.er) ty obj=((QR t h ms ty obj).1,(QR t h ms ty obj).2.er):=by
 have:=ZoR t h ty obj ms (0,Zg)
 rw[YD]at this
 exact this
theorem ZjH (t:Tab) (h:WhV) (ty:Int) (obj:Bool):∀(ms:List MeV) (acc:Int×ExV),(ms.foldl (ZdC t h ty obj) acc).2=acc.2∨∃m,m∈ms∧(ms.foldl (ZdC t h ty obj) acc).2=m.e
 | [],_=> .inl rfl
 | m::ms,acc=>by
  rw[List.foldl_cons]
  rcases ZjH t h ty obj ms (ZdC t h ty obj acc m)with h1 | ⟨m',h1,h2⟩
  ·rw[h1]
   unfold ZdC
   split
   ·exact .inr ⟨m,by simp,rfl⟩
   ·exact .inl rfl
  ·exact .inr ⟨m',by simp[h1],h2⟩
theorem ZeX {t:Tab} {h:WhV} {ty:Int} {obj:Bool} {ms:List MeV} {k:Nat} {m:MeV} (hm:ms[k]? =some m):QR t h (ms.take (k+1)) ty obj=ZdC t h ty obj (QR t h (ms.take k) ty obj) m:=by
 obtain⟨hk,rfl⟩:=List.getElem?_eq_some_iff.1 hm
 unfold QR
 rw[List.take_succ_eq_append_getElem hk,List.foldl_append]
 rfl
theorem ZoS (t:Tab) (h:WhV) (ty:Int) (obj:Bool):∀(ms:List MeV) (acc:Int×ExV),(∀m,m∈ms→0≤m.n)→0≤acc.1→acc.1≤2→0≤(ms.foldl (ZdC t h ty obj) acc).1∧(ms.foldl (ZdC t h ty obj) acc).1≤2
 | [],_,_,h0,h2=>⟨h0,h2⟩
 | m::ms,acc,hm,h0,h2=>by
  rw[List.foldl_cons]
  have hmn:=hm m (by simp)
  refine ZoS t h ty obj ms _ (fun m' h'=>hm m' (by simp[h'])) ?_ ?_
  ·unfold ZdC
   split
   ·simp only;omega
   ·exact h0
  ·unfold ZdC
   split
   ·simp only;omega
   ·exact h2
theorem ZdB {t:Tab} {h:WhV} {ty:Int} {obj:Bool} {ms:List MeV} (hm:∀m,m∈ms→0≤m.n):0≤(QR t h ms ty obj).1∧(QR t h ms ty obj).1≤2:=ZoS t h ty obj ms _ hm (by decide) (by decide)
theorem ZoQ {t:Tab} {h:WhV} {ty:Int} {obj:Bool} {ms:List MeV} {k:Nat} {m:MeV} (hm:ms[k]? =some m) (hf:Zgc t h ty obj m=false):QR t h (ms.take (k+1)) ty obj=QR t h (ms.take k) ty obj:=by
 rw[ZeX hm,ZdC,hf];rfl
theorem ZjG {t:Tab} {h:WhV} {ty:Int} {obj:Bool} {ms:List MeV} {k:Nat} {m:MeV} (hm:ms[k]? =some m) (hf:Zgc t h ty obj m=true):QR t h (ms.take (k+1)) ty obj=(min 2 ((QR t h (ms.take k) ty obj).1+m.n),m.e):=by
 rw[ZeX hm,ZdC,hf];rfl
def Zjn (X:List Nat) (r:Int×ExV) (w:World) (e:Ending) (w':World):Prop:=∃z:ExV,e= .returned (.tuple #[.int .i64 r.1,.agg z.cells.toArray])∧z.er=r.2∧ExD X w' z∧Kept [] w w'
theorem ZdA (X:List Nat) (w:World) (R mr:Nat) (v:Zp) (t:Tab) (h:WhV) (d:NdV) (ty:Int) (obj:Bool) (hR:Qo w R mr v t h) (hd:NdD X w d) (ha:d.x.kind≠9∨obj=true):
 Calls prog 32 #[.pointer (some ⟨R,0,none⟩),.pointer (some ⟨d.p,0,none⟩),.int .i64 ty,.bool obj] w (Zjn X (QR t h (d.ms.map MeV.er) ty obj) w):=by
 have HI:=hh (fun w' (hk:Kept [] w w')=>Zcl w' R mr v t h ty (hR.kept hk))
 have HE:=hh (ZpE t h d.ms ty obj)
 obtain⟨n,hn⟩:=hd.here
 haveI bd:=hn.is
 have HM:=hh hn.2.2.1
 have HB:=hh hn.2.2.2.1
 have q1:=hn.2.2.2.2.1
 have HX:Hid (ExD X w (QR t h d.ms ty obj).2):=by
  rcases ZjH t h ty obj d.ms (0,Zg)with h1 | ⟨m,h1,h2⟩
  ·rw[Hid,QR,h1];exact ZaX _ _
  ·rw[Hid,QR,h2];exact hd.me h1
 have hk9:(d.x.kind == 9 && !obj)=false:=by
  rcases ha with h1 | h1
  ·simp[h1]
  ·simp[h1]
 clear hR hd hn
 cases obj
 ·have hk:(d.x.kind == 9)=false:=by
   rcases ha with h1 | h1
   ·simpa using h1
   ·cases h1
  clear ha hk9
  go_enter func32,ntmps32
  go_wp2_with fail
  refine Zm ?_
  intro w0 hw0
  haveI p_w0:Zb w0 w:=⟨by rw[hw0];exact kp⟩
  have HB0:Hid (w0.heap[w.heap.size]? =some (.cells Zg.cells.toArray 41 (0,0))):=by rw[Hid,hw0];exact Zf rfl
  have HZ0:Hid (w0.heap.size=w.heap.size+1):=by rw[Hid,hw0];simp
  clear hw0
  generalize d.ma=MA at*
  go_loopw [8,33] (fun s8 s33 wr=>∃k:Nat,s33= .int .i64 k∧k≤d.ms.length∧s8= .int .i64 (QR t h (d.ms.take k) ty false).1∧wr.heap[w.heap.size]? =some (.cells (QR t h (d.ms.take k) ty false).2.cells.toArray 41 (0,0))∧Kept [w.heap.size] w0 wr) (fun _ s33 _=>d.ms.length - (intOf s33).toNat)
  case atStart=>exact⟨0,rfl,Nat.zero_le _,rfl,HB0.out,Kept.refl _ _⟩
  case round=>
   obtain⟨k,rfl,hk,rfl,hb,hkr⟩:=hrel
   have HKR:=hh hkr
   haveI bo:Zc wr w.heap.size 41 (QR t h (d.ms.take k) ty false).2.cells.toArray:=⟨hb⟩
   have HKW:Hid (Kept [] w wr):=Kept.trans0 (a:=w) (b:=w0) kp hkr (Nat.le_refl _)
   haveI p_wr:Zb wr w:=⟨HKW.out⟩
   clear hb hkr
   obtain⟨wo,rfl⟩:∃wo:World,wo=wr:=⟨_,rfl⟩
   by_cases hlt:k < d.ms.length
   ·obtain⟨m,hm⟩:∃m,d.ms[k]? =some m:=⟨_,List.getElem?_eq_getElem hlt⟩
    obtain⟨b,o,rfl,hr⟩:=HM.out.some_ hm
    haveI ie:Zbt wo b (o+k*12) m:=⟨fun j u hu=>HKW.out.cell (hr k m hm j u hu) (by simp)⟩
    have HNO:=hh (fun hf=>ZoQ (t:=t) (h:=h) (ty:=ty) (obj:=false) hm hf)
    have HYES:=hh (fun hf=>ZjG (t:=t) (h:=h) (ty:=ty) (obj:=false) hm hf)
    have HMN:=hh (HB.out m (List.mem_of_getElem? hm)).2
    clear hr hm
    have HAB:=hh (ZdB (t:=t) (h:=h) (ty:=ty) (obj:=false) (ms:=d.ms.take k) (fun m' hm'=>(HB.out m' (List.mem_of_mem_take hm')).2.1))
    generalize QR t h (d.ms.take k) ty false=acc at*
    have HWB:Hid (Zgc t h ty false m=((m.t == ty || (m.t == 0 && Z9 t h ty)) && (m.obj || !false))):=rfl
    cases c1:(m.t == ty)
    ·cases c2:(m.t == 0)
     ·have HF:Hid (Zgc t h ty false m=false):=by rw[Hid,HWB.out,c1,c2];rfl
      clear HI
      go_wp2_with fail
      have HN:=hh (HNO.out HF.out)
      go_roundw
      case rel=>exact⟨k+1,by go_num,by omega,by rw[HN.out],by rw[HN.out];exact Zc.has,HKR.out.alloc' _⟩
      case measure=>simp[intOf];omega
     ·cases c3:Z9 t h ty
      ·have HF:Hid (Zgc t h ty false m=false):=by rw[Hid,HWB.out,c1,c2,c3];rfl
       rw[c3]at HI
       go_wp2_with fail
       refine nxt (HI.out _ kp) fun w5 p_w5=>?_;have hz_w5:=szk w w5
       go_wp2_with fail
       have HN:=hh (HNO.out HF.out)
       have HKR5:Hid (Kept [w.heap.size] w0 w5):=Kept.trans (HKR.out.alloc' _) (Zb.kept.mono (by simp))
       go_roundw
       case rel=>exact⟨k+1,by go_num,by omega,by rw[HN.out],by rw[HN.out];exact Zc.has,HKR5.out⟩
       case measure=>simp[intOf];omega
      ·rw[c3]at HI
       cases c4:m.obj
       all_goals
        have HF:Hid (Zgc t h ty false m=true):=by rw[Hid,HWB.out,c1,c2,c3,c4];rfl
        have HN:=hh (HYES.out HF.out)
        have ha1:=HAB.out.1
        have ha2:=HAB.out.2
        have hm1:=HMN.out.1
        have hm2:=HMN.out.2
        by_cases hs:acc.1+m.n < 2
        ·have HMI:Hid (min 2 (acc.1+m.n)=acc.1+m.n):=by rw[Hid];omega
         go_wp2_with fail
         refine nxt (HI.out _ kp) fun w5 p_w5=>?_;have hz_w5:=szk w w5
         have HKR5:Hid (Kept [w.heap.size] w0 w5):=Kept.trans (HKR.out.alloc' _) (Zb.kept.mono (by simp))
         go_wp2_with fail
         go_region
         go_wp2_with fail
         go_roundw
         case rel=>exact⟨k+1,by go_num,by omega,by rw[HN.out,HMI.out],by rw[HN.out];exact Zc.has,(HKR5.out.drew').trans (Kept.setRow _ _ _ (by simp))⟩
         case measure=>simp[intOf];omega
        ·have HMI:Hid (min 2 (acc.1+m.n)=2):=by rw[Hid];omega
         have hs2:2≤acc.1+m.n:=by omega
         clear hs
         go_wp2_with fail
         refine nxt (HI.out _ kp) fun w5 p_w5=>?_;have hz_w5:=szk w w5
         have HKR5:Hid (Kept [w.heap.size] w0 w5):=Kept.trans (HKR.out.alloc' _) (Zb.kept.mono (by simp))
         go_wp2_with fail
         go_region
         go_wp2_with fail
         go_roundw
         case rel=>exact⟨k+1,by go_num,by omega,by rw[HN.out,HMI.out],by rw[HN.out];exact Zc.has,(HKR5.out.drew').trans (Kept.setRow _ _ _ (by simp))⟩
         case measure=>simp[intOf];omega
    ·cases c4:m.obj
     all_goals
      have HF:Hid (Zgc t h ty false m=true):=by rw[Hid,HWB.out,c1,c4];rfl
      clear HI
      have HN:=hh (HYES.out HF.out)
      have ha1:=HAB.out.1
      have ha2:=HAB.out.2
      have hm1:=HMN.out.1
      have hm2:=HMN.out.2
      by_cases hs:acc.1+m.n < 2
      ·have HMI:Hid (min 2 (acc.1+m.n)=acc.1+m.n):=by rw[Hid];omega
       have HKR5:Hid (Kept [w.heap.size] w0 (wo.alloc (.cells m.cells.toArray 114))):=HKR.out.alloc' _
       go_wp2_with fail
       go_region
       go_wp2_with fail
       go_roundw
       case rel=>exact⟨k+1,by go_num,by omega,by rw[HN.out,HMI.out],by rw[HN.out];exact Zc.has,(HKR5.out.drew').trans (Kept.setRow _ _ _ (by simp))⟩
       case measure=>simp[intOf];omega
      ·have HMI:Hid (min 2 (acc.1+m.n)=2):=by rw[Hid];omega
       have hs2:2≤acc.1+m.n:=by omega
       clear hs
       have HKR5:Hid (Kept [w.heap.size] w0 (wo.alloc (.cells m.cells.toArray 114))):=HKR.out.alloc' _
       go_wp2_with fail
       go_region
       go_wp2_with fail
       go_roundw
       case rel=>exact⟨k+1,by go_num,by omega,by rw[HN.out,HMI.out],by rw[HN.out];exact Zc.has,(HKR5.out.drew').trans (Kept.setRow _ _ _ (by simp))⟩
       case measure=>simp[intOf];omega
   ·obtain rfl:k=d.ms.length:=by omega
    have HEK:Hid (d.ms.take d.ms.length=d.ms):=List.take_length
    rw[HEK.out]at*
    go_wp2_with fail
    go_region
    go_wp2_with fail
    refine bodyPost_ret (v:= .tuple #[.int .i64 (QR t h d.ms ty false).1,.agg (QR t h d.ms ty false).2.cells.toArray]) (Qm results32 (Zh rfl) (Z0 rfl inferInstance)) rfl ?_
    rw[HE.out]
    exact⟨_,rfl,rfl,HX.out.kept kp,kp⟩
 ·clear ha hk9
  cases hk:(d.x.kind == 9)
  all_goals
   go_enter func32,ntmps32
   go_wp2_with fail
   refine Zm ?_
   intro w0 hw0
   haveI p_w0:Zb w0 w:=⟨by rw[hw0];exact kp⟩
   have HB0:Hid (w0.heap[w.heap.size]? =some (.cells Zg.cells.toArray 41 (0,0))):=by rw[Hid,hw0];exact Zf rfl
   have HZ0:Hid (w0.heap.size=w.heap.size+1):=by rw[Hid,hw0];simp
   clear hw0
   generalize d.ma=MA at*
   go_loopw [8,33] (fun s8 s33 wr=>∃k:Nat,s33= .int .i64 k∧k≤d.ms.length∧s8= .int .i64 (QR t h (d.ms.take k) ty true).1∧wr.heap[w.heap.size]? =some (.cells (QR t h (d.ms.take k) ty true).2.cells.toArray 41 (0,0))∧Kept [w.heap.size] w0 wr) (fun _ s33 _=>d.ms.length - (intOf s33).toNat)
   case atStart=>exact⟨0,rfl,Nat.zero_le _,rfl,HB0.out,Kept.refl _ _⟩
   case round=>
    obtain⟨k,rfl,hk,rfl,hb,hkr⟩:=hrel
    have HKR:=hh hkr
    haveI bo:Zc wr w.heap.size 41 (QR t h (d.ms.take k) ty true).2.cells.toArray:=⟨hb⟩
    have HKW:Hid (Kept [] w wr):=Kept.trans0 (a:=w) (b:=w0) kp hkr (Nat.le_refl _)
    haveI p_wr:Zb wr w:=⟨HKW.out⟩
    clear hb hkr
    obtain⟨wo,rfl⟩:∃wo:World,wo=wr:=⟨_,rfl⟩
    by_cases hlt:k < d.ms.length
    ·obtain⟨m,hm⟩:∃m,d.ms[k]? =some m:=⟨_,List.getElem?_eq_getElem hlt⟩
     obtain⟨b,o,rfl,hr⟩:=HM.out.some_ hm
     haveI ie:Zbt wo b (o+k*12) m:=⟨fun j u hu=>HKW.out.cell (hr k m hm j u hu) (by simp)⟩
     have HNO:=hh (fun hf=>ZoQ (t:=t) (h:=h) (ty:=ty) (obj:=true) hm hf)
     have HYES:=hh (fun hf=>ZjG (t:=t) (h:=h) (ty:=ty) (obj:=true) hm hf)
     have HMN:=hh (HB.out m (List.mem_of_getElem? hm)).2
     clear hr hm
     have HAB:=hh (ZdB (t:=t) (h:=h) (ty:=ty) (obj:=true) (ms:=d.ms.take k) (fun m' hm'=>(HB.out m' (List.mem_of_mem_take hm')).2.1))
     generalize QR t h (d.ms.take k) ty true=acc at*
     have HWB:Hid (Zgc t h ty true m=((m.t == ty || (m.t == 0 && Z9 t h ty)) && (m.obj || !true))):=rfl
     cases c1:(m.t == ty)
     ·cases c2:(m.t == 0)
      ·have HF:Hid (Zgc t h ty true m=false):=by rw[Hid,HWB.out,c1,c2];rfl
       clear HI
       go_wp2_with fail
       have HN:=hh (HNO.out HF.out)
       go_roundw
       case rel=>exact⟨k+1,by go_num,by omega,by rw[HN.out],by rw[HN.out];exact Zc.has,HKR.out.alloc' _⟩
       case measure=>simp[intOf];omega
      ·cases c3:Z9 t h ty
       ·have HF:Hid (Zgc t h ty true m=false):=by rw[Hid,HWB.out,c1,c2,c3];rfl
        rw[c3]at HI
        go_wp2_with fail
        refine nxt (HI.out _ kp) fun w5 p_w5=>?_;have hz_w5:=szk w w5
        go_wp2_with fail
        have HN:=hh (HNO.out HF.out)
        have HKR5:Hid (Kept [w.heap.size] w0 w5):=Kept.trans (HKR.out.alloc' _) (Zb.kept.mono (by simp))
        go_roundw
        case rel=>exact⟨k+1,by go_num,by omega,by rw[HN.out],by rw[HN.out];exact Zc.has,HKR5.out⟩
        case measure=>simp[intOf];omega
       ·rw[c3]at HI
        cases c4:m.obj
        ·have HF:Hid (Zgc t h ty true m=false):=by rw[Hid,HWB.out,c1,c2,c3,c4];rfl
         go_wp2_with fail
         refine nxt (HI.out _ kp) fun w5 p_w5=>?_;have hz_w5:=szk w w5
         go_wp2_with fail
         have HN:=hh (HNO.out HF.out)
         have HKR5:Hid (Kept [w.heap.size] w0 w5):=Kept.trans (HKR.out.alloc' _) (Zb.kept.mono (by simp))
         go_roundw
         case rel=>exact⟨k+1,by go_num,by omega,by rw[HN.out],by rw[HN.out];exact Zc.has,HKR5.out⟩
         case measure=>simp[intOf];omega
        ·have HF:Hid (Zgc t h ty true m=true):=by rw[Hid,HWB.out,c1,c2,c3,c4];rfl
         have HN:=hh (HYES.out HF.out)
         have ha1:=HAB.out.1
         have ha2:=HAB.out.2
         have hm1:=HMN.out.1
         have hm2:=HMN.out.2
         by_cases hs:acc.1+m.n < 2
         ·have HMI:Hid (min 2 (acc.1+m.n)=acc.1+m.n):=by rw[Hid];omega
          go_wp2_with fail
          refine nxt (HI.out _ kp) fun w5 p_w5=>?_;have hz_w5:=szk w w5
          have HKR5:Hid (Kept [w.heap.size] w0 w5):=Kept.trans (HKR.out.alloc' _) (Zb.kept.mono (by simp))
          go_wp2_with fail
          go_region
          go_wp2_with fail
          go_roundw
          case rel=>exact⟨k+1,by go_num,by omega,by rw[HN.out,HMI.out],by rw[HN.out];exact Zc.has,(HKR5.out.drew').trans (Kept.setRow _ _ _ (by simp))⟩
          case measure=>simp[intOf];omega
         ·have HMI:Hid (min 2 (acc.1+m.n)=2):=by rw[Hid];omega
          have hs2:2≤acc.1+m.n:=by omega
          clear hs
          go_wp2_with fail
          refine nxt (HI.out _ kp) fun w5 p_w5=>?_;have hz_w5:=szk w w5
          have HKR5:Hid (Kept [w.heap.size] w0 w5):=Kept.trans (HKR.out.alloc' _) (Zb.kept.mono (by simp))
          go_wp2_with fail
          go_region
          go_wp2_with fail
          go_roundw
          case rel=>exact⟨k+1,by go_num,by omega,by rw[HN.out,HMI.out],by rw[HN.out];exact Zc.has,(HKR5.out.drew').trans (Kept.setRow _ _ _ (by simp))⟩
          case measure=>simp[intOf];omega
     ·cases c4:m.obj
      ·have HF:Hid (Zgc t h ty true m=false):=by rw[Hid,HWB.out,c1,c4];rfl
       clear HI
       go_wp2_with fail
       have HN:=hh (HNO.out HF.out)
       go_roundw
       case rel=>exact⟨k+1,by go_num,by omega,by rw[HN.out],by rw[HN.out];exact Zc.has,HKR.out.alloc' _⟩
       case measure=>simp[intOf];omega
      ·have HF:Hid (Zgc t h ty true m=true):=by rw[Hid,HWB.out,c1,c4];rfl
       clear HI
       have HN:=hh (HYES.out HF.out)
       have ha1:=HAB.out.1
       have ha2:=HAB.out.2
       have hm1:=HMN.out.1
       have hm2:=HMN.out.2
       by_cases hs:acc.1+m.n < 2
       ·have HMI:Hid (min 2 (acc.1+m.n)=acc.1+m.n):=by rw[Hid];omega
        have HKR5:Hid (Kept [w.heap.size] w0 (wo.alloc (.cells m.cells.toArray 114))):=HKR.out.alloc' _
        go_wp2_with fail
        go_region
        go_wp2_with fail
        go_roundw
        case rel=>exact⟨k+1,by go_num,by omega,by rw[HN.out,HMI.out],by rw[HN.out];exact Zc.has,(HKR5.out.drew').trans (Kept.setRow _ _ _ (by simp))⟩
        case measure=>simp[intOf];omega
       ·have HMI:Hid (min 2 (acc.1+m.n)=2):=by rw[Hid];omega
        have hs2:2≤acc.1+m.n:=by omega
        clear hs
        have HKR5:Hid (Kept [w.heap.size] w0 (wo.alloc (.cells m.cells.toArray 114))):=HKR.out.alloc' _
        go_wp2_with fail
        go_region
        go_wp2_with fail
        go_roundw
        case rel=>exact⟨k+1,by go_num,by omega,by rw[HN.out,HMI.out],by rw[HN.out];exact Zc.has,(HKR5.out.drew').trans (Kept.setRow _ _ _ (by simp))⟩
        case measure=>simp[intOf];omega
    ·obtain rfl:k=d.ms.length:=by omega
     have HEK:Hid (d.ms.take d.ms.length=d.ms):=List.take_length
     rw[HEK.out]at*
     go_wp2_with fail
     go_region
     go_wp2_with fail
     refine bodyPost_ret (v:= .tuple #[.int .i64 (QR t h d.ms ty true).1,.agg (QR t h d.ms ty true).2.cells.toArray]) (Qm results32 (Zh rfl) (Z0 rfl inferInstance)) rfl ?_
     rw[HE.out]
     exact⟨_,rfl,rfl,HX.out.kept kp,kp⟩
def flX (l:List ExV):List Value:=(l.map ExV.cells).flatten
theorem Zhe (l:List ExV):(flX l).length=l.length*9:=by
 induction l with
 | nil=>rfl
 | cons a l ih=>
  have e:flX (a::l)=a.cells++flX l:=by simp[flX]
  rw[e,List.length_append,ih,List.length_cons,ExV.len]
  omega
theorem Zbe (l k:List ExV):flX (l++k)=flX l++flX k:=by simp[flX]
theorem Qg (x:ExV):∀v,v∈x.cells→v.oneCell'=true:=fun v hv=>by
 have:=x.one
 simp only[List.all_toArray]at this
 exact List.all_eq_true.1 this v hv
theorem Zhk {w:World} {B:Nat} {x:ExV} (h:w.heap[B]? =some (.cells x.cells.toArray 41 (0,0))):∀j v,x.cells[j]? =some v→w.cell? ((⟨B,0,none⟩:Addr).add j)=some v:=fun j v hj=>by
 rw[Addr.add_mid,Nat.zero_add,cell_of_row _ _ _ _ _ _ h]
 simpa using hj
def Jy (w:World) (base:Nat) (v:Value) (l:List ExV):Prop:=w.ownsRow base 41 9 v l.length (flX l)
theorem Jy.nil (w:World) (base:Nat):Jy w base (.slice none 0 0) []:=World.ownsRow_nil _ _ _ _
theorem Jy.rows {w:World} {base:Nat} {v:Value} {l:List ExV} (h:Jy w base v l):∃A c,v= .slice A l.length c∧l.length≤c∧c≤9223372036854775807∧(A=none→c=0)∧Zo ExV 9 ExV.cells w A l:=YF h (fun m=>m.len) rfl
theorem Jy.keep {w w':World} {base:Nat} {v:Value} {l:List ExV} {X:List Nat} (h:Jy w base v l) (hk:Kept X w w') (hx:∀k,v.ownBlock=some k→k∉X):Jy w' base v l:=Zk h hk hx
theorem Jy.base' {w:World} {base base':Nat} {v:Value} {l:List ExV} (h:Jy w base v l) (hb:base'≤base):Jy w base' v l:=Z7 h hb
def Zf9 (X:List Nat) (w:World) (A:Option Addr) (ls:List ExV):Prop:=St X w (fun w'=>Zo ExV 9 ExV.cells w' A ls)
theorem Zf9.kept {X:List Nat} {w w':World} {A:Option Addr} {ls:List ExV} (h:Zf9 X w A ls) (hk:Kept [] w w'):Zf9 X w' A ls:=St.kept h hk
theorem Jy.rowsX {X:List Nat} {w:World} {base:Nat} {v:Value} {l:List ExV} (h:Jy w base v l) (hX:∀q,q∈X→q < base):∃A c,v= .slice A l.length c∧Zf9 X w A l:=by
 obtain⟨A,c,rfl,_,_,_,_⟩:=h.rows
 refine⟨A,c,rfl,fun w' hk=>?_⟩
 obtain⟨A',c',e,_,_,_,hr⟩:=(h.keep hk (fun k hk2 hm=>by have:=hX k hm;have:=(h.lt k hk2).1;omega)).rows
 cases e
 exact hr
theorem Zhl {X:List Nat} {w:World}:∀{ls:List ExV},(∀y,y∈ls→ExD X w y)→∃n,∀y,y∈ls→ExK X w n y
 | [],_=>⟨0,fun y hy=>by simp at hy⟩
 | x::ls,h=>by
  obtain⟨n,hn⟩:=Zhl (ls:=ls) (fun y hy=>h y (List.mem_cons_of_mem _ hy))
  obtain⟨m,hm⟩:=h x (by simp)
  refine⟨n+m,fun y hy w' hk=>?_⟩
  rcases List.mem_cons.1 hy with rfl | hy
  ·exact(hm w' hk).mono (by omega)
  ·exact(hn y hy w' hk).mono (by omega)
def ExV.setL (x:ExV) (A:Option Addr) (c:Nat) (ls:List ExV):ExV:= .mk x.kind x.oper x.n x.s A c ls x.aa x.ac x.al x.line x.ent x.t
def ExV.setA (x:ExV) (A:Option Addr) (c:Nat) (al:List AsV):ExV:= .mk x.kind x.oper x.n x.s x.la x.lc x.ls A c al x.line x.ent x.t
def ZfB (x:ExV) (t:Int) (ls:List ExV):ExV:= .mk x.kind x.oper x.n x.s none 0 ls none 0 x.al x.line (-1) t
theorem ExD.setL {X:List Nat} {w:World} {x:ExV} {A:Option Addr} {ls:List ExV} (c:Nat) (h:ExD X w x) (hr:Zf9 X w A ls) (hl:ls.length≤140737488355328) (hd:∀y,y∈ls→ExD X w y):ExD X w (x.setL A c ls):=by
 obtain⟨n,hn⟩:=h
 obtain⟨m,hm⟩:=Zhl hd
 refine⟨n+m+1,fun w' hk=>?_⟩
 have h1:=(hn w' hk).mono (show n≤n+m+1 by omega)
 exact⟨hr w' hk,fun y hy=>(hm y hy w' hk).mono (by omega),h1.2.2.1,h1.2.2.2.1,hl,h1.2.2.2.2.2⟩
theorem ExV.er_setL (x:ExV) (A:Option Addr) (c:Nat) (ls:List ExV):(x.setL A c ls).er=x.er.setL none 0 (ls.map ExV.er):=by cases x;simp only[setL,er_mk];rfl
theorem ExV.er_setA (x:ExV) (A:Option Addr) (c:Nat) (al:List AsV):(x.setA A c al).er=x.er.setA none 0 (al.map AsV.er):=by cases x;simp only[setA,er_mk];rfl
theorem ZnC (x:ExV) (t:Int) (A:Option Addr) (c:Nat) (ls:List ExV):(((x.setL A c ls).setEnt (-1)).setT t).er=ZfB x.er t (ls.map ExV.er):=by
 rw[ExV.er_setT,ExV.er_setEnt,ExV.er_setL]
 cases x
 simp only[ExV.er_mk]
 rfl
theorem Zkl {X:List Nat} {w:World} {B:Nat} {x:ExV} (h:w.heap[B]? =some (.cells x.cells.toArray 41 (0,0))) (hB:B∉X):Zf9 X w (some ⟨B,0,none⟩) [x]:=fun w' hk=> .inr ⟨B,0,rfl,fun j r hj i u hu=>by
 match j,hj with
 | 0,hj=>
  obtain rfl:x=r:=by simpa using hj
  have:=hk.obj h hB
  rw[cell_of_row _ _ _ _ _ _ this]
  simpa using hu⟩
def Zer (v:Value):Sem Next:=do return .value (←Instr.buildSlice 38 1 #[(0,v)])
@[go_sem ↓] theorem Zln (ρ:Operand→Value) (dst:Option Tmp) (x:Operand) (ty:TypeId) (pos:String) (after:Array Edge) (guard:Option (Nat×Bool)):
 execOp ρ {dst,op:= .buildSlice 38 1 #[(0,x)],type:=ty,pos,after,guard}=Zer (ρ x):=by simp[execOp,Zer]
@[go_sem] theorem ZoZ (w:World) (m:ExV):Sem.run prog (Zer (.agg m.cells.toArray)) w= .ok (.value (.slice (some ⟨w.heap.size,0,none⟩) 1 1)) (w.alloc (.cells m.cells.toArray 41)):=by kernel_rfl
def Zes (v:Value):Sem Next:=do return .value (←Instr.buildSlice 39 1 #[(0,v)])
@[go_sem ↓] theorem Zlo (ρ:Operand→Value) (dst:Option Tmp) (x:Operand) (ty:TypeId) (pos:String) (after:Array Edge) (guard:Option (Nat×Bool)):
 execOp ρ {dst,op:= .buildSlice 39 1 #[(0,x)],type:=ty,pos,after,guard}=Zes (ρ x):=by simp[execOp,Zes]
@[go_sem] theorem Zo0 (w:World) (m:AsV):Sem.run prog (Zes (.agg (AsV.cells m).toArray)) w= .ok (.value (.slice (some ⟨w.heap.size,0,none⟩) 1 1)) (w.alloc (.cells (AsV.cells m).toArray 63)):=by kernel_rfl
def ZeA (v:Value):Sem Next:=do return .value (←Instr.build 63 #[(1,v)])
@[go_sem ↓] theorem Zlw (ρ:Operand→Value) (dst:Option Tmp) (x:Operand) (ty:TypeId) (pos:String) (after:Array Edge) (guard:Option (Nat×Bool)):
 execOp ρ {dst,op:= .build 63 #[(1,x)],type:=ty,pos,after,guard}=ZeA (ρ x):=by simp[execOp,ZeA]
@[go_sem] theorem Zo8 (w:World) (x:ExV):Sem.run prog (ZeA (.agg x.cells.toArray)) w= .ok (.value (.agg (AsV.cells (none,[],0,x)).toArray)) w:=by kernel_rfl
theorem Zh1 (X:List Nat) (w:World) (x:ExV) (t:Int) (A:Option Addr) (c:Nat) (ls:List ExV) (hx:ExD X w x) (hr:Zf9 X w A ls) (hl:ls.length≤140737488355328) (hd:∀y,y∈ls→ExD X w y):
 Calls prog 102 #[.agg x.cells.toArray,.int .i64 t,.slice A ls.length c] w (Zjo X (ZfB x.er t (ls.map ExV.er)) w):=by
 have HX:=hh (hx.setL c hr hl hd)
 have HS:∀i k:Int,((x.cells.set 4 (.slice A ls.length c)).set 7 (.int .i64 i)).set 8 (.int .i64 k)=(((x.setL A c ls).setEnt i).setT k).cells:=fun i k=>rfl
 clear hx hr hd
 go_enter func102,ntmps102
 go_wp2_with fail
 exact Zdu (z:=((x.setL A c ls).setEnt (-1)).setT t) rfl (Zj results102 (Z0 rfl inferInstance)) (ZnC x t A c ls) (((HX.out.kept kp).setEnt _).setT _) kp
def Za1 (mss:List (List MeV)):List Int:=mss.flatten.map MeV.t
def QL (mss:List (List MeV)):List Int:=Lib.compact (QI (Za1 mss))
theorem ZjU {mss:List (List MeV)} {k:Nat} {ms:List MeV} (h:mss[k]? =some ms):Za1 (mss.take (k+1))=Za1 (mss.take k)++ms.map MeV.t:=by
 obtain⟨hk,rfl⟩:=List.getElem?_eq_some_iff.1 h
 unfold Za1
 rw[List.take_succ_eq_append_getElem hk,List.flatten_append,List.map_append]
 simp
theorem ZhE (mss:List (List MeV)) (B:Nat) (h:∀ms,ms∈mss→ms.length≤B):(Za1 mss).length≤mss.length*B:=by
 induction mss with
 | nil=>simp[Za1]
 | cons a l ih=>
  have h1:=ih (fun ms hm=>h ms (by simp[hm]))
  have h2:=h a (by simp)
  have e:Za1 (a::l)=a.map MeV.t++Za1 l:=by simp[Za1]
  rw[e,List.length_append,List.length_map,List.length_cons,Nat.succ_mul]
  omega
theorem ZjV (w:World) (A:Option Addr) (c:Nat) (ds:List NdV) (hp:Ji w A (ds.map NdV.p)) (hd:∀d,d∈ds→NdD [] w d) (hl:ds.length≤500):
 Calls prog 41 #[.slice A ds.length c] w (Zmk (QL (ds.map NdV.ms)) w):=by
 have HP:=hh hp
 have HD:=hh hd
 have HV:Hid (QL (ds.map NdV.ms)=Lib.compact (QI (Za1 (ds.map NdV.ms)))):=rfl
 have HLN:Hid (∀k,(Za1 ((ds.map NdV.ms).take k)).length≤500000000):=fun k=>by
  have h1:=ZhE ((ds.map NdV.ms).take k) 1000000 (fun ms hm=>by
   obtain⟨d,hd1,rfl⟩:=List.mem_map.1 (List.mem_of_mem_take hm)
   obtain⟨n,hn⟩:=(hd d hd1).here
   exact hn.2.2.2.2.1)
  rw[List.length_take,List.length_map]at h1
  have h2:min k ds.length*1000000≤500*1000000:=Nat.mul_le_mul (by omega) (Nat.le_refl _)
  omega
 have HSC:=hh ZmV
 have HCC:=hh Zii
 obtain⟨i0,hi,hz0,hz1,hz2⟩:=info_parts ZaJ
 clear hp hd
 go_enter func41,ntmps41
 go_wp2_with fail
 go_loopw [2,9] (fun s2 s9 wr=>∃k:Nat,s9= .int .i64 k∧k≤ds.length∧wr.ownsRow w.heap.size 3 1 s2 (Za1 ((ds.map NdV.ms).take k)).length ((Za1 ((ds.map NdV.ms).take k)).map (Value.int .i64))∧Kept [] w wr) (fun _ s9 _=>ds.length - (intOf s9).toNat)
 case atStart=>exact⟨0,rfl,Nat.zero_le _,World.ownsRow_nil _ _ _ _,Kept.refl _ _⟩
 case round=>
  obtain⟨k,rfl,hk,ho,hkr⟩:=hrel
  have hln:=HLN.out k
  obtain⟨A2,c2,rfl⟩:=Zq ho
  have HO:=hh ho
  have HKR:=hh hkr
  haveI p_wr:Zb wr w:=⟨hkr⟩
  clear ho hkr
  obtain⟨w1,rfl⟩:∃w1:World,w1=wr:=⟨_,rfl⟩
  by_cases hlt:k < ds.length
  ·obtain⟨d,hd⟩:∃d,ds[k]? =some d:=⟨_,List.getElem?_eq_getElem hlt⟩
   have HS:Hid (Za1 ((ds.map NdV.ms).take (k+1))=Za1 ((ds.map NdV.ms).take k)++d.ms.map MeV.t):=ZjU (by rw[List.getElem?_map,hd];rfl)
   have hdm:=(HD.out d (List.mem_of_getElem? hd)).kept HKR.out
   rcases HP.out with h0 | ⟨b,o,rfl,hc⟩
   ·have:=congrArg List.length h0
    simp at this
    rw[this]at hlt
    simp at hlt
   have qp:=HKR.out.cell (hc k d.p (by rw[List.getElem?_map,hd];rfl)) (by simp)
   obtain⟨n,hn⟩:=hdm.here
   haveI bd:=hn.is
   have HMR:Hid (∀w',Kept [] w w'→Zo MeV 12 MeV.cells w' d.ma d.ms):=fun w' hk=>by
    obtain⟨n,hn⟩:=((HD.out d (List.mem_of_getElem? hd)).kept hk).here
    exact hn.2.2.1
   have q1:=hn.2.2.2.2.1
   clear hc hd hdm hn
   generalize Za1 ((ds.map NdV.ms).take k)=acc at*
   go_wp2_with fail
   generalize d.ma=MA at*
   go_loopw [2,18] (fun s2 s18 wr=>∃j:Nat,s18= .int .i64 j∧j≤d.ms.length∧wr.ownsRow w.heap.size 3 1 s2 (acc++(d.ms.take j).map MeV.t).length ((acc++(d.ms.take j).map MeV.t).map (Value.int .i64))∧Kept [] w wr) (fun _ s18 _=>d.ms.length - (intOf s18).toNat)
   case atStart=>exact⟨0,rfl,Nat.zero_le _,by simpa using HO.out,HKR.out⟩
   case round=>
    obtain⟨j,rfl,hj,ho,hkr⟩:=hrel
    obtain⟨A3,c3,rfl⟩:=Zq ho
    have HO3:=hh ho
    have HKR3:=hh hkr
    haveI p_wr:Zb wr w:=⟨hkr⟩
    clear ho hkr
    obtain⟨w2,rfl⟩:∃w2:World,w2=wr:=⟨_,rfl⟩
    have hln3:(acc++(d.ms.take j).map MeV.t).length≤600000000:=by
     rw[List.length_append,List.length_map,List.length_take];omega
    by_cases hlt2:j < d.ms.length
    ·obtain⟨m,hm⟩:∃m,d.ms[j]? =some m:=⟨_,List.getElem?_eq_getElem hlt2⟩
     have HSJ:Hid (acc++(d.ms.take (j+1)).map MeV.t=(acc++(d.ms.take j).map MeV.t)++ [m.t]):=by
      obtain⟨h1,rfl⟩:=List.getElem?_eq_some_iff.1 hm
      rw[Hid,List.take_succ_eq_append_getElem h1,List.map_append,List.append_assoc]
      rfl
     obtain⟨b2,o2,rfl,hr⟩:=(HMR.out w2 HKR3.out).some_ hm
     haveI ie:Zbt w2 b2 (o2+j*12) m:=⟨hr j m hm⟩
     clear hr hm
     generalize acc++(d.ms.take j).map MeV.t=zs at*
     have hA:zs.length+1≤maxLen:=by unfold maxLen;omega
     have hB:(zs.length+1)*8≤140737488355328:=by omega
     have hC:w.heap.size≤((w2.alloc (.cells m.cells.toArray 114)).alloc (.cells #[.int .i64 m.t] 3)).heap.size:=by have:=HKR3.out.size;simp;omega
     have hcell:∀j u,[Value.int .i64 m.t][j]? =some u→((w2.alloc (.cells m.cells.toArray 114)).alloc (.cells #[.int .i64 m.t] 3)).cell? ((⟨w2.heap.size+1,0,none⟩:Addr).add j)=some u:=by
      have:=cell_one_new (w2.alloc (.cells m.cells.toArray 114)) (.int .i64 m.t) 3
      rw[show(w2.alloc (.cells m.cells.toArray 114)).heap.size=w2.heap.size+1 by simp]at this
      exact this
     go_wp2_with (at_builtin;refine wpList_append_own _ rfl _ _ 31 rfl w.heap.size 3 i0 (.int .i64 0) 1 8 underlying31 hi hz0 hz1 hz2 rfl (by decide) (.slice A3 zs.length c3) zs.length (zs.map (Value.int .i64)) rfl ((HO3.out.alloc _).alloc _) ⟨w2.heap.size+1,0,none⟩ 1 1 [.int .i64 m.t] rfl rfl hcell (ZgT _ _) hA hB hC ?_;intro vb wb hob hgb _;obtain⟨AB,CB,rfl⟩:=Zq hob;have HOB:=hh hob;have HKB:Hid (Kept [] w wb):=Kept.grown (a:=w) (b:=(w2.alloc (.cells m.cells.toArray 114)).alloc (.cells #[.int .i64 m.t] 3)) kp hgb (fun q hq=>ZaD HO3.out q hq);clear hob hgb)
     go_roundw
     case rel=>exact⟨j+1,by go_num,by omega,by rw[HSJ.out];have:=HOB.out;simpa using this,HKB.out⟩
     case measure=>simp[intOf];omega
    ·obtain rfl:j=d.ms.length:=by omega
     have HO4:Hid (w2.ownsRow w.heap.size 3 1 (.slice A3 (acc++(d.ms.take d.ms.length).map MeV.t).length c3) (Za1 ((ds.map NdV.ms).take (k+1))).length ((Za1 ((ds.map NdV.ms).take (k+1))).map (Value.int .i64))):=by
      have:=HO3.out
      rw[List.take_length]at this
      rw[Hid,HS.out,List.take_length]
      exact this
     go_wp2_with fail
     go_roundw
     case rel=>exact⟨k+1,by go_num,by omega,HO4.out,HKR3.out⟩
     case measure=>simp[intOf];omega
  ·obtain rfl:k=ds.length:=by omega
   have HE:Hid ((ds.map NdV.ms).take ds.length=ds.map NdV.ms):=by rw[Hid,List.take_of_length_le (by simp)]
   have HO':=HO.out
   rw[HE.out]at HO' hln⊢
   clear HO HE HLN HD HP
   generalize Za1 (ds.map NdV.ms)=l at*
   have HO:=hh HO'
   clear HO'
   go_wp2_with fail
   have hs1:l.length < 4611686018427387904:=by omega
   have HC1:=hh (HSC.out w1 w.heap.size (.slice A2 l.length c2) l HO.out hs1)
   refine HC1.out.mono ?_
   rintro e w5 ⟨rfl,ho5,hg5⟩
   have HO5:=hh ho5
   have HK5:Hid (Kept [] w w5):=Kept.grown (a:=w) (b:=w1) kp hg5 (fun q hq=>(HO.out.lt q hq).1)
   clear ho5 hg5
   have HSL:Hid ((QI l).length=l.length):=by simp[Hid,QI]
   go_wp2_with fail
   have HO5':w5.ownsRow w.heap.size 3 1 (.slice A2 l.length c2) (QI l).length ((QI l).map (Value.int .i64)):=HO5.out
   have hs2:(QI l).length≤1000000000:=by rw[HSL.out];omega
   have HC2:=hh (HCC.out w5 w.heap.size (.slice A2 l.length c2) (QI l) HO5' hs2)
   refine HC2.out.mono ?_
   rintro e w6 ⟨v',rfl,ho6,hg6,_⟩
   have HO6:=hh ho6
   have HK6:Hid (Kept [] w w6):=HK5.out.grown hg6 (fun q hq=>(HO.out.lt q hq).1)
   clear ho6 hg6
   go_wp2_with fail
   go_ret
   rw[HV.out]
   exact⟨_,rfl,HO6.out,HK6.out⟩
end
end Go.Proofs.YtfaecpkocgcofaaGreatDoor
