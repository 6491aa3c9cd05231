/- Lemmas for ResolveSettles, printed small: M6. -/
import Derived.Test.YtfaecpkocgcofaaGreatDoorZ33
set_option linter.all false
set_option maxRecDepth 100000
set_option maxHeartbeats 8000000
open Go.Proofs.Tryz
namespace Go.Proofs.YtfaecpkocgcofaaGreatDoor
section
open Go.RowKit
def Z1 (F:Int→ExV→Bool×Int):List ExV→Int→Bool×Int
 | [],l=>(true,l)
 | y::r,l=>if(F l y).1 then Z1 F r (F l y).2 else(false,(F l y).2)
theorem JN (F:Int→ExV→Bool×Int):∀(A B:List ExV) (l:Int),Z1 F (A++B) l=if(Z1 F A l).1 then Z1 F B (Z1 F A l).2 else(false,(Z1 F A l).2)
 | [],_,_=>rfl
 | y::A,B,l=>by
  rw[List.cons_append,Z1,Z1]
  split
  ·exact JN F A B _
  ·rfl
theorem ZcA {F:Int→ExV→Bool×Int} {D:List ExV} {l l1 l2:Int} {y:ExV} (h:Z1 F D l=(true,l1)) (hy:F l1 y=(true,l2)):Z1 F (D++ [y]) l=(true,l2):=by
 rw[JN,h]
 simp only[if_true,Z1,hy]
theorem Zef {F:Int→ExV→Bool×Int} {D R:List ExV} {l l1 l2:Int} {y:ExV} (h:Z1 F D l=(true,l1)) (hy:F l1 y=(false,l2)):Z1 F (D++y::R) l=(false,l2):=by
 rw[JN,h]
 simp only[if_true,Z1,hy]
 rfl
def asX (a:AsV):List ExV:=(a.2.1.map fun c=>c.2.2.2).flatten++ [a.2.2.2]
def Za2 (x:ExV):List ExV:=x.ls++(x.al.map asX).flatten
def Ztk (BL:Nat) (r:Bool×Int) (w:World) (e:Ending) (w':World):Prop:=e= .returned (.bool r.1)∧w'.heap[BL]? =some (.cells #[.int .i64 r.2] 3 (0,0))∧Kept [BL] w w'
theorem ZrK {x:ExV} {k:Nat} {y:ExV} (h:x.ls[k]? =some y):∃R,Za2 x=x.ls.take k++y::R:=by
 obtain⟨h1,rfl⟩:=List.getElem?_eq_some_iff.1 h
 refine⟨x.ls.drop (k+1)++(x.al.map asX).flatten,?_⟩
 rw[←List.cons_append,←List.drop_eq_getElem_cons h1,←List.append_assoc,List.take_append_drop]
 rfl
theorem Zau {α:Type} {l:List α} {k:Nat} {y:α} (h:l[k]? =some y):l.take (k+1)=l.take k++ [y]:=by
 obtain⟨h1,rfl⟩:=List.getElem?_eq_some_iff.1 h
 exact List.take_succ_eq_append_getElem h1
def ZcV (x:ExV) (k:Nat):List ExV:=x.ls++((x.al.take k).map asX).flatten
theorem Zni (x:ExV):ZcV x x.al.length=Za2 x:=by rw[ZcV,List.take_length];rfl
theorem Zfl {x:ExV} {k:Nat} {a:AsV} (h:x.al[k]? =some a):ZcV x (k+1)=ZcV x k++asX a:=by
 rw[ZcV,Zau h,List.map_append,List.flatten_append,ZcV,List.append_assoc]
 simp
theorem ZrL {x:ExV} {k:Nat} {a:AsV} (h:x.al[k]? =some a):∃R,Za2 x=ZcV x k++(asX a++R):=by
 obtain⟨h1,rfl⟩:=List.getElem?_eq_some_iff.1 h
 refine⟨((x.al.drop (k+1)).map asX).flatten,?_⟩
 rw[←List.append_assoc,←Zfl h,ZcV,List.append_assoc,←List.flatten_append,←List.map_append,List.take_append_drop]
 rfl
def ZgP (a:AsV) (j:Nat):List ExV:=((a.2.1.take j).map fun c=>c.2.2.2).flatten
theorem Zfk {a:AsV} {j:Nat} {c:ChV} (h:a.2.1[j]? =some c):ZgP a (j+1)=ZgP a j++c.2.2.2:=by
 rw[ZgP,Zau h,List.map_append,List.flatten_append,ZgP]
 simp
theorem Zl2 (a:AsV):asX a=ZgP a a.2.1.length++ [a.2.2.2]:=by rw[ZgP,List.take_length];rfl
theorem ZsO {a:AsV} {j i:Nat} {c:ChV} {y:ExV} (h:a.2.1[j]? =some c) (hy:c.2.2.2[i]? =some y):∃R,asX a=ZgP a j++(c.2.2.2.take i++y::R):=by
 obtain⟨h1,rfl⟩:=List.getElem?_eq_some_iff.1 h
 obtain⟨h2,rfl⟩:=List.getElem?_eq_some_iff.1 hy
 refine⟨(a.2.1[j]).2.2.2.drop (i+1)++(((a.2.1.drop (j+1)).map fun c=>c.2.2.2).flatten++ [a.2.2.2]),?_⟩
 rw[←List.cons_append,←List.drop_eq_getElem_cons h2]
 have e:∀(L:List ExV) (Q:List ExV),L.take i++(L.drop i++Q)=L++Q:=fun L Q=>by rw[←List.append_assoc,List.take_append_drop]
 rw[e,←List.append_assoc,←List.append_assoc,←Zfk h,ZgP,←List.flatten_append,←List.map_append,List.take_append_drop]
 rfl
theorem ZfP {X:List Nat} {w:World} {x:ExV} (h:ExD X w x):∀W,Kept X w W→Zo ExV 9 ExV.cells W x.la x.ls∧x.ls.length≤140737488355328∧ZeO W x.aa x.al:=fun W hk=>by
 obtain⟨n,hn⟩:=h
 have:=hn W hk
 cases n with
 | zero=>exact this.elim
 | succ n=>exact⟨this.1,this.2.2.2.2.1,this.2.2.1,this.2.2.2.2.2.1,fun a ha=>⟨(this.2.2.2.2.2.2.2.2 a ha).1,(this.2.2.2.2.2.2.2.2 a ha).2.1,fun c hc=>⟨((this.2.2.2.2.2.2.2.2 a ha).2.2 c hc).1,((this.2.2.2.2.2.2.2.2 a ha).2.2 c hc).2.1⟩⟩⟩
theorem ExD.mem_ch {X:List Nat} {w:World} {x y:ExV} {a:AsV} {c:ChV} (h:ExD X w x) (ha:a∈x.al) (hc:c∈a.2.1) (hy:y∈c.2.2.2):ExD X w y:=by
 obtain⟨n,h⟩:=h
 cases n with
 | zero=>exact(h w (Kept.refl _ _)).elim
 | succ n=>exact⟨n,fun w' hk=>(((h w' hk).2.2.2.2.2.2.2.2 a ha).2.2 c hc).2.2 y hy⟩
theorem ExD.sub_mem {X:List Nat} {w:World} {x y:ExV} (h:ExD X w x) (hy:y∈Za2 x):ExD X w y:=by
 rcases List.mem_append.1 hy with h1 | h1
 ·exact h.mem_ls h1
 ·obtain⟨l,hl,h2⟩:=List.mem_flatten.1 h1
  obtain⟨a,ha,rfl⟩:=List.mem_map.1 hl
  rcases List.mem_append.1 h2 with h3 | h3
  ·obtain⟨l,hl,h4⟩:=List.mem_flatten.1 h3
   obtain⟨c,hc,rfl⟩:=List.mem_map.1 hl
   exact h.mem_ch ha hc h4
  ·obtain rfl:y=a.2.2.2:=by simpa using h3
   exact h.mem_al ha
theorem Zoh (F:Int→ExV→Bool×Int) (BL:Nat) (w:World) (x:ExV) (l0:Int) (K:Nat) (caps:Array Value) (eg:∀args w,(callFunc K args).run prog w= .ok (.enter K args) w)
 (hb:w.heap[BL]? =some (.cells #[.int .i64 l0] 3 (0,0))) (hx:ExD [BL] w x) (h0:0≤l0∧l0≤256)
 (hF:∀l y,y∈Za2 x→0≤l∧l≤256→(F l y).1=true→0≤(F l y).2∧(F l y).2≤256)
 (hp:∀W y l,y∈Za2 x→Kept [BL] w W→W.heap[BL]? =some (.cells #[.int .i64 l] 3 (0,0))→0≤l∧l≤256→Calls prog K (#[.agg y.cells.toArray]++caps) W (Ztk BL (F l y) W)):
 Calls prog 131 #[.agg x.cells.toArray,.func (.func K) #[] caps] w (Ztk BL (Z1 F (Za2 x) l0) w):=by
 have HX:=hh (ZfP hx)
 have HF:=hh hF
 have HP:=hh hp
 have HB:=hh hb
 have hbl:BL < w.heap.size:=(Array.getElem?_eq_some_iff.1 hb).1
 have hl:=(ZfP hx w (Kept.refl _ _)).2.1
 have hal:=(ZfP hx w (Kept.refl _ _)).2.2.2.1
 clear hx hF hp hb
 go_enter func131,ntmps131
 go_upto_region 2 with(fail)
 refine Zm ?_
 intro w0 hw0
 have HK0:Hid (Kept [] w w0):=by rw[Hid,hw0];exact kp
 have hb0:Zc w0 w.heap.size 41 x.cells.toArray:=by rw[hw0];infer_instance
 have hs0:w.heap.size < w0.heap.size:=by rw[hw0];simp
 have HB0:Hid (w0.heap[BL]? =some (.cells #[.int .i64 l0] 3 (0,0))):=HK0.out.obj HB.out (by simp)
 clear hw0 HB
 generalize x.la=LA at*
 go_loopw [16] (fun s16 wr=>∃(k:Nat) (l:Int),s16= .int .i64 k∧k≤x.ls.length∧Z1 F (x.ls.take k) l0=(true,l)∧(0≤l∧l≤256)∧wr.heap[BL]? =some (.cells #[.int .i64 l] 3 (0,0))∧Kept [BL] w0 wr) (fun s16 _=>x.ls.length - (intOf s16).toNat)
 case atStart=>exact⟨0,l0,rfl,Nat.zero_le _,rfl,h0,HB0.out,Kept.refl _ _⟩
 case round=>
  obtain⟨k,l,rfl,hk,he,hll,hbr,hkr⟩:=hrel
  have HE:=hh he
  have HLL:=hh hll
  have HBR:=hh hbr
  have HKR:=hh hkr
  have HKW:Hid (Kept [BL] w wr):=(HK0.out.mono (by simp)).trans hkr
  haveI bx:Zc wr w.heap.size 41 x.cells.toArray:=⟨(hkr.block w.heap.size hs0 (by simp;omega)).trans hb0.has⟩
  clear he hll hbr hkr
  obtain⟨w3,rfl⟩:∃w3:World,w3=wr:=⟨_,rfl⟩
  by_cases hlt:k < x.ls.length
  ·obtain⟨y,hy⟩:∃y,x.ls[k]? =some y:=⟨_,List.getElem?_eq_getElem hlt⟩
   obtain⟨R,hR⟩:=ZrK hy
   have HYM:Hid (y∈Za2 x):=by rw[Hid,hR];simp
   have HTK:Hid (x.ls.take (k+1)=x.ls.take k++ [y]):=Zau hy
   have HNO:Hid (∀l',F l y=(false,l')→Z1 F (Za2 x) l0=(false,l')):=fun l' h=>by rw[hR];exact Zef HE.out h
   obtain⟨b,o,rfl,hcx⟩:=(HX.out w3 HKW.out).1.some_ hy
   haveI iy:Q1 w3 b (o+k*9) y:=⟨hcx k y hy⟩
   have HC:=hh (fun W (hk:Kept [] w3 W)=>HP.out W y l HYM.out (HKW.out.trans (hk.mono (by simp))) (hk.obj HBR.out (by simp)) HLL.out)
   have HFL:=hh (HF.out l y HYM.out HLL.out)
   clear hcx hy hR
   generalize hg:F l y=g at*
   obtain⟨g1,g2⟩:=g
   go_wp2_with fail
   refine(HC.out _ (Kept.alloc _ _ _)).mono ?_
   rintro e w5 ⟨rfl,hb5,hk5⟩
   have HB5:=hh hb5
   have HK5:Hid (Kept [BL] w0 w5):=HKR.out.trans ((Kept.alloc _ _ _).trans hk5)
   clear hb5 hk5 HC
   cases g1
   ·have HNO2:=hh (HNO.out g2 rfl)
    clear HNO HFL
    go_wp2_with fail
    go_ret
    rw[HNO2.out]
    exact⟨rfl,HB5.out,(HK0.out.mono (by simp)).trans HK5.out⟩
   ·have HFL2:=hh (HFL.out rfl)
    have HE2:Hid (Z1 F (x.ls.take (k+1)) l0=(true,g2)):=by rw[Hid,HTK.out];exact ZcA HE.out hg
    clear HNO HFL hg
    go_wp2_with fail
    go_roundw
    case rel=>exact⟨k+1,g2,by go_num,by omega,HE2.out,HFL2.out,HB5.out,HK5.out⟩
    case measure=>simp[intOf];omega
  ·obtain rfl:k=x.ls.length:=by omega
   have HE1:Hid (Z1 F (ZcV x 0) l0=(true,l)):=by
    have:=HE.out
    rw[List.take_length]at this
    rw[Hid,ZcV]
    simpa using this
   clear HE
   go_upto_region 8 with(fail)
   generalize x.aa=AA at*
   go_loopw [28] (fun s28 wr=>∃(k:Nat) (l:Int),s28= .int .i64 k∧k≤x.al.length∧Z1 F (ZcV x k) l0=(true,l)∧(0≤l∧l≤256)∧wr.heap[BL]? =some (.cells #[.int .i64 l] 3 (0,0))∧Kept [BL] w0 wr) (fun s28 _=>x.al.length - (intOf s28).toNat)
   case atStart=>exact⟨0,l,rfl,Nat.zero_le _,HE1.out,HLL.out,HBR.out,HKR.out⟩
   case round=>
    obtain⟨k,l,rfl,hk,he,hll,hbr,hkr⟩:=hrel
    have HE:=hh he
    have HLL:=hh hll
    have HBR:=hh hbr
    have HKR:=hh hkr
    have HKW:Hid (Kept [BL] w wr):=(HK0.out.mono (by simp)).trans hkr
    clear he hll hbr hkr bx
    obtain⟨w4,rfl⟩:∃w4:World,w4=wr:=⟨_,rfl⟩
    by_cases hlt:k < x.al.length
    ·obtain⟨a,ha⟩:∃a,x.al[k]? =some a:=⟨_,List.getElem?_eq_getElem hlt⟩
     obtain⟨R,hR⟩:=ZrL ha
     have HSN:Hid (ZcV x (k+1)=ZcV x k++asX a):=Zfl ha
     have hAI:=(HX.out w4 HKW.out).2.2
     obtain⟨b,o,rfl,hcx⟩:=hAI.1.some_ ha
     haveI ia:QH w4 b (o+k*10) a:=⟨hcx k a ha⟩
     have HCI:=hh (fun W (hk:Kept [BL] w W)=>((HX.out W hk).2.2.2.2 a (List.mem_of_getElem? ha)))
     have hca:=(HCI.out w4 HKW.out).2.1
     have HSR:=hh hR
     clear hcx ha hAI hR
     obtain⟨a1,a2,a3,ax⟩:=a
     simp only at hca
     go_upto_region 11 with(fail)
     refine Zm ?_
     intro w6 hw6
     have HK6:Hid (Kept [BL] w0 w6):=by rw[Hid,hw6];exact HKR.out.trans (Kept.alloc _ _ _)
     have hb6:Zc w6 w4.heap.size 63 (AsV.cells (a1,a2,a3,ax)).toArray:=by rw[hw6];infer_instance
     have hs6:w4.heap.size < w6.heap.size:=by rw[hw6];simp
     have hbl4:BL < w4.heap.size:=(Array.getElem?_eq_some_iff.1 HBR.out).1
     have HB6:Hid (w6.heap[BL]? =some (.cells #[.int .i64 l] 3 (0,0))):=by rw[Hid,hw6];exact Zr HBR.out hbl4
     clear hw6 ia
     go_loopw [35] (fun s35 wr=>∃(j:Nat) (l:Int),s35= .int .i64 j∧j≤a2.length∧Z1 F (ZcV x k++ZgP (a1,a2,a3,ax) j) l0=(true,l)∧(0≤l∧l≤256)∧wr.heap[BL]? =some (.cells #[.int .i64 l] 3 (0,0))∧Kept [BL] w6 wr) (fun s35 _=>a2.length - (intOf s35).toNat)
     case atStart=>exact⟨0,l,rfl,Nat.zero_le _,by simpa [ZgP]using HE.out,HLL.out,HB6.out,Kept.refl _ _⟩
     case round=>
      obtain⟨j,l,rfl,hj,he,hll,hbr,hkr⟩:=hrel
      have HE7:=hh he
      have HLL7:=hh hll
      have HBR7:=hh hbr
      have HKR7:=hh hkr
      have HKW7:Hid (Kept [BL] w wr):=(HK0.out.mono (by simp)).trans (HK6.out.trans hkr)
      haveI ba:Zc wr w4.heap.size 63 (AsV.cells (a1,a2,a3,ax)).toArray:=⟨(hkr.block _ hs6 (by simp;omega)).trans hb6.has⟩
      clear he hll hbr hkr
      obtain⟨w7,rfl⟩:∃w7:World,w7=wr:=⟨_,rfl⟩
      by_cases hlt2:j < a2.length
      ·obtain⟨c,hc⟩:∃c,a2[j]? =some c:=⟨_,List.getElem?_eq_getElem hlt2⟩
       obtain⟨b2,o2,rfl,hcy⟩:=(HCI.out w7 HKW7.out).1.some_ hc
       haveI ic:YP w7 b2 (o2+j*2) c:=⟨hcy j c hc⟩
       have HQI:=hh (fun W (hk:Kept [BL] w W)=>((HCI.out W hk).2.2 c (List.mem_of_getElem? hc)))
       have HCM:=hh hc
       have hcl:=(HQI.out w7 HKW7.out).2
       clear hcy hc
       obtain⟨c1,c2,c3,cl⟩:=c
       simp only at hcl
       go_upto_region 14 with(fail)
       refine Zm ?_
       intro w8 hw8
       have HK8:Hid (Kept [BL] w6 w8):=by rw[Hid,hw8];exact HKR7.out.trans (Kept.alloc _ _ _)
       have hb8:Zc w8 w7.heap.size 60 (ChV.cells (c1,c2,c3,cl)).toArray:=by rw[hw8];infer_instance
       have hs8:w7.heap.size < w8.heap.size:=by rw[hw8];simp
       have hbl7:BL < w7.heap.size:=(Array.getElem?_eq_some_iff.1 HBR7.out).1
       have HB8:Hid (w8.heap[BL]? =some (.cells #[.int .i64 l] 3 (0,0))):=by rw[Hid,hw8];exact Zr HBR7.out hbl7
       clear hw8 ic ba
       go_loopw [42] (fun s42 wr=>∃(i:Nat) (l:Int),s42= .int .i64 i∧i≤cl.length∧Z1 F (ZcV x k++(ZgP (some ⟨b2,o2,none⟩,a2,a3,ax) j++cl.take i)) l0=(true,l)∧(0≤l∧l≤256)∧wr.heap[BL]? =some (.cells #[.int .i64 l] 3 (0,0))∧Kept [BL] w8 wr) (fun s42 _=>cl.length - (intOf s42).toNat)
       case atStart=>exact⟨0,l,rfl,Nat.zero_le _,by simpa using HE7.out,HLL7.out,HB8.out,Kept.refl _ _⟩
       case round=>
        obtain⟨i,l,rfl,hi,he,hll,hbr,hkr⟩:=hrel
        have HE9:=hh he
        have HLL9:=hh hll
        have HBR9:=hh hbr
        have HKR9:=hh hkr
        have HKW9:Hid (Kept [BL] w wr):=(HK0.out.mono (by simp)).trans (HK6.out.trans (HK8.out.trans hkr))
        clear he hll hbr hkr
        obtain⟨w9,rfl⟩:∃w9:World,w9=wr:=⟨_,rfl⟩
        by_cases hlt3:i < cl.length
        ·obtain⟨y,hy⟩:∃y,cl[i]? =some y:=⟨_,List.getElem?_eq_getElem hlt3⟩
         obtain⟨b3,o3,rfl,hcz⟩:=(HQI.out w9 HKW9.out).1.some_ hy
         haveI iy:Q1 w9 b3 (o3+i*9) y:=⟨hcz i y hy⟩
         obtain⟨R2,hR2⟩:=ZsO (a:=(some ⟨b2,o2,none⟩,a2,a3,ax)) HCM.out hy
         have HEQ:Hid (Za2 x=(ZcV x k++(ZgP (some ⟨b2,o2,none⟩,a2,a3,ax) j++cl.take i))++y::(R2++R)):=by
          rw[Hid,HSR.out,hR2]
          simp only[List.append_assoc,List.cons_append]
         have HYM:Hid (y∈Za2 x):=by rw[Hid,HEQ.out];simp
         have HTK:Hid (cl.take (i+1)=cl.take i++ [y]):=Zau hy
         have HC:=hh (fun W (hk:Kept [] w9 W)=>HP.out W y l HYM.out (HKW9.out.trans (hk.mono (by simp))) (hk.obj HBR9.out (by simp)) HLL9.out)
         have HFL:=hh (HF.out l y HYM.out HLL9.out)
         clear hcz hy hR2
         generalize hg:F l y=g at*
         obtain⟨g1,g2⟩:=g
         go_wp2_with fail
         refine(HC.out _ (Kept.alloc _ _ _)).mono ?_
         rintro e w5 ⟨rfl,hb5,hk5⟩
         have HB5:=hh hb5
         have HK5:Hid (Kept [BL] w8 w5):=HKR9.out.trans ((Kept.alloc _ _ _).trans hk5)
         clear hb5 hk5 HC
         cases g1
         ·have HNO2:Hid (Z1 F (Za2 x) l0=(false,g2)):=by rw[Hid,HEQ.out];exact Zef HE9.out hg
          clear HFL
          go_wp2_with fail
          go_ret
          rw[HNO2.out]
          exact⟨rfl,HB5.out,(HK0.out.mono (by simp)).trans (HK6.out.trans (HK8.out.trans HK5.out))⟩
         ·have HFL2:=hh (HFL.out rfl)
          have HE2:Hid (Z1 F (ZcV x k++(ZgP (some ⟨b2,o2,none⟩,a2,a3,ax) j++cl.take (i+1))) l0=(true,g2)):=by
           rw[Hid,HTK.out,←List.append_assoc,←List.append_assoc,List.append_assoc (ZcV x k)]
           exact ZcA HE9.out hg
          clear HFL hg
          go_wp2_with fail
          go_roundw
          case rel=>exact⟨i+1,g2,by go_num,by omega,HE2.out,HFL2.out,HB5.out,HK5.out⟩
          case measure=>simp[intOf];omega
        ·obtain rfl:i=cl.length:=by omega
         have HE2:Hid (Z1 F (ZcV x k++ZgP (some ⟨b2,o2,none⟩,a2,a3,ax) (j+1)) l0=(true,l)):=by
          have:=HE9.out
          rw[List.take_length]at this
          rw[Hid,Zfk HCM.out]
          exact this
         go_wp2_with fail
         exact⟨⟨j+1,l,by go_num,by omega,HE2.out,HLL9.out,HBR9.out,HK8.out.trans HKR9.out⟩,by simp[intOf];omega⟩
      ·obtain rfl:j=a2.length:=by omega
       have HEQ:Hid (Za2 x=(ZcV x k++ZgP (a1,a2,a3,ax) a2.length)++ax::R):=by
        rw[Hid,HSR.out,Zl2]
        simp only[List.append_assoc,List.cons_append,List.nil_append]
       have HYM:Hid (ax∈Za2 x):=by rw[Hid,HEQ.out];simp
       have HC:=hh (fun W (hk:Kept [] w7 W)=>HP.out W ax l HYM.out (HKW7.out.trans (hk.mono (by simp))) (hk.obj HBR7.out (by simp)) HLL7.out)
       have HFL:=hh (HF.out l ax HYM.out HLL7.out)
       generalize hg:F l ax=g at*
       obtain⟨g1,g2⟩:=g
       go_wp2_with fail
       refine(HC.out _ (Kept.refl _ _)).mono ?_
       rintro e w5 ⟨rfl,hb5,hk5⟩
       have HB5:=hh hb5
       have HK5:Hid (Kept [BL] w6 w5):=HKR7.out.trans hk5
       clear hb5 hk5 HC
       cases g1
       ·have HNO2:Hid (Z1 F (Za2 x) l0=(false,g2)):=by rw[Hid,HEQ.out];exact Zef HE7.out hg
        clear HFL
        go_wp2_with fail
        go_ret
        rw[HNO2.out]
        exact⟨rfl,HB5.out,(HK0.out.mono (by simp)).trans (HK6.out.trans HK5.out)⟩
       ·have HFL2:=hh (HFL.out rfl)
        have HE2:Hid (Z1 F (ZcV x (k+1)) l0=(true,g2)):=by
         rw[Hid,HSN.out,Zl2,←List.append_assoc]
         exact ZcA HE7.out hg
        clear HFL hg
        go_wp2_with fail
        exact⟨⟨k+1,g2,by go_num,by omega,HE2.out,HFL2.out,HB5.out,HK6.out.trans HK5.out⟩,by simp[intOf];omega⟩
    ·obtain rfl:k=x.al.length:=by omega
     have HE2:Hid (Z1 F (Za2 x) l0=(true,l)):=by
      have:=HE.out
      rwa [Zni]at this
     go_wp2_with fail
     go_ret
     rw[HE2.out]
     exact⟨rfl,HBR.out,HKW.out⟩
end
end Go.Proofs.YtfaecpkocgcofaaGreatDoor
