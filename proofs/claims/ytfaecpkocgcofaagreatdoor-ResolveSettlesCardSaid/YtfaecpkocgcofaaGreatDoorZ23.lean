/- Lemmas for ResolveSettles, printed small: Sh0 X11 X12 N0. -/
import Derived.Test.YtfaecpkocgcofaaGreatDoorZ21
import Derived.Test.YtfaecpkocgcofaaGreatDoorZ22
import Derived.Lib.SlicesCompact
import Derived.Test.YtfaecpkocgcofaaGreatDoorZ16
set_option linter.all false
set_option maxRecDepth 100000
set_option maxHeartbeats 8000000
open Go.Proofs.Tryz
namespace Go.Proofs.YtfaecpkocgcofaaGreatDoor
section
open Go.RowKit Go.Lib Go.Sort Go.Proofs
def ZoO:Prop:=∀(w:World) (base:Nat) (v:Value) (zs:List Int),w.ownsRow base 3 1 v zs.length (zs.map (Value.int .i64))→zs.length≤1000000000→
 Calls prog 85 #[v] w fun e w'=>∃v',e= .returned v'∧w'.ownsRow base 3 1 v' (Lib.compact zs).length ((Lib.compact zs).map (Value.int .i64))∧w.grownBy w' v.ownBlock∧v'.ownBlock=v.ownBlock
theorem ZmV:ZsR:=by
 intro w base v zs h hs
 have hl:(QI zs).length=zs.length:=by simp[QI]
 by_cases hv:v= .slice none 0 0
 ·have hz:zs= []:=by
   rcases h.2 with⟨_,hn⟩ | ⟨g,cap,cur,rfl,_⟩
   ·exact List.eq_nil_of_length_eq_zero hn
   ·cases hv
  subst hv hz
  refine(Tryz.slices_Sort_int_none none 0 w).mono ?_
  rintro e w' ⟨rfl,rfl⟩
  exact⟨rfl,by simpa [QI]using World.ownsRow_nil _ base 3 1,World.grownBy.refl _ _⟩
 ·obtain⟨g,cap,rfl,hb,hg,hn,hm,_,hH⟩:=holds_of_ownsRow h hv
  refine(Tryz.slices_Sort_int g 0 cap zs w hH hg hs).mono ?_
  rintro e w' ⟨rfl,q,os,rfl⟩
  refine⟨rfl,?_,ZfJ (Zaa w g q _) os⟩
  have h1:=ownsRow_putRow (q:=q) (k:=zs.length) (ys:=QI zs) h hl (Nat.le_refl _)
  rw[List.take_of_length_le (by omega)]at h1
  rw[hl]
  exact Go.Proofs.YtfaecpkocgcofaaGreatDoor.ownsRow_grow h1 os
theorem Zii:ZoO:=by
 intro w base v zs h hs
 by_cases hv:v= .slice none 0 0
 ·have hz:zs= []:=by
   rcases h.2 with⟨_,hn⟩ | ⟨g,cap,cur,rfl,_⟩
   ·exact List.eq_nil_of_length_eq_zero hn
   ·cases hv
  subst hv hz
  refine(Tryz.slices_Compact_int_empty none 0 w).mono ?_
  rintro e w' ⟨rfl,rfl⟩
  exact⟨_,rfl,World.ownsRow_nil _ base 3 1,World.grownBy.refl _ _,rfl⟩
 ·obtain⟨g,cap,rfl,hb,hg,hn,hm,_,hH⟩:=holds_of_ownsRow h hv
  refine(Tryz.slices_Compact_int g 0 cap zs w hH (by omega) hn).mono ?_
  rintro e w' ⟨rfl,q,rfl⟩
  have hcl:=Lib.compact_length_le zs
  refine⟨_,rfl,?_,Zaa w g q _,rfl⟩
  have h1:=ownsRow_putRow (q:=q) (k:=(Lib.compact zs).length) (ys:=Lib.compact zs++List.replicate (zs.length - (Lib.compact zs).length) 0) h (by simp;omega) hcl
  rw[List.take_append_of_le_length (Nat.le_refl _),List.take_length]at h1
  exact h1
end
section
open Go.RowKit
theorem ZgR {w:World} {base e n:Nat} {v:Value} {xs:List Value} {g k:Nat} (h:w.ownsRow base e 1 v n xs) (hg:v.ownBlock=some g) (hk:k < n) (u:Value):(w.setCell ⟨g,k,none⟩ u).ownsRow base e 1 v n (xs.set k u):=by
 rcases h.2 with⟨rfl,_⟩ | ⟨g',cap,cur,rfl,hb,hh,hnc,hcm,hcs,htk⟩
 ·cases hg
 obtain rfl:g'=g:=by simpa [Value.ownBlock]using hg
 refine⟨by rw[List.length_set];exact h.1,.inr ⟨g',cap,cur.setIfInBounds k u,rfl,hb,heap_setCell_same _ _ _ _ _ _ hh,hnc,hcm,by simpa using hcs,?_⟩⟩
 rw[Array.toList_setIfInBounds,←htk,List.take_set]
theorem Ym {w:World} {base e n:Nat} {v:Value} {xs:List Value} {g k:Nat} {u:Value} (h:w.ownsRow base e 1 v n xs) (hg:v.ownBlock=some g) (hu:xs[k]? =some u):w.cell? ⟨g,k,none⟩=some u∧w.frozen? ⟨g,k,none⟩=false:=by
 refine⟨by have:=h.cells hg k u hu;rwa [Addr.add_mid,Nat.zero_add]at this,?_⟩
 rcases h.2 with⟨rfl,_⟩ | ⟨g',cap,cur,rfl,hb,hh,_⟩
 ·cases hg
 obtain rfl:g'=g:=by simpa [Value.ownBlock]using hg
 exact frozen_of_row _ _ _ _ _ hh
theorem Kept.setOwn {w w':World} {base e n:Nat} {v:Value} {xs:List Value} {g:Nat} (hk:Kept [] w w') (h:w'.ownsRow base e 1 v n xs) (hg:v.ownBlock=some g) (hb:w.heap.size≤base) (k:Nat) (u:Value):Kept [] w (w'.setCell ⟨g,k,none⟩ u):=
 hk.set' _ _ (Nat.le_trans hb (h.lt g hg).1)
def Zam (t:Tab) (h:WhV) (e:ExV):List Int:=if e.kind=3 then Yk t h e.s else []
def Q7 (t:Tab) (h:WhV) (e:ExV):List Int:=Lib.compact (QI ((Zam t h e).map (Yt t)))
theorem Zcu {t:Tab} (hs:t.ents.length≤5000) (h:WhV) (s:ByteArray):(Yk t h s).length≤1000000000:=by
 have h1:(Zhx t s h.after).length≤5000:=Nat.le_trans (ZeI _ _ _ _) hs
 have h2:(Y0 t h.region).length≤5000:=Nat.le_trans (ZhO _ _) hs
 have h3:=Zei (t:=t) (h:=h) (all:=Zhx t s h.after) (Y0 t h.region) []
 have h4:=ZeY t h (Zhx t s h.after) (Qt t h (Zhx t s h.after) (Y0 t h.region))
 have h5:(Y0 t h.region).length*(Zhx t s h.after).length≤5000*5000:=Nat.mul_le_mul h2 h1
 have h6:(Yk t h s).length=(Qt t h (Zhx t s h.after) (Y0 t h.region)).length+(ZcQ t h (Zhx t s h.after) (Qt t h (Zhx t s h.after) (Y0 t h.region))).length:=by
  simp[Yk,Zi6,QI]
 unfold Qt at h4 h6
 simp only[List.length_nil,Nat.zero_add]at h3
 unfold Qt at*
 omega
theorem ZcC (l:List Int):(Lib.compact l).length≤l.length:=Lib.compact_length_le l
def ZiW (t:Tab) (l:List Int) (k:Nat):List Int:=(l.take k).map (Yt t)++l.drop k
theorem ZkI (t:Tab) (l:List Int):ZiW t l 0=l:=by simp[ZiW]
theorem ZnB (t:Tab) (l:List Int):ZiW t l l.length=l.map (Yt t):=by simp[ZiW]
theorem Zqq {t:Tab} {l:List Int} {k:Nat} {y:Int} (h:l[k]? =some y):(ZiW t l k)[k]? =some y:=by
 have hk:=(List.getElem?_eq_some_iff.1 h).1
 unfold ZiW
 rw[List.getElem?_append_right (by simp;omega),List.length_map,List.length_take,Nat.min_eq_left (by omega),Nat.sub_self,List.getElem?_drop,Nat.add_zero,h]
theorem ZkJ (t:Tab) {l:List Int} {k:Nat} {y:Int} (h:l[k]? =some y):(ZiW t l k).set k (Yt t y)=ZiW t l (k+1):=by
 obtain⟨hk,rfl⟩:=List.getElem?_eq_some_iff.1 h
 unfold ZiW
 have hl:((l.take k).map (Yt t)).length=k:=by simp;omega
 rw[List.set_append_right _ _ (by omega),hl,Nat.sub_self,List.drop_eq_getElem_cons hk,List.set_cons_zero,List.take_succ_eq_append_getElem hk,List.map_append,List.append_assoc]
 rfl
theorem ZcB (w:World) (R mr:Nat) (v:Zp) (t:Tab) (h:WhV) (x:ExV) (hR:Qo w R mr v t h) (h4:x.kind≠4):
 Calls prog 47 #[.pointer (some ⟨R,0,none⟩),.agg x.cells.toArray] w (Zmk (Q7 t h x) w):=by
 have HF:=hh (fun w' (hk:Kept [] w w')=>Zfa ZmV w' v t h x.s (hR.tab.kept hk) (hR.wh.kept hk) hR.tab.sm5.1 (Nat.le_trans hR.wh.us5.2 (by omega)) hR.tab.ow)
 have HB:=hh (fun w' e (hk:Kept [] w w')=>Zip w' v t e (hR.tab.kept hk))
 have HD:Hid (Q7 t h x=Lib.compact (QI ((Zam t h x).map (Yt t)))):=rfl
 have HL:=hh (Zcu hR.tab.sm5.1 h x.s)
 haveI bR:=hR.is
 have h4':(x.kind == 4)=false:=by simp[h4]
 unfold Zp.cells WhV.cells at HF
 unfold Zp.cells at HB
 clear hR
 have HSC:=hh ZmV
 have HCC:=hh Zii
 cases h3:(x.kind == 3)
 ·have HE:Hid (Zam t h x= []):=by rw[Hid,Zam,if_neg (by simpa using h3)]
  clear HF HB HL
  go_enter func47,ntmps47
  go_wp2_with fail
  go_loopw [51] (fun s51 wr=>s51= .int .i64 0∧Kept [] w wr) (fun _ _=>0)
  case atStart=>exact⟨rfl,kp⟩
  case round=>
   obtain⟨rfl,hkr⟩:=hrel
   haveI p_wr:Zb wr w:=⟨hkr⟩
   clear hkr
   have HD2:Hid (Q7 t h x=Lib.compact (QI [])):=by rw[Hid,HD.out,HE.out];rfl
   go_wp2_with fail
   refine(HSC.out _ w.heap.size _ [] (World.ownsRow_nil _ _ _ _) (by simp)).mono ?_
   rintro e w3 ⟨rfl,ho3,hg3⟩
   have HO3:=hh ho3
   haveI p_w3:Zb w3 _:=⟨Kept.of_grown hg3 (fun k hk=>by cases hk)⟩
   clear ho3 hg3
   go_wp2_with fail
   refine(HCC.out _ w.heap.size _ (QI []) HO3.out (by simp[QI])).mono ?_
   rintro e w4 ⟨v',rfl,ho4,hg4,_⟩
   have HO4:=hh ho4
   haveI p_w4:Zb w4 _:=⟨Kept.of_grown hg4 (fun k hk=>by cases hk)⟩
   clear ho4 hg4
   go_wp2_with fail
   go_ret
   rw[HD2.out]
   exact⟨_,rfl,HO4.out,kp⟩
 ·have HE:Hid (Zam t h x=Yk t h x.s):=by rw[Hid,Zam,if_pos (by simpa using h3)]
  go_enter func47,ntmps47
  go_wp2_with fail
  refine Ze 10 0 (fun _=> .cells #[] 0) (by kernel_rfl) (by kernel_rfl) (fun i o h1 h2=>by omega) (fun _ _ _ _ _ h=>h) ?_;apply Exists.intro;refine⟨fun U hU hN=>?_,?_⟩;simp only[List.take_succ_cons,List.take_zero]
  ·repeat(go_big_quiet_step (fail))
   refine wpQuiet_nil ?_
   exact rfl
  simp only[List.drop_succ_cons,List.drop_zero,List.take_succ_cons,List.take_zero]
  intro w2 hk2 _
  haveI p_w2:Zb w2 _:=⟨hk2⟩
  clear hk2
  go_wp2_with fail
  refine(HF.out w2 kp).mono ?_
  rintro e w3 ⟨vf,rfl,ho,hk3⟩
  rw[HE.out]at HD
  generalize Yk t h x.s=l at*
  have ho3:=Z7 (base':=w.heap.size) ho (Kept.size (X:=[]) kp)
  have HK3:Hid (Kept [] w w3):=Kept.trans kp hk3
  have HLT:=hh ho3.lt
  obtain⟨A,c,rfl⟩:=Zq ho3
  have HO:=hh ho3
  have hll:=HL.out
  clear ho ho3 hk3 HF HE
  go_wp2_with fail
  clear hll
  go_loopw [51] (fun s51 wr=>∃k:Nat,s51= .int .i64 k∧k≤l.length∧wr.ownsRow w.heap.size 3 1 (.slice A l.length c) l.length ((ZiW t l k).map (Value.int .i64))∧Kept [] w wr) (fun s51 _=>l.length - (intOf s51).toNat)
  case atStart=>exact⟨0,rfl,Nat.zero_le _,by rw[ZkI];exact HO.out,HK3.out⟩
  case round=>
   obtain⟨k,rfl,hk,ho,hkr⟩:=hrel
   have hll:=HL.out
   have HOR:=hh ho
   haveI p_wr:Zb wr w:=⟨hkr⟩
   clear ho hkr
   obtain⟨wo,rfl⟩:∃wo:World,wo=wr:=⟨_,rfl⟩
   by_cases hlt:k < l.length
   ·obtain⟨g,rfl⟩:∃g,A=some ⟨g,0,none⟩:=by
     rcases HOR.out.2 with⟨e,hn⟩ | ⟨g,cap,cur,e,_⟩
     ·omega
     ·cases e;exact⟨g,rfl⟩
    obtain⟨y,hy⟩:∃y,l[k]? =some y:=⟨_,List.getElem?_eq_getElem hlt⟩
    have HM:Hid ((ZiW t l k).set k (Yt t y)=ZiW t l (k+1)):=ZkJ t hy
    have HY:Hid (((ZiW t l k).map (Value.int .i64))[k]? =some (.int .i64 y)):=by rw[Hid,List.getElem?_map,Zqq hy];rfl
    obtain⟨qx,qf⟩:=Ym (g:=g) HOR.out rfl HY.out
    clear hy
    go_wp2_with fail
    refine(HB.out _ _ kp).mono ?_
    rintro e w5 ⟨rfl,hk5⟩
    have HO5:=hh (Zk (X:=[]) HOR.out hk5 (fun _ _=>by simp))
    haveI p_w5:Zb w5 _:=⟨hk5⟩
    obtain⟨qx5,qf5⟩:=Ym (g:=g) HO5.out rfl HY.out
    clear hk5 qx qf
    go_wp2_with fail
    go_roundw
    case rel=>exact⟨k+1,by go_num,by omega,by rw[←HM.out,List.map_set];exact ZgR HO5.out rfl hlt _,Kept.setOwn (w:=w) (w':=w5) kp HO5.out rfl (Nat.le_refl _) _ _⟩
    case measure=>simp[intOf];omega
   ·obtain rfl:k=l.length:=by omega
    have HOE:Hid (wo.ownsRow w.heap.size 3 1 (.slice A l.length c) (l.map (Yt t)).length ((l.map (Yt t)).map (Value.int .i64))):=by
     have:=HOR.out
     rw[ZnB]at this
     rw[Hid,List.length_map]
     exact this
    go_wp2_with fail
    refine(HSC.out _ w.heap.size _ _ HOE.out (by rw[List.length_map];omega)).mono ?_
    rintro e w5 ⟨rfl,ho5,hg5⟩
    have HO5:=hh ho5
    have HK5:Hid (Kept [] w w5):=Kept.grown (a:=w) (b:=wo) kp hg5 (fun q hq=>(HOE.out.lt q hq).1)
    clear ho5 hg5
    have hsl:(QI (l.map (Yt t))).length=l.length:=by simp[QI]
    have HSL:=hh hsl
    clear hsl
    go_wp2_with fail
    refine(HCC.out _ w.heap.size _ _ (by have:=HO5.out;exact this) (by rw[HSL.out];exact hll)).mono ?_
    rintro e w6 ⟨v',rfl,ho6,hg6,_⟩
    have HO6:=hh ho6
    have HK6:Hid (Kept [] w w6):=HK5.out.grown hg6 (fun q hq=>(HOE.out.lt q hq).1)
    clear ho6 hg6
    go_wp2_with fail
    go_ret
    rw[HD.out]
    exact⟨_,rfl,HO6.out,HK6.out⟩
theorem ExV.er_setT (x:ExV) (k:Int):(x.setT k).er=x.er.setT k:=by cases x;simp only[setT,er_mk];rfl
theorem ExV.er_setEnt (x:ExV) (k:Int):(x.setEnt k).er=x.er.setEnt k:=by cases x;simp only[setEnt,er_mk];rfl
theorem Qe.setT {w:World} {x:ExV} (k:Int):∀{n:Nat},Qe w n x→Qe w n (x.setT k)
 | 0,h=>h
 | _+1,h=>h
theorem Qe.setEnt {w:World} {x:ExV} (k:Int):∀{n:Nat},Qe w n x→Qe w n (x.setEnt k)
 | 0,h=>h
 | _+1,h=>h
theorem ExD.setT {X:List Nat} {w:World} {x:ExV} (k:Int) (h:ExD X w x):ExD X w (x.setT k):=h.imp fun _ h _ hk=>(h _ hk).setT k
theorem ExD.setEnt {X:List Nat} {w:World} {x:ExV} (k:Int) (h:ExD X w x):ExD X w (x.setEnt k):=h.imp fun _ h _ hk=>(h _ hk).setEnt k
instance (priority:=high) (w:World) (B:Nat) (x:ExV) (k:Int) [h:Zc w B 41 x.cells.toArray]:Zc (w.setCell ⟨B,7,none⟩ (.int .i64 k)) B 41 (x.setEnt k).cells.toArray:=⟨heap_setCell_same _ _ _ _ _ _ h.has⟩
instance (priority:=high) (w:World) (B:Nat) (x:ExV) (k:Int) [h:Zc w B 41 x.cells.toArray]:Zc (w.setCell ⟨B,8,none⟩ (.int .i64 k)) B 41 (x.setT k).cells.toArray:=⟨heap_setCell_same _ _ _ _ _ _ h.has⟩
@[go_sem] theorem Zth (x:ExV) (i k:Int):(x.cells.set 7 (.int .i64 i)).set 8 (.int .i64 k)=((x.setEnt i).setT k).cells:=rfl
def Zjo (X:List Nat) (μ:ExV) (w:World) (e:Ending) (w':World):Prop:=∃z:ExV,e= .returned (.agg z.cells.toArray)∧z.er=μ∧ExD X w' z∧Kept [] w w'
theorem Zdu {P:Program} {fn:Func} {X:List Nat} {μ z:ExV} {a:Act} {w w':World} (hd:a.defers= []) (hr:(results fn a.tmps).run P w'= .ok (.agg z.cells.toArray) w') (h1:z.er=μ) (h2:ExD X w' z) (hk:Kept [] w w'):bodyPost P fn (Zjo X μ w) .ret a w':=
 bodyPost_ret hr hd ⟨z,rfl,h1,h2,hk⟩
@[go_sem] theorem Zu2 (w:World) (b o:Nat) (x:Zx) [h:YO w b o x]:w.cell? ⟨b,o+4,none⟩=some (.int .i64 x.t):=h.range 4 _ rfl
def Zbz (x:ExV) (i:Int) (ty:Int):ExV:=(x.setEnt i).setT ty
theorem Zdg (X:List Nat) (w:World) (R mr:Nat) (v:Zp) (t:Tab) (h:WhV) (x:ExV) (i:Nat) (y:Zx) (hR:Qo w R mr v t h) (hy:t.ents[i]? =some y) (h4:x.kind≠4) (hx:ExD X w x) (hX:∀q,q∈X→q < w.heap.size):
 Calls prog 49 #[.pointer (some ⟨R,0,none⟩),.agg x.cells.toArray,.int .i64 i] w (Zjo X (Zbz x.er i y.t) w):=by
 have HX:=hh hx
 have hil:=(List.getElem?_eq_some_iff.1 hy).1
 obtain⟨y',b,o,hy',ha,hat,_⟩:=Zb5 hR.tab hil
 obtain rfl:y'=y:=by rw[hy]at hy';exact(Option.some.inj hy').symm
 have q1:=hR.tab.el
 have h2:(i:Int) < (t.ents.length:Int):=by omega
 haveI bR:=hR.is
 have h4':(x.kind == 4)=false:=by simp[h4]
 have HW:Hid (((x.setEnt i).setT y'.t).er=Zbz x.er i y'.t):=by rw[Hid,ExV.er_setT,ExV.er_setEnt];rfl
 clear hR hy hy' hx h4
 go_enter func49,ntmps49
 go_wp2_with fail
 go_region
 go_wp2_with fail
 exact Zdu (z:=(x.setEnt i).setT y'.t) rfl (Zj results49 (Z0 rfl inferInstance)) HW.out (((HX.out.kept kp).setEnt _).setT _) kp
inductive NdV where
 | mk (p:Nat) (x:ExV) (ma:Option Addr) (mc:Nat) (ms:List MeV) (pa:Option Addr) (pc:Nat) (parts:List NdV) (qa:Option Addr) (qc:Nat) (args:List NdV) (ca:Option Addr) (chs:List (List (List NdV))) (cc:Nat)
deriving Inhabited
namespace NdV
def p:NdV→Nat | .mk p .. =>p
def x:NdV→ExV | .mk _ x .. =>x
def ma:NdV→Option Addr | .mk _ _ a .. =>a
def mc:NdV→Nat | .mk _ _ _ c .. =>c
def ms:NdV→List MeV | .mk _ _ _ _ l .. =>l
def pa:NdV→Option Addr | .mk _ _ _ _ _ a .. =>a
def pc:NdV→Nat | .mk _ _ _ _ _ _ c .. =>c
def parts:NdV→List NdV | .mk _ _ _ _ _ _ _ l .. =>l
def qa:NdV→Option Addr | .mk _ _ _ _ _ _ _ _ a .. =>a
def qc:NdV→Nat | .mk _ _ _ _ _ _ _ _ _ c .. =>c
def args:NdV→List NdV | .mk _ _ _ _ _ _ _ _ _ _ l .. =>l
def ca:NdV→Option Addr | .mk _ _ _ _ _ _ _ _ _ _ _ a .. =>a
def chs:NdV→List (List (List NdV)) | .mk _ _ _ _ _ _ _ _ _ _ _ _ c _=>c
def cc:NdV→Nat | .mk _ _ _ _ _ _ _ _ _ _ _ _ _ c=>c
def cells (d:NdV):List Value:=[.int .u8 d.x.kind,.int .u8 d.x.oper,.int .i64 d.x.n,.string d.x.s,.slice d.x.la d.x.ls.length d.x.lc,.slice d.x.aa d.x.al.length d.x.ac,.int .i64 d.x.line,.int .i64 d.x.ent,.int .i64 d.x.t,
 .slice d.ma d.ms.length d.mc,.slice d.pa d.parts.length d.pc,.slice d.qa d.args.length d.qc,.slice d.ca d.chs.length d.cc]
end NdV
def Ji (w:World) (A:Option Addr) (ps:List Nat):Prop:=ps= []∨∃b o,A=some ⟨b,o,none⟩∧∀(j:Nat) (p:Nat),ps[j]? =some p→w.cell? ⟨b,o+j,none⟩=some (.pointer (some ⟨p,0,none⟩))
theorem Ji.kept {w w':World} {A:Option Addr} {ps:List Nat} (h:Ji w A ps) (hk:Kept [] w w'):Ji w' A ps:=by
 rcases h with h | ⟨b,o,e,hc⟩
 ·exact .inl h
 ·exact .inr ⟨b,o,e,fun j x hx=>hk.cell (hc j x hx) (by simp)⟩
def Ztp (w:World) (u:Value) (ns:List NdV):Prop:=∃A c,u= .slice A ns.length c∧Ji w A (ns.map NdV.p)∧ns.length≤1000000000
def Zto (w:World) (u:Value) (l:List (List NdV)):Prop:=∃A c,u= .slice A l.length c∧(l= []∨∃b o,A=some ⟨b,o,none⟩∧∀(j:Nat) ns,l[j]? =some ns→∃v,w.cell? ⟨b,o+j,none⟩=some v∧Ztp w v ns)∧l.length≤1000000000
def Zrl (w:World) (A:Option Addr) (l:List (List (List NdV))):Prop:=l= []∨∃b o,A=some ⟨b,o,none⟩∧∀(j:Nat) k,l[j]? =some k→∃v,w.cell? ⟨b,o+j,none⟩=some v∧Zto w v k
theorem Ztp.kept {w w':World} {u:Value} {ns:List NdV} (h:Ztp w u ns) (hk:Kept [] w w'):Ztp w' u ns:=by
 obtain⟨A,c,e,h1,h2⟩:=h
 exact⟨A,c,e,h1.kept hk,h2⟩
theorem Zto.kept {w w':World} {u:Value} {l:List (List NdV)} (h:Zto w u l) (hk:Kept [] w w'):Zto w' u l:=by
 obtain⟨A,c,e,h1,h2⟩:=h
 refine⟨A,c,e,h1.imp (fun h=>h) (fun⟨b,o,e,h⟩=>⟨b,o,e,fun j ns hj=>?_⟩),h2⟩
 obtain⟨v,hv,hc⟩:=h j ns hj
 exact⟨v,hk.cell hv (by simp),hc.kept hk⟩
theorem Zrl.kept {w w':World} {A:Option Addr} {l:List (List (List NdV))} (h:Zrl w A l) (hk:Kept [] w w'):Zrl w' A l:=by
 refine h.imp (fun h=>h) (fun⟨b,o,e,h⟩=>⟨b,o,e,fun j ns hj=>?_⟩)
 obtain⟨v,hv,hc⟩:=h j ns hj
 exact⟨v,hk.cell hv (by simp),hc.kept hk⟩
def Zgl (w:World):Nat→NdV→Prop
 | 0,_=>False
 | n+1,d=>w.heap[d.p]? =some (.cells d.cells.toArray 143 (0,0))∧Qe w n d.x∧Zo MeV 12 MeV.cells w d.ma d.ms∧(∀m,m∈d.ms→Qe w n m.e∧0≤m.n∧m.n≤2)∧d.ms.length≤1000000∧
  Ji w d.pa (d.parts.map NdV.p)∧(∀y,y∈d.parts→Zgl w n y)∧d.parts.length≤1000000000∧Ji w d.qa (d.args.map NdV.p)∧(∀y,y∈d.args→Zgl w n y)∧d.args.length≤1000000000∧Zrl w d.ca d.chs∧(∀l,l∈d.chs→∀k,k∈l→∀y,y∈k→Zgl w n y)∧d.chs.length≤1000000000
theorem Zgl.kept {w w':World} (hk:Kept [] w w'):∀{n:Nat} {d:NdV},Zgl w n d→Zgl w' n d
 | 0,_,h=>h
 | _+1,_,⟨h1,h2,h3,h4,h5,h6,h7,h8,h9,h10,h11,h12,h13,h14⟩=>⟨hk.obj h1 (by simp),h2.kept hk,h3.kept hk,fun m hm=>⟨(h4 m hm).1.kept hk,(h4 m hm).2⟩,h5,h6.kept hk,fun y hy=>(h7 y hy).kept hk,h8,h9.kept hk,fun y hy=>(h10 y hy).kept hk,h11,h12.kept hk,fun l hl k hk2 y hy=>(h13 l hl k hk2 y hy).kept hk,h14⟩
theorem Zgl.mono {w:World}:∀{n m:Nat} {d:NdV},n≤m→Zgl w n d→Zgl w m d
 | 0,_,_,_,h=>h.elim
 | n+1,0,_,hle,_=>absurd hle (by omega)
 | n+1,m+1,_,hle,⟨h1,h2,h3,h4,h5,h6,h7,h8,h9,h10,h11,h12,h13,h14⟩=>⟨h1,h2.mono (by omega),h3,fun y hy=>⟨(h4 y hy).1.mono (by omega),(h4 y hy).2⟩,h5,h6,fun y hy=>(h7 y hy).mono (by omega),h8,h9,fun y hy=>(h10 y hy).mono (by omega),h11,h12,fun l hl k hk y hy=>(h13 l hl k hk y hy).mono (by omega),h14⟩
def NdD (X:List Nat) (w:World) (d:NdV):Prop:=∃n,∀w',Kept X w w'→Zgl w' n d
theorem NdD.kept {X:List Nat} {w w':World} {d:NdV} (h:NdD X w d) (hk:Kept [] w w'):NdD X w' d:=h.imp fun _ h _ h2=>h _ ((hk.mono (by simp)).trans h2)
theorem NdD.later {X Y:List Nat} {w w':World} {d:NdV} (h:NdD X w d) (hk:Kept [] w w') (hY:∀q,q∈Y→q∈X∨w.heap.size≤q):NdD Y w' d:=h.imp fun _ h _ h2=>h _ (hk.later h2 hY)
theorem NdD.less {X Y:List Nat} {w w':World} {d:NdV} (h:NdD X w d) (hk:Kept Y w w') (hY:∀q,q∈Y→q∈X):NdD X w' d:=h.imp fun _ h _ h2=>h _ ((hk.mono hY).trans h2)
theorem NdD.sub {X Y:List Nat} {w:World} {d:NdV} (h:NdD X w d) (hY:∀q,q∈Y→q∈X):NdD Y w d:=h.imp fun _ h _ hk=>h _ (hk.mono hY)
theorem NdD.here {X:List Nat} {w:World} {d:NdV} (h:NdD X w d):∃n,Zgl w (n+1) d:=by
 obtain⟨n,h⟩:=h
 have:=h w (Kept.refl _ _)
 cases n with
 | zero=>exact this.elim
 | succ n=>exact⟨n,this⟩
theorem NdD.x {X:List Nat} {w:World} {d:NdV} (h:NdD X w d):ExD X w d.x:=by
 obtain⟨n,h⟩:=h
 cases n with
 | zero=>exact(h w (Kept.refl _ _)).elim
 | succ n=>exact⟨n,fun w' hk=>(h w' hk).2.1⟩
theorem NdD.me {X:List Nat} {w:World} {d:NdV} (h:NdD X w d) {m:MeV} (hm:m∈d.ms):ExD X w m.e:=by
 obtain⟨n,h⟩:=h
 cases n with
 | zero=>exact(h w (Kept.refl _ _)).elim
 | succ n=>exact⟨n,fun w' hk=>((h w' hk).2.2.2.1 m hm).1⟩
theorem NdD.part {X:List Nat} {w:World} {d y:NdV} (h:NdD X w d) (hy:y∈d.parts):NdD X w y:=by
 obtain⟨n,h⟩:=h
 cases n with
 | zero=>exact(h w (Kept.refl _ _)).elim
 | succ n=>exact⟨n,fun w' hk=>(h w' hk).2.2.2.2.2.2.1 y hy⟩
theorem NdD.arg {X:List Nat} {w:World} {d y:NdV} (h:NdD X w d) (hy:y∈d.args):NdD X w y:=by
 obtain⟨n,h⟩:=h
 cases n with
 | zero=>exact(h w (Kept.refl _ _)).elim
 | succ n=>exact⟨n,fun w' hk=>(h w' hk).2.2.2.2.2.2.2.2.2.1 y hy⟩
theorem NdD.cho {X:List Nat} {w:World} {d y:NdV} {l:List (List NdV)} {k:List NdV} (h:NdD X w d) (hl:l∈d.chs) (hk:k∈l) (hy:y∈k):NdD X w y:=by
 obtain⟨n,h⟩:=h
 cases n with
 | zero=>exact(h w (Kept.refl _ _)).elim
 | succ n=>exact⟨n,fun w' hw=>(h w' hw).2.2.2.2.2.2.2.2.2.2.2.2.1 l hl k hk y hy⟩
structure NdT (X:List Nat) (w:World) (d:NdV):Prop where
 nd:NdD [] w d
 x:ExD X w d.x
 part:∀{y:NdV},y∈d.parts→NdD X w y
 arg:∀{y:NdV},y∈d.args→NdD X w y
 cho:∀{l:List (List NdV)} {k:List NdV} {y:NdV},l∈d.chs→k∈l→y∈k→NdD X w y
theorem NdT.here {X:List Nat} {w:World} {d:NdV} (h:NdT X w d):∃n,Zgl w (n+1) d:=h.nd.here
theorem NdT.kept {X:List Nat} {w w':World} {d:NdV} (h:NdT X w d) (hk:Kept [] w w'):NdT X w' d:=⟨h.nd.kept hk,h.x.kept hk,fun hy=>(h.part hy).kept hk,fun hy=>(h.arg hy).kept hk,fun hl hq hy=>(h.cho hl hq hy).kept hk⟩
theorem NdT.later {X Y:List Nat} {w w':World} {d:NdV} (h:NdT X w d) (hk:Kept [] w w') (hY:∀q,q∈Y→q∈X∨w.heap.size≤q):NdT Y w' d:=
 ⟨h.nd.kept hk,h.x.later hk hY,fun hy=>(h.part hy).later hk hY,fun hy=>(h.arg hy).later hk hY,fun hl hq hy=>(h.cho hl hq hy).later hk hY⟩
@[go_sem] theorem NdV.len (d:NdV):d.cells.length=13:=rfl
@[go_sem] theorem Zvg (d:NdV) (h:0 < d.cells.length):d.cells[0]'h=(.int .u8 d.x.kind):=rfl
@[go_sem] theorem Zvf (d:NdV) (h:1 < d.cells.length):d.cells[1]'h=(.int .u8 d.x.oper):=rfl
@[go_sem] theorem Zve (d:NdV) (h:2 < d.cells.length):d.cells[2]'h=(.int .i64 d.x.n):=rfl
@[go_sem] theorem Zvd (d:NdV) (h:3 < d.cells.length):d.cells[3]'h=(.string d.x.s):=rfl
@[go_sem] theorem Zvc (d:NdV) (h:4 < d.cells.length):d.cells[4]'h=(.slice d.x.la d.x.ls.length d.x.lc):=rfl
@[go_sem] theorem Zvb (d:NdV) (h:5 < d.cells.length):d.cells[5]'h=(.slice d.x.aa d.x.al.length d.x.ac):=rfl
@[go_sem] theorem Zva (d:NdV) (h:6 < d.cells.length):d.cells[6]'h=(.int .i64 d.x.line):=rfl
@[go_sem] theorem Zu9 (d:NdV) (h:9 < d.cells.length):d.cells[9]'h=(.slice d.ma d.ms.length d.mc):=rfl
@[go_sem] theorem ZuW (d:NdV) (h:10 < d.cells.length):d.cells[10]'h=(.slice d.pa d.parts.length d.pc):=rfl
@[go_sem] theorem ZuV (d:NdV) (h:11 < d.cells.length):d.cells[11]'h=(.slice d.qa d.args.length d.qc):=rfl
@[go_sem] theorem ZuU (d:NdV) (h:12 < d.cells.length):d.cells[12]'h=(.slice d.ca d.chs.length d.cc):=rfl
instance (w:World) (B:Nat) (d:NdV) [h:Zc w B 143 d.cells.toArray]:Q1 w B 0 d.x:=⟨fun j u hu=>by
 have hj:=(List.getElem?_eq_some_iff.1 hu).1
 rw[Nat.zero_add,cell_of_row _ _ _ _ _ _ h.has,←hu]
 have hj:j < 9:=hj
 match j,hj with
 | 0,_=>rfl
 | 1,_=>rfl
 | 2,_=>rfl
 | 3,_=>rfl
 | 4,_=>rfl
 | 5,_=>rfl
 | 6,_=>rfl
 | 7,_=>rfl
 | 8,_=>rfl⟩
theorem Zgl.is {w:World} {n:Nat} {d:NdV} (h:Zgl w (n+1) d):Zc w d.p 143 d.cells.toArray:=⟨h.1⟩
end
end Go.Proofs.YtfaecpkocgcofaaGreatDoor
