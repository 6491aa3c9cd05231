/- Lemmas for ResolveSettles, printed small: CA4 CA5 CA6 X4 X7 X8. -/
import Derived.Test.YtfaecpkocgcofaaGreatDoorZ14
import Derived.Lib.Overlaps
import Derived.Lib.AppendZerosOnto
import Derived.Laws.CopyOwn
import Derived.Laws.AppendOwn
import Derived.Deep.RegionLaw
set_option linter.all false
set_option maxRecDepth 100000
set_option maxHeartbeats 8000000
open Go.Proofs.Tryz
namespace Go.Proofs.YtfaecpkocgcofaaGreatDoor
section
open Go.RowKit
structure ZcL (w:World) (x:Zx):Prop where
 ps:Zo Zd 13 Zd.cells w x.pa x.params
 ok:x.Ok
theorem ZcL.kept {w w':World} {x:Zx} (h:ZcL w x) (hk:Kept [] w w'):ZcL w' x:=⟨h.ps.kept hk,h.ok⟩
theorem ZhD (w:World):ZcL w Yu:=⟨.inl rfl,by constructor <;> first | (simp[Yu];done) | (simp[Yu,ByteArray.size];done)⟩
theorem Zw.ent {w:World} {v:Zp} {t:Tab} (h:Zw w v t) {x:Zx} (hx:x∈t.ents):ZcL w x:=⟨h.ps x hx,h.ok x hx⟩
theorem Zw.row {w:World} {v:Zp} {t:Tab} (h:Zw w v t) (e:Int):ZcL w (JJ t e):=by
 unfold JJ Y9
 split
 ·exact ZhD w
 ·cases hx:t.ents[e.toNat]? with
  | none=>exact ZhD w
  | some x=>exact h.ent (List.mem_of_getElem? hx)
def Znh (t:Tab) (a b:Zx):Bool:=a.t == b.t && Zce (Zb9 t) a.params b.params
def Zmr (t:Tab) (a b:Zx):Bool:=(a.name.toList == b.name.toList) && (!ovl a || !ovl b || Znh t a b)
theorem Zoc:∀args w,(callFunc 287 args).run prog w= .ok (.enter 287 args) w:=Go.Proofs.enters_of func287 (by kernel_rfl) rfl
theorem ZgN (w:World) (v:Zp) (t:Tab) (a b:Zx) (hT:Zw w v t) (ha:ZcL w a) (hb:ZcL w b):
 Calls prog 271 #[.agg (v.cells t),.agg a.cells.toArray,.agg b.cells.toArray] w (J0 (Znh t a b) w):=by
 have HT:=hh hT
 have HA:=hh ha
 have HB:=hh hb
 have HR:Hid (Znh t a b=(a.t == b.t && Zce (Zb9 t) a.params b.params)):=rfl
 have a1:=ha.ok.p1
 have a2:=ha.ok.p2
 have b1:=hb.ok.p1
 have b2:=hb.ok.p2
 clear hT ha hb
 have k1:∀W,Kept [] ((((w.alloc (.cells (v.cells t) 231)).alloc (.cells a.cells.toArray 95)).alloc (.cells b.cells.toArray 95))) W→Yw W w.heap.size v t∧(W.cell? ⟨w.heap.size+1,4,none⟩=some (.int .i64 a.t)∧W.cell? ⟨w.heap.size+1,6,none⟩=some (.slice a.pa a.params.length a.pc))∧(W.cell? ⟨w.heap.size+2,4,none⟩=some (.int .i64 b.t)∧W.cell? ⟨w.heap.size+2,6,none⟩=some (.slice b.pa b.params.length b.pc)):=fun W hk=>
  have q0:=Zr (o:= .cells b.cells.toArray 95) (Zr (W:=w.alloc (.cells (v.cells t) 231)) (o:= .cells a.cells.toArray 95) (Zf rfl) (by simp)) (by simp;omega)
  have q1:=Zr (W:=(w.alloc (.cells (v.cells t) 231)).alloc (.cells a.cells.toArray 95)) (o:= .cells b.cells.toArray 95) (Zf (k:=w.heap.size+1) (by simp)) (by simp)
  have q2:=Zf (W:=(w.alloc (.cells (v.cells t) 231)).alloc (.cells a.cells.toArray 95)) (o:= .cells b.cells.toArray 95) (k:=w.heap.size+2) (by simp)
  ⟨hk.obj q0 (by simp),⟨Zz (x:=a) (hk.obj q1 (by simp)) 4 rfl,Zz (x:=a) (hk.obj q1 (by simp)) 6 rfl⟩,⟨Zz (x:=b) (hk.obj q2 (by simp)) 4 rfl,Zz (x:=b) (hk.obj q2 (by simp)) 6 rfl⟩⟩
 have K1:=hh k1
 clear k1
 go_enter func271,ntmps271
 go_upto_region 1 with(fail)
 refine Zm ?_
 intro w0 hw0
 rw[←hw0]at K1
 have HK0:Hid (Kept [] w w0):=by rw[Hid,hw0];exact((Kept.alloc _ _ _).trans (Kept.alloc _ _ _)).trans (Kept.alloc _ _ _)
 obtain⟨hvb,⟨c1,c2⟩,c3,c4⟩:=K1.out w0 (Kept.refl _ _)
 have HVB:=hh hvb
 clear hw0 K1 hvb
 cases hq:(a.t == b.t)
 ·rw[hq]at HR
  go_wp2_with fail
  go_ret
  exact⟨by rw[HR.out];rfl,HK0.out⟩
 ·rw[hq]at HR
  have HC:=hh (Zee w0 a.pa b.pa a.pc b.pc a.params b.params a1 a2 b1 b2 (HA.out.kept HK0.out).ps (HB.out.kept HK0.out).ps 287 #[.pointer (some ⟨w.heap.size,0,none⟩)] (Zb9 t) Zoc (fun W x y hk=>Zfj W w.heap.size v t x y (HVB.out.kept hk) (HT.out.kept (HK0.out.trans hk))))
  go_wp2_with fail
  refine HC.out.mono ?_
  rintro e w1 ⟨rfl,hk1⟩
  have HK1:=hh (HK0.out.trans hk1)
  clear hk1 c1 c2 c3 c4
  go_wp2_with fail
  go_ret
  exact⟨by rw[HR.out];rfl,HK1.out⟩
theorem J9 (w:World) (v:Zp) (t:Tab) (a b:Zx) (hT:Zw w v t) (ha:ZcL w a) (hb:ZcL w b):
 Calls prog 233 #[.agg (v.cells t),.agg a.cells.toArray,.agg b.cells.toArray] w (J0 (Zmr t a b) w):=by
 have HT:=hh hT
 have HA:=hh ha
 have HB:=hh hb
 have HR:Hid (Zmr t a b=((a.name.toList == b.name.toList) && (!ovl a || !ovl b || Znh t a b))):=rfl
 clear hT ha hb
 go_enter func233,ntmps233
 go_upto_region 1 with(fail)
 refine Zm ?_
 intro w0 hw0
 have HK0:Hid (Kept [] w w0):=by rw[Hid,hw0];exact((Kept.alloc _ _ _).trans (Kept.alloc _ _ _)).trans (Kept.alloc _ _ _)
 have q0:w0.heap[w.heap.size]? =some (.cells (v.cells t) 231 (0,0)):=by rw[hw0];exact Zr (Zr (Zf rfl) (by simp)) (by simp;omega)
 have q1:w0.heap[w.heap.size+1]? =some (.cells a.cells.toArray 95 (0,0)):=by rw[hw0];exact Zr (Zf (by simp)) (by simp)
 have q2:w0.heap[w.heap.size+2]? =some (.cells b.cells.toArray 95 (0,0)):=by rw[hw0];exact Zf (by simp)
 have c1:=Zz (x:=a) q1 1 rfl
 have c2:=Zz (x:=b) q2 1 rfl
 have HVB:Hid (Yw w0 w.heap.size v t):=q0
 have HRA:Hid (∀W,Kept [] w0 W→W.rangeAt (w.heap.size+1) 0 a.cells):=fun W hk=>Zx.range (hk.obj q1 (by simp))
 have HRB:Hid (∀W,Kept [] w0 W→W.rangeAt (w.heap.size+2) 0 b.cells):=fun W hk=>Zx.range (hk.obj q2 (by simp))
 have HRV:Hid (∀W,Kept [] w0 W→W.rangeAt w.heap.size 0 (v.cells t).toList):=fun W hk j u hu=>by
  rw[Nat.zero_add,cell_of_row _ _ _ _ _ _ (hk.obj q0 (by simp))]
  simpa using hu
 have hkc:Kept [] w0 w0:=Kept.refl _ _
 clear hw0 q0 q1 q2
 cases hN:(a.name.toList == b.name.toList)
 ·rw[hN]at HR
  go_wp2_with fail
  go_ret
  exact⟨by rw[HR.out];rfl,HK0.out⟩
 ·rw[hN]at HR
  cases hA:ovl a
  ·rw[hA]at HR
   go_wp2_with (first
    | (refine QE 95 (.tmp 4) rfl rfl (w.heap.size+1) 0 rfl a.cells _ (HRA.out _ hkc) underlying95 rfl (Tryz.infoEnt a) ?_)
    | (go_at_call 234;refine(Qn _ a).mono ?_;rintro e w4 ⟨rfl,hk4⟩;replace hkc:=hkc.trans hk4;clear hk4))
   go_ret
   exact⟨by rw[HR.out];rfl,HK0.out.trans hkc⟩
  ·rw[hA]at HR
   cases hB:ovl b
   ·rw[hB]at HR
    go_wp2_with (first
     | (refine QE 95 (.tmp 4) rfl rfl (w.heap.size+1) 0 rfl a.cells _ (HRA.out _ hkc) underlying95 rfl (Tryz.infoEnt a) ?_)
     | (refine QE 95 (.tmp 5) rfl rfl (w.heap.size+1+1) 0 rfl b.cells _ (HRB.out _ hkc) underlying95 rfl (Tryz.infoEnt b) ?_)
     | (go_at_call 234;refine(Qn _ _).mono ?_;rintro e w4 ⟨rfl,hk4⟩;replace hkc:=hkc.trans hk4;clear hk4))
    go_ret
    exact⟨by rw[HR.out];rfl,HK0.out.trans hkc⟩
   ·rw[hB]at HR
    go_wp2_with (first
     | (refine QE 95 (.tmp 4) rfl rfl (w.heap.size+1) 0 rfl a.cells _ (HRA.out _ hkc) underlying95 rfl (Tryz.infoEnt a) ?_)
     | (refine QE 95 (.tmp 5) rfl rfl (w.heap.size+1+1) 0 rfl b.cells _ (HRB.out _ hkc) underlying95 rfl (Tryz.infoEnt b) ?_)
     | (refine QE 231 (.tmp 3) rfl rfl w.heap.size 0 rfl (v.cells t).toList _ (HRV.out _ hkc) underlying231 rfl (Tryz.infoSView v t) ?_)
     | (go_at_call 234;refine(Qn _ _).mono ?_;rintro e w4 ⟨rfl,hk4⟩;replace hkc:=hkc.trans hk4;clear hk4)
     | (go_at_call 271;refine(ZgN _ v t a b (HT.out.kept (HK0.out.trans hkc)) (HA.out.kept (HK0.out.trans hkc)) (HB.out.kept (HK0.out.trans hkc))).mono ?_;rintro e w4 ⟨rfl,hk4⟩;replace hkc:=hkc.trans hk4;clear hk4))
    go_ret
    exact⟨by rw[HR.out];rfl,HK0.out.trans hkc⟩
theorem Zj8 {w:World} {B:Nat} {ty:TypeId} {v:Zp} {t:Tab} (h:w.heap[B]? =some (.cells (v.cells t) ty (0,0))):w.rangeAt B 0 (v.cells t).toList:=fun j u hu=>by
 rw[Nat.zero_add,cell_of_row _ _ _ _ _ _ h]
 simpa using hu
def Zmp (x:Zx) (n:Nat):Bool:=x.ren && decide (0≤x.of_) && decide (x.of_ < (n:Int))
def J2 (t:Tab):Nat→Nat→Nat
 | 0,e=>e
 | k+1,e=>match t.ents[e]? with
  | none=>e
  | some x=>if Zmp x e then J2 t k x.of_.toNat else e
def Yt (t:Tab) (e:Int):Int:=if(Y9 t e).isSome then(J2 t e.toNat e.toNat:Nat)else -1
theorem Zjj {t:Tab} {m n:Nat} {x:Zx} (hx:t.ents[n]? =some x) (h:Zmp x n=true) (hm:n≤m):∃m' q:Nat,x.of_=(q:Int)∧q < n∧q≤m'∧J2 t m n=J2 t m' q:=by
 unfold Zmp at h
 simp only[Bool.and_eq_true,decide_eq_true_eq]at h
 obtain⟨⟨h0,h1⟩,h2⟩:=h
 obtain⟨q,hq⟩:=Int.eq_ofNat_of_zero_le h1
 have hqn:q < n:=by omega
 cases m with
 | zero=>omega
 | succ m=>
  refine⟨m,q,hq,hqn,by omega,?_⟩
  rw[J2,hx]
  have:Zmp x n=true:=by unfold Zmp;simp[h0,h1,h2]
  simp only[this,if_true]
  rw[hq];rfl
theorem ZlZ {t:Tab} {m n:Nat} {x:Zx} (hx:t.ents[n]? =some x) (h:Zmp x n=false):J2 t m n=n:=by
 cases m with
 | zero=>rfl
 | succ m=>rw[J2,hx];simp[h]
theorem Zip (w:World) (v:Zp) (t:Tab) (e:Int) (hT:Zw w v t):
 Calls prog 89 #[.agg (v.cells t),.int .i64 e] w (Zu4 (Yt t e) w):=by
 have HT:=hh hT
 have q1:=hT.elc
 have q2:=hT.em
 clear hT
 have HBX:Hid ((w.alloc (.cells (v.cells t) 30)).heap[w.heap.size]? =some (.cells (v.cells t) 30 (0,0))):=Zf rfl
 have HRV:Hid (∀W,Kept [] (w.alloc (.cells (v.cells t) 30)) W→W.rangeAt w.heap.size 0 (v.cells t).toList):=fun W hk=>Zj8 (hk.obj (Zf (o:= .cells (v.cells t) 30) rfl) (by simp))
 have HK0:Hid (Kept [] w (w.alloc (.cells (v.cells t) 30))):=Kept.alloc _ _ _
 have hsz:(w.alloc (.cells (v.cells t) 30)).heap.size=w.heap.size+1:=by simp
 unfold Zp.cells at*
 go_enter func89,ntmps89
 go_upto_region 1 with(fail)
 refine Zm ?_
 intro w0 hw0
 rw[←hw0]at HRV HK0 HBX hsz
 have HSZ:=hh hsz
 have hkc:Kept [] w0 w0:=Kept.refl _ _
 clear hw0 hsz
 go_upto_region 2 with(first
  | (refine wpList_load_mid rfl 30 (.tmp 3) rfl w.heap.size 0 rfl _ _ (HRV.out _ hkc) underlying30 rfl Tryz.sizeTab ?_)
  | (refine wpList_load_mid rfl 30 (.tmp 2) rfl w.heap.size 0 rfl _ _ (HRV.out _ hkc) underlying30 rfl Tryz.sizeTab ?_)
  | (go_at_call 161;refine(ZhG _ v t e (HT.out.kept (HK0.out.trans hkc))).mono ?_;rintro e w1 ⟨rfl,hk1⟩;replace hkc:=hkc.trans hk1;clear hk1))
 refine Zm ?_
 intro w2 hw2
 have hba:w2.heap[w1.heap.size]? =some (.cells (JJ t e).cells.toArray 95 (0,0)):=by rw[hw2];exact heap_alloc_new _ _
 have hk2:Kept [] w1 w2:=by rw[hw2];exact Kept.alloc _ _ _
 have HK2:=hh (hkc.trans hk2)
 have hle:=(hkc.size)
 rw[HSZ.out]at hle
 have HBA:=hh hba
 clear hw2 hba hk2 hkc
 generalize hB1:w1.heap.size=B1 at*
 clear hB1
 cases ha:(Y9 t e).isSome
 ·have HR:Hid (Yt t e= -1):=by simp[Hid,Yt,ha]
  go_wp2_with fail
  go_ret
  rw[HR.out]
  exact⟨rfl,HK0.out.trans HK2.out⟩
 ·obtain⟨n,x,rfl,hx,hxe⟩:∃(n:Nat) (x:Zx),e=(n:Int)∧t.ents[n]? =some x∧JJ t e=x:=by
   unfold JJ
   unfold Y9 at ha⊢
   by_cases h0:e < 0
   ·simp[h0]at ha
   ·obtain⟨n,rfl⟩:=Int.eq_ofNat_of_zero_le (by omega:0≤e)
    rw[if_neg h0]at ha⊢
    obtain⟨x,hx⟩:=Option.isSome_iff_exists.1 ha
    exact⟨n,x,rfl,by simpa using hx,by rw[hx];rfl⟩
  have HR:Hid (Yt t (n:Int)=(J2 t n n:Nat)):=by simp[Hid,Yt,ha]
  have HX0:=hh hx
  rw[hxe]at HBA
  clear ha hxe hx
  have hB0:w.heap.size≠B1:=by omega
  have HVC:Hid (∀W,Kept [B1] w2 W→W.cell? ⟨w.heap.size,2,none⟩=some (.slice v.ea t.ents.length v.ec)):=fun W hk=>
   hk.cell (HRV.out _ HK2.out 2 (.slice v.ea t.ents.length v.ec) rfl) (by simp;omega)
  go_wp2_with fail
  go_loopw [1] (fun s wr=>∃(q m:Nat) (y:Zx),s= .int .i64 q∧t.ents[q]? =some y∧q≤m∧J2 t m q=J2 t n n∧wr.heap[B1]? =some (.cells y.cells.toArray 95 (0,0))∧Kept [B1] w2 wr) (fun s _=>(intOf s).toNat)
  case atStart=>exact⟨n,n,x,rfl,HX0.out,Nat.le_refl _,rfl,HBA.out,Kept.refl _ _⟩
  case round=>
   obtain⟨q,m,y,rfl,hy,hqm,hbn,hb,hkr⟩:=hrel
   have HY:=hh hy
   have HBN:=hh hbn
   have HBB:=hh hb
   have HKR:=hh hkr
   have c7:=Zz (x:=y) hb 7 rfl
   have c8:=Zz (x:=y) hb 8 rfl
   have HKW:Hid (Kept [] w wr):=(HK0.out.trans HK2.out).above hkr (fun z hz=>by simp at hz;omega)
   clear hy hbn hb hkr
   cases hrb:Zmp y q
   ·have HE:Hid (J2 t n n=q):=by rw[Hid,←HBN.out];exact ZlZ HY.out hrb
    have HQ:Hid (y.ren=false∨¬0≤y.of_∨¬y.of_ < (q:Int)):=by
     rw[Hid]
     unfold Zmp at hrb
     cases h1:y.ren
     ·exact .inl rfl
     ·right
      rw[h1]at hrb
      by_cases h2:0≤y.of_
      ·right
       intro h3
       simp[h2,h3]at hrb
      ·exact .inl h2
    clear hrb
    rcases HQ.out with h1 | h1 | h1
    ·go_wp2_with fail
     go_ret
     rw[HR.out,HE.out]
     exact⟨rfl,HKW.out⟩
    ·cases h2:y.ren
     ·go_wp2_with fail
      go_ret
      rw[HR.out,HE.out]
      exact⟨rfl,HKW.out⟩
     ·go_wp2_with fail
      go_ret
      rw[HR.out,HE.out]
      exact⟨rfl,HKW.out⟩
    ·cases h2:y.ren
     ·go_wp2_with fail
      go_ret
      rw[HR.out,HE.out]
      exact⟨rfl,HKW.out⟩
     ·by_cases h3:0≤y.of_
      ·have hd:decide (y.of_ < (q:Int))=false:=by simpa using h1
       have hge:(q:Int)≤y.of_:=by omega
       go_wp2_with fail
       go_ret
       rw[HR.out,HE.out]
       exact⟨rfl,HKW.out⟩
      ·exact absurd (by omega:y.of_ < (q:Int)) h1
   ·obtain⟨m',p,hp,hpq,hpm,hbs⟩:=Zjj HY.out hrb hqm
    have hrn:y.ren=true:=by
     unfold Zmp at hrb
     cases h1:y.ren
     ·rw[h1]at hrb;simp at hrb
     ·rfl
    have HBS:Hid (J2 t m' p=J2 t n n):=by rw[Hid,←HBN.out,hbs]
    have hql:=(List.getElem?_eq_some_iff.1 HY.out).1
    obtain⟨z,hz⟩:∃z,t.ents[p]? =some z:=⟨_,List.getElem?_eq_getElem (by omega)⟩
    rw[hp]at c7
    rw[hrn]at c8
    obtain⟨b,o,hea,hr⟩:=(HT.out.kept HKW.out).es.some_ hz
    have HRZ:=hh (hr p z hz)
    have HZ:=hh hz
    have cv:=HVC.out wr HKR.out
    rw[hea]at cv
    have hpl:p < t.ents.length:=by omega
    clear hrb hbs hp hz hr hrn
    go_wp2_with (first
     | (refine wpList_load_mid rfl 95 (.tmp 34) rfl b (o+p*22) rfl z.cells _ HRZ.out underlying95 rfl (Tryz.infoEnt z) ?_)
     | (refine QQ rfl 95 (.tmp 5) (.tmp 35) rfl B1 _ z.cells.toArray rfl HBB.out rfl (Tryz.infoEnt z) rfl z.one ?_;intro w5 hb5 hk5;have HB5:=hh hb5;have HK5:=hh (HKR.out.trans hk5);clear hb5 hk5))
    go_frame
    go_roundw
    case rel=>exact⟨p,m',z,rfl,HZ.out,hpm,HBS.out,HB5.out,HK5.out⟩
    case measure=>simp[intOf];omega
theorem ZdO {P:Program} (w:World) (dT sT ty elem:TypeId) (k g o dLen dCap:Nat) (a:Addr) (sLen sCap:Nat) (cur:Array Value) (t:TypeId) (cs:List Value)
 (hu:P.underlying dT=some (.slice elem)) (hs:(P.info? elem).map (·.size)=some k)
 (hg:w.heap[g]? =some (.cells cur t (0,0))) (hn:cs.length=Nat.min sLen dLen*k)
 (hsrc:∀j v,cs[j]? =some v→w.cell? (a.add j)=some v) (hfit:o+cs.length≤cur.size) (h1:∀v∈cs,v.oneCell'=true):
 (Builtin.copy_ #[dT,sT] ty #[.slice (some ⟨g,o,none⟩) dLen dCap,.slice (some a) sLen sCap]).run P w=
  .ok (goInt (Nat.min sLen dLen)) (w.setRow g (cur.toList.take o++cs++cur.toList.drop (o+cs.length)).toArray):=by
 have hl:=run_loadCells_list (P:=P) w a cs hsrc
 have hst:=run_storeCells_at P g o t cs 0 cur w hg (by simpa using hfit) h1
 cases hq:P.info? elem with
 | none=>simp[hq]at hs
 | some i=>
  have hi:i.size=k:=by simpa [hq]using hs
  simp[Builtin.copy_,run_underlying hu,Builtin.lenOf,Builtin.firstCells,sizeOf,typeInfo,hq,hi,←hn,hl,hst]
theorem Qw {P:Program} {w:World} {ops:Array Oper} {rest:List Oper} {op:Oper} {a:Act} {Q:Exit→Act→World→Prop} (hgd:op.guard=none) (d s:Operand) (dT sT:TypeId)
 (ho:op.op= .call {callee:= .builtin .copy,args:=#[d,s],argTypes:=#[dT,sT]}) (elem:TypeId) (k:Nat) (hu:P.underlying dT=some (.slice elem)) (hsz:(P.info? elem).map (·.size)=some k)
 (g o dLen dCap:Nat) (ad:Addr) (sLen sCap:Nat) (hd:a.eval d= .slice (some ⟨g,o,none⟩) dLen dCap) (hs:a.eval s= .slice (some ad) sLen sCap)
 (cur:Array Value) (t:TypeId) (hg:w.heap[g]? =some (.cells cur t (0,0))) (cs:List Value) (hn:cs.length=Nat.min sLen dLen*k)
 (hsrc:∀j v,cs[j]? =some v→w.cell? (ad.add j)=some v) (hfit:o+cs.length≤cur.size) (h1:∀v∈cs,v.oneCell'=true)
 (h:∀w',w'.heap[g]? =some (.cells (cur.toList.take o++cs++cur.toList.drop (o+cs.length)).toArray t (0,0))→w.grownBy w' (some g)→wpList P ops Q rest (a.put op.dst (goInt (Nat.min sLen dLen))) w'):
 wpList P ops Q (op::rest) a w:=by
 refine wpList_plain hgd fun K hK=>?_
 have hrun:=ZdO (P:=P) w dT sT op.type elem k g o dLen dCap ad sLen sCap cur t cs hu hsz hg hn hsrc hfit h1
 unfold Oper.wp
 simp[execOp,ho,resolve,invoke,builtin,hd,hs,hrun,Result.andThen]
 exact hK _ _ (h _ (by simpa using setRow_heap w g _ _ t _ hg) ⟨rfl,rfl,rfl,by simp[World.setRow],fun q hq hne=>setRow_other w g q _ (fun e=>hne (by rw[e]))⟩)
def flM (l:List MeV):List Value:=(l.map MeV.cells).flatten
theorem Qk (l:List MeV):(flM l).length=l.length*12:=by
 induction l with
 | nil=>rfl
 | cons a l ih=>
  have e:flM (a::l)=a.cells++flM l:=by simp[flM]
  rw[e,List.length_append,ih,List.length_cons,MeV.len]
  omega
theorem Zd9 (l k:List MeV):flM (l++k)=flM l++flM k:=by simp[flM]
theorem ZbL (l:List MeV):∀i,(flM l).take (i*12)=flM (l.take i):=by
 induction l with
 | nil=>intro i;simp[flM]
 | cons a l ih=>
  intro i
  cases i with
  | zero=>simp[flM]
  | succ i=>
   have e:flM (a::l)=a.cells++flM l:=by simp[flM]
   have e2:flM ((a::l).take (i+1))=a.cells++flM (l.take i):=by simp[flM]
   rw[e,e2,List.take_append,List.take_of_length_le (by rw[MeV.len];omega),MeV.len,show(i+1)*12 - 12=i*12 by omega,ih]
theorem Zd8 (l:List MeV) (i:Nat):(flM l).drop (i*12)=flM (l.drop i):=by
 have h1:=List.take_append_drop (i*12) (flM l)
 have h2:flM (l.take i)++flM (l.drop i)=flM l:=by rw[←Zd9,List.take_append_drop]
 rw[ZbL]at h1
 exact List.append_cancel_left (h1.trans h2.symm)
theorem Zla (l:List MeV):∀v,v∈flM l→v.oneCell'=true:=by
 intro v hv
 obtain⟨r,hr,hv⟩:=List.mem_flatten.1 hv
 obtain⟨m,_,rfl⟩:=List.mem_map.1 hr
 have:=m.one
 simp only[List.all_toArray]at this
 exact List.all_eq_true.1 this v hv
def Zbf (w:World) (base:Nat) (v:Value) (l:List MeV):Prop:=w.ownsRow base 114 12 v l.length (flM l)
theorem Zbf.nil (w:World) (base:Nat):Zbf w base (.slice none 0 0) []:=World.ownsRow_nil _ _ _ _
theorem Zbf.rows {w:World} {base:Nat} {v:Value} {l:List MeV} (h:Zbf w base v l):∃A c,v= .slice A l.length c∧l.length≤c∧c≤9223372036854775807∧(A=none→c=0)∧Zo MeV 12 MeV.cells w A l:=YF h (fun m=>m.len) rfl
theorem Zbf.keep {w w':World} {base:Nat} {v:Value} {l:List MeV} {X:List Nat} (h:Zbf w base v l) (hk:Kept X w w') (hx:∀k,v.ownBlock=some k→k∉X):Zbf w' base v l:=Zk h hk hx
theorem Zbf.base' {w:World} {base base':Nat} {v:Value} {l:List MeV} (h:Zbf w base v l) (hb:base'≤base):Zbf w base' v l:=Z7 h hb
def Zdn (l:List MeV) (i:Nat) (m:MeV):List MeV:=l.take i++m::l.drop i
theorem Jt {l:List MeV} {i:Nat} (m:MeV) (h:i≤l.length):(Zdn l i m).length=l.length+1:=by
 simp[Zdn];omega
theorem Zh6 (l:List MeV) (m:MeV):Zdn l l.length m=l++ [m]:=by simp[Zdn]
def JR (base:Nat) (v:Value) (l:List MeV) (w:World) (e:Ending) (w':World):Prop:=
 ∃v',e= .returned v'∧Zbf w' base v' l∧w.grownBy w' v.ownBlock∧(v'.ownBlock=v.ownBlock∨∃b,v'.ownBlock=some b∧w.heap.size≤b)
theorem ZkL:(prog.info? 114).map (fun i=>(i.zero,i.size,i.bytes))=some (some (.agg zeroMe.cells.toArray),12,128):=by kernel_rfl
theorem ZdY:(prog.info? 114).map (·.size)=some 12:=by kernel_rfl
theorem ZkK (w:World):(Go.sizeOf 114).run prog w= .ok 12 w:=by kernel_rfl
theorem Zlb (l:List MeV) (i:Nat) (m:MeV):flM (Zdn l i m)=flM (l.take i)++m.cells++flM (l.drop i):=by simp[Zdn,flM]
theorem Zqy {cur:List Value} {l:List MeV} {i:Nat} {m:MeV} (htk:cur.take (l.length*12)=flM l) (hi:i < l.length):
 (cur.take ((i+1)*12)++flM (l.drop i)++cur.drop ((i+1)*12+(flM (l.drop i)).length)).take (i*12)++m.cells++
  (cur.take ((i+1)*12)++flM (l.drop i)++cur.drop ((i+1)*12+(flM (l.drop i)).length)).drop (i*12+m.cells.length)=flM (Zdn l i m)++cur.drop ((i+1)*12+(flM (l.drop i)).length):=by
 have hlc:(l.length)*12≤cur.length:=by
  have:=congrArg List.length htk
  rw[List.length_take,Qk]at this
  omega
 have hl1:(cur.take ((i+1)*12)).length=(i+1)*12:=by rw[List.length_take];omega
 have e1:(cur.take ((i+1)*12)).take (i*12)=flM (l.take i):=by
  rw[List.take_take,Nat.min_eq_left (by omega),←ZbL,←htk,List.take_take,Nat.min_eq_left (by omega)]
 generalize hA:cur.take ((i+1)*12)=A at*
 generalize cur.drop ((i+1)*12+(flM (l.drop i)).length)=D
 have e2:(A++flM (l.drop i)++D).take (i*12)=flM (l.take i):=by
  rw[List.append_assoc,List.take_append_of_le_length (by omega),e1]
 have e3:(A++flM (l.drop i)++D).drop (i*12+m.cells.length)=flM (l.drop i)++D:=by
  rw[List.append_assoc,MeV.len,show i*12+12=A.length by omega,List.drop_left]
 rw[e2,e3,Zlb]
 simp only[List.append_assoc]
theorem Zg6 (w:World) (base g cap:Nat) (cur:Array Value) (l:List MeV) (i:Nat) (m:MeV) (B:Nat) (hbg:base≤g) (hg:w.heap[g]? =some (.cells cur 114 (0,0))) (hnc:l.length+1≤cap) (hcm:cap≤maxLen)
 (hcs:cur.size=cap*12) (htk:cur.toList.take (l.length*12)=flM l) (hi:i < l.length) (hl:l.length≤1000000000) (hB:w.heap[B]? =some (.cells m.cells.toArray 114 (0,0))) (hne:B≠g):
 Calls prog 172 #[.slice (some ⟨g,0,none⟩) l.length cap,.int .i64 i,.slice (some ⟨B,0,none⟩) 1 1] w (JR base (.slice (some ⟨g,0,none⟩) l.length cap) (Zdn l i m) w):=by
 unfold maxLen at hcm
 have hov:∀o lb cb,(callFunc 245 #[.slice (some ⟨B,0,none⟩) 1 1,.slice (some ⟨g,o,none⟩) lb cb]).run prog w= .ok (.value (.bool false)) w:=fun o lb cb=>by
  rw[run_callFunc_extern func245 (by kernel_rfl) (by kernel_rfl) (by kernel_rfl) (e:=Extern.SlicesOverlaps.overlaps #[140,140] #[4]) (by kernel_rfl),
   Lib.run_overlaps_apart w 140 4 114 underlying140 12 ZkK ⟨B,0,none⟩ ⟨g,o,none⟩ 1 1 lb cb hne 114 114 12 cur.size (by simp[World.shape?,hB];rfl) (by simp[World.shape?,hg]) (by omega) (by simp[World.frozen?,hB]) (by simp[World.frozen?,hB])]
  rfl
 have HG:=hh hg
 have HB:=hh hB
 have HTK:=hh htk
 have HCS:=hh hcs
 have h1:((i:Int) == (l.length:Int))=false:=by simp;omega
 have h2:¬(cap:Int) < (l.length:Int)+1:=by omega
 have h3:(i:Int)≤(l.length:Int):=by omega
 have h4:¬(cap=i):=by omega
 have h5:¬(cap=i+1):=by omega
 have h6:((i:Int)+1).toNat=i+1:=by omega
 have h7:(i:Int)+1≤(l.length:Int)+1:=by omega
 clear hg hB htk hcs
 go_enter func172,ntmps172
 go_wp2_with (simp only[hov])
 clear hov
 refine Ze 8 0 (fun _=> .cells #[] 0) (by kernel_rfl) (by kernel_rfl) (fun i o h1 h2=>by omega) (fun _ _ _ _ _ h=>h) ?_;apply Exists.intro;refine⟨fun U hU hN=>?_,?_⟩;simp only[List.take_succ_cons,List.take_zero]
 ·repeat(go_big_quiet_step (fail))
  refine wpQuiet_nil ?_
  exact rfl
 simp only[List.drop_succ_cons,List.drop_zero,List.take_succ_cons,List.take_zero]
 intro w4 hk4 _
 have HK4:=hh hk4
 have hcl:(i+1)*12+(flM (l.drop i)).length≤cur.size:=by rw[HCS.out,Qk,List.length_drop];omega
 have hmin:Nat.min (l.length+1 - i) (l.length+1 - (i+1))=l.length - i:=by simp only[Nat.min_def];split <;> omega
 have hlen:(flM (l.drop i)).length=Nat.min (l.length+1 - i) (l.length+1 - (i+1))*12:=by rw[Qk,List.length_drop,hmin]
 refine Qw rfl _ _ 140 140 rfl 114 12 underlying140 ZdY g ((i+1)*12) (l.length+1 - (i+1)) (cap - (i+1)) ⟨g,i*12,none⟩ (l.length+1 - i) (cap - i) ?_ ?_ cur 114 (HK4.out.obj HG.out (by simp)) (flM (l.drop i)) hlen ?_ hcl (Zla _) ?_
 ·simp[Act.eval,Act.put]
 ·simp[Act.eval,Act.put]
 ·intro j v hj
  rw[Addr.add_mid,cell_of_row _ _ _ _ _ _ (HK4.out.obj HG.out (by simp)),←Array.getElem?_toList]
  have hjl:j < (flM (l.drop i)).length:=(List.getElem?_eq_some_iff.1 hj).1
  rw[Qk,List.length_drop]at hjl
  have e:cur.toList[i*12+j]? =(flM l)[i*12+j]? :=by
   rw[←HTK.out,List.getElem?_take,if_pos (by omega)]
  rw[e]
  rw[←Zd8,List.getElem?_drop]at hj
  exact hj
 intro w5 hg5 hgr5
 have HG5:=hh hg5
 have HGR5:=hh hgr5
 have HB5:Hid (w5.heap[B]? =some (.cells m.cells.toArray 114 (0,0))):=by
  have h0:=HK4.out.obj HB.out (by simp)
  rw[Hid,hgr5.block B (Array.getElem?_eq_some_iff.1 h0).1 (by simpa using hne)]
  exact h0
 have HL5:Hid ((cur.toList.take ((i+1)*12)++flM (l.drop i)++cur.toList.drop ((i+1)*12+(flM (l.drop i)).length)).length=cap*12):=by
  have:=HCS.out
  rw[←Array.length_toList]at this
  rw[Hid,List.length_append,List.length_append,List.length_take,List.length_drop]
  rw[←Array.length_toList]at hcl
  omega
 clear hg5 hgr5 hk4 hcl hmin hlen
 have hm1:m.cells.length=Nat.min 1 (l.length+1 - i)*12:=by rw[MeV.len];simp only[Nat.min_def];split <;> omega
 have hm2:∀j v,m.cells[j]? =some v→w5.cell? ((⟨B,0,none⟩:Addr).add j)=some v:=fun j v hj=>by
  rw[Addr.add_mid,Nat.zero_add,cell_of_row _ _ _ _ _ _ HB5.out]
  simpa using hj
 have hm3:i*12+m.cells.length≤(cur.toList.take ((i+1)*12)++flM (l.drop i)++cur.toList.drop ((i+1)*12+(flM (l.drop i)).length)).toArray.size:=by
  have:=HL5.out
  rw[MeV.len]
  simp only[List.size_toArray]
  omega
 have hm4:∀v,v∈m.cells→v.oneCell'=true:=fun v hv=>by
  have:=m.one
  simp only[List.all_toArray]at this
  exact List.all_eq_true.1 this v hv
 go_wp2_with (refine Qw rfl (.tmp 80) (.tmp 81) 140 140 rfl 114 12 underlying140 ZdY g (i*12) (l.length+1 - i) (cap - i) ⟨B,0,none⟩ 1 1 rfl rfl _ 114 HG5.out m.cells hm1 hm2 hm3 hm4 ?_;intro w6 hg6 hgr6;have HG6:=hh hg6;have HGR6:=hh hgr6;clear hg6 hgr6 hm1 hm2 hm3 hm4)
 refine bodyPost_ret (v:= .slice (some ⟨g,0,none⟩) (l.length+1) cap) (by simp[results,results172,go_sem]) rfl ?_
 have hrow:=Zqy (m:=m) HTK.out hi
 have hg6:=HG6.out
 rw[List.toList_toArray,hrow]at hg6
 have hlen2:(flM (Zdn l i m)++cur.toList.drop ((i+1)*12+(flM (l.drop i)).length)).length=cap*12:=by
  have h1:=congrArg List.length hrow
  have h2:=HL5.out
  simp only[List.length_append,List.length_take,List.length_drop,Qk,MeV.len,Jt m (Nat.le_of_lt hi),Array.length_toList]at h1 h2⊢
  have:=HCS.out
  omega
 refine⟨_,rfl,⟨by rw[Qk],.inr ⟨g,cap,_,by rw[Jt m (Nat.le_of_lt hi)],hbg,hg6,by rw[Jt m (Nat.le_of_lt hi)];exact hnc,by unfold maxLen;exact hcm,by simpa using hlen2,?_⟩⟩,?_,.inl rfl⟩
 ·rw[←Qk]
  exact List.take_left
 ·have hk:=HK4.out
  exact⟨HGR6.out.os.trans (HGR5.out.os.trans hk.os),HGR6.out.tape.trans (HGR5.out.tape.trans hk.tape),HGR6.out.output.trans (HGR5.out.output.trans hk.output),Nat.le_trans hk.size (Nat.le_trans HGR5.out.size HGR6.out.size),fun q hq hne2=>
   ((HGR6.out.block q (Nat.lt_of_lt_of_le hq (Nat.le_trans hk.size HGR5.out.size)) hne2).trans (HGR5.out.block q (Nat.lt_of_lt_of_le hq hk.size) hne2)).trans (hk.block q hq (by simp))⟩
theorem ZaY {P:Program} {w:World} {ops:Array Oper} {rest:List Oper} {o:Oper} {a:Act} {Q:Exit→Act→World→Prop} (hgd:o.guard=none) (s x:Operand) (t tn:TypeId)
 (ho:o.op= .call {callee:= .builtin .append,args:=#[s,x],argTypes:=#[t,tn]}) (u y:Value) (hs:a.eval s=u) (hx:a.eval x=y) {v':Value} {w':World}
 (hr:(Builtin.append_ #[t,tn] o.type #[u,y]).run P w= .ok v' w') (h:wpList P ops Q rest (a.put o.dst v') w'):wpList P ops Q (o::rest) a w:=by
 refine wpList_plain hgd fun K hK=>?_
 unfold Oper.wp execOp
 simp only[ho,resolve,invoke,builtin,Sem.run_bind,Sem.run_pure,Result.andThen_ok,List.map_toArray,List.map_cons,List.map_nil,hs,hx,hr]
 exact hK _ _ h
theorem Yq (m:MeV):∀v,v∈m.cells→v.oneCell'=true:=fun v hv=>by
 have:=m.one
 simp only[List.all_toArray]at this
 exact List.all_eq_true.1 this v hv
theorem Zak {w:World} {B:Nat} {m:MeV} (h:w.heap[B]? =some (.cells m.cells.toArray 114 (0,0))):∀j v,m.cells[j]? =some v→w.cell? ((⟨B,0,none⟩:Addr).add j)=some v:=fun j v hj=>by
 rw[Addr.add_mid,Nat.zero_add,cell_of_row _ _ _ _ _ _ h]
 simpa using hj
theorem Zct {w:World} {g:Nat} {cur:Array Value} {l:List MeV} (hg:w.heap[g]? =some (.cells cur 114 (0,0))) (htk:cur.toList.take (l.length*12)=flM l) (i:Nat):
 ∀j v,(flM (l.drop i))[j]? =some v→w.cell? ((⟨g,i*12,none⟩:Addr).add j)=some v:=by
 intro j v hj
 rw[Addr.add_mid,cell_of_row _ _ _ _ _ _ hg,←Array.getElem?_toList]
 have hjl:j < (flM (l.drop i)).length:=(List.getElem?_eq_some_iff.1 hj).1
 rw[Qk,List.length_drop]at hjl
 have e:cur.toList[i*12+j]? =(flM l)[i*12+j]? :=by
  rw[←htk,List.getElem?_take,if_pos (by omega)]
 rw[e]
 rw[←Zd8,List.getElem?_drop]at hj
 exact hj
theorem Zi1 (w:World) (base:Nat) (v:Value) (l:List MeV) (m:MeV) (B:Nat) (hO:Zbf w base v l) (hl:l.length≤1000000000) (hB:w.heap[B]? =some (.cells m.cells.toArray 114 (0,0))) (hbase:base≤w.heap.size):
 Calls prog 172 #[v,.int .i64 l.length,.slice (some ⟨B,0,none⟩) 1 1] w (JR base v (Zdn l l.length m) w):=by
 obtain⟨i0,hi0,hz0,hzs,hzb⟩:=info_parts ZkL
 have HM:=hh (Zak hB)
 have hb1:l.length+1≤maxLen:=by unfold maxLen;omega
 have hb2:(l.length+1)*128≤140737488355328:=by omega
 have HO:=hh hO
 clear hB
 rcases hO.2 with⟨rfl,hn⟩ | ⟨g,cap,cur,rfl,hbg,hg,hnc,hcm,hcs,htk⟩
 ·obtain rfl:l= []:=List.eq_nil_of_length_eq_zero hn
  clear hO hn
  simp only[List.length_nil]at*
  have HE:Hid (Zdn [] 0 m= [m]):=rfl
  go_enter func172,ntmps172
  go_wp2_with (at_builtin;refine wpList_append_own_at _ rfl (.tmp 23) (.tmp 24) 140 rfl base 114 i0 (.agg zeroMe.cells.toArray) 12 128 underlying140 hi0 hz0 hzs hzb rfl (by decide) _ _ _ rfl HO.out ⟨B,0,none⟩ 1 1 m.cells rfl (by rw[MeV.len]) HM.out (Yq m) hb1 hb2 hbase ?_;intro v6 w6 ho6 hg6 _ hat6;have HO6:=hh ho6;have HG6:=hh hg6;have HA6:=hh hat6;clear ho6 hg6 hat6)
  refine bodyPost_ret (v:=v6) (by simp[results,results172,go_sem]) rfl ?_
  refine⟨v6,rfl,?_,HG6.out,HA6.out.imp (fun h=>h) (fun h=>⟨_,h,Nat.le_refl _⟩)⟩
  rw[HE.out]
  have:=HO6.out
  unfold Zbf
  rw[show flM [m]=m.cells by simp[flM]]
  exact this
 ·clear hO hg hcs htk
  unfold maxLen at hcm
  by_cases hc:cap=l.length
  ·subst hc
   go_enter func172,ntmps172
   go_wp2_with (at_builtin;refine wpList_append_own_at _ rfl (.tmp 23) (.tmp 24) 140 rfl base 114 i0 (.agg zeroMe.cells.toArray) 12 128 underlying140 hi0 hz0 hzs hzb rfl (by decide) _ _ _ rfl HO.out ⟨B,0,none⟩ 1 1 m.cells rfl (by rw[MeV.len]) HM.out (Yq m) hb1 hb2 hbase ?_;intro v6 w6 ho6 hg6 _ hat6;have HO6:=hh ho6;have HG6:=hh hg6;have HA6:=hh hat6;clear ho6 hg6 hat6)
   refine bodyPost_ret (v:=v6) (by simp[results,results172,go_sem]) rfl ?_
   refine⟨v6,rfl,?_,HG6.out,HA6.out.imp (fun h=>h) (fun h=>⟨_,h,Nat.le_refl _⟩)⟩
   have:=HO6.out
   rw[Zh6]
   unfold Zbf
   rw[Zd9,List.length_append,show flM [m]=m.cells by simp[flM]]
   exact this
  ·go_enter func172,ntmps172
   go_wp2_with (at_builtin;refine wpList_append_own_at _ rfl (.tmp 23) (.tmp 24) 140 rfl base 114 i0 (.agg zeroMe.cells.toArray) 12 128 underlying140 hi0 hz0 hzs hzb rfl (by decide) _ _ _ rfl HO.out ⟨B,0,none⟩ 1 1 m.cells rfl (by rw[MeV.len]) HM.out (Yq m) hb1 hb2 hbase ?_;intro v6 w6 ho6 hg6 _ hat6;have HO6:=hh ho6;have HG6:=hh hg6;have HA6:=hh hat6;clear ho6 hg6 hat6)
   refine bodyPost_ret (v:=v6) (by simp[results,results172,go_sem]) rfl ?_
   refine⟨v6,rfl,?_,HG6.out,HA6.out.imp (fun h=>h) (fun h=>⟨_,h,Nat.le_refl _⟩)⟩
   have:=HO6.out
   rw[Zh6]
   unfold Zbf
   rw[Zd9,List.length_append,show flM [m]=m.cells by simp[flM]]
   exact this
theorem ZnN {l:List MeV} {i:Nat} {m:MeV} {Z D:List Value} (hi:i < l.length) (hZ:Z.length=12+(flM (l.drop i)).length+D.length):
 ∃D',((flM (l.take i)++Z).take (i*12)++m.cells++(flM (l.take i)++Z).drop (i*12+m.cells.length)).take ((i+1)*12)++flM (l.drop i)++
  ((flM (l.take i)++Z).take (i*12)++m.cells++(flM (l.take i)++Z).drop (i*12+m.cells.length)).drop ((i+1)*12+(flM (l.drop i)).length)=flM (Zdn l i m)++D'∧D'.length=D.length:=by
 have hl:(flM (l.take i)).length=i*12:=by rw[Qk,List.length_take,Nat.min_eq_left (by omega)]
 have e1:(flM (l.take i)++Z).take (i*12)=flM (l.take i):=by rw[←hl,List.take_left]
 have e2:(flM (l.take i)++Z).drop (i*12+m.cells.length)=Z.drop 12:=by
  rw[←hl,MeV.len,←List.drop_drop,List.drop_left]
 rw[e1,e2]
 have hc:(flM (l.take i)++m.cells).length=(i+1)*12:=by rw[List.length_append,hl,MeV.len];omega
 have e3:(flM (l.take i)++m.cells++Z.drop 12).take ((i+1)*12)=flM (l.take i)++m.cells:=by rw[←hc,List.take_left]
 have e4:(flM (l.take i)++m.cells++Z.drop 12).drop ((i+1)*12+(flM (l.drop i)).length)=(Z.drop 12).drop (flM (l.drop i)).length:=by rw[←hc,←List.drop_drop,List.drop_left]
 rw[e3,e4]
 refine⟨_,by rw[Zlb],?_⟩
 rw[List.length_drop,List.length_drop]
 omega
theorem Zg7 (w:World) (base g:Nat) (cur:Array Value) (l:List MeV) (i:Nat) (m:MeV) (B:Nat) (hg:w.heap[g]? =some (.cells cur 114 (0,0)))
 (htk:cur.toList.take (l.length*12)=flM l) (hi:i < l.length) (hl:l.length≤1000000000) (hB:w.heap[B]? =some (.cells m.cells.toArray 114 (0,0))) (hbase:base≤w.heap.size):
 Calls prog 172 #[.slice (some ⟨g,0,none⟩) l.length l.length,.int .i64 i,.slice (some ⟨B,0,none⟩) 1 1] w (JR base (.slice (some ⟨g,0,none⟩) l.length l.length) (Zdn l i m) w):=by
 obtain⟨i0,hi0,hz0,hzs,hzb⟩:=info_parts ZkL
 have HM:=hh (Zak hB)
 have HC:=hh (Zct hg htk i)
 have hold:(Builtin.firstCells i0.size i (.slice (some ⟨g,0,none⟩) i l.length)).run prog w.drew= .ok (flM (l.take i)).toArray w.drew:=by
  rw[hzs]
  refine run_firstCells_some w.drew 12 i ⟨g,0,none⟩ i l.length (flM (l.take i)) (by rw[Qk,List.length_take,Nat.min_eq_left (by omega)]) (fun j v hj=>?_)
  rw[Addr.add_mid,Nat.zero_add]
  have hc0:=Zct hg htk 0 j v
  rw[Nat.zero_mul,List.drop_zero,Addr.add_mid,Nat.zero_add]at hc0
  rw[←ZbL,List.getElem?_take]at hj
  split at hj
  ·exact hc0 hj
  ·cases hj
 have hrz:=fun ty=>Lib.run_append_grow_zeros w 140 3 ty 114 i0 _ .i64 .i64 underlying140 underlying3 hi0 hz0 (some ⟨g,0,none⟩) i l.length (flM (l.take i)) hold (l.length+1 - i) (by omega) (by omega) (by omega) (by omega) (by rw[hzb];omega) (by rw[hzb];exact growslice_fits (by omega) (by omega))
 have HG0:=hh hg
 have HTK:=hh htk
 have HB0:=hh hB
 have hgr:=grownCap_ge w (i+(l.length+1 - i)) l.length 114
 have hgm:=grownCap_le_maxLen w (i+(l.length+1 - i)) l.length 114 (by unfold maxLen;omega)
 unfold maxLen at hgm
 generalize grownCap w (i+(l.length+1 - i)) l.length 114=G at*
 obtain⟨Z,hZ⟩:∃Z:List Value,Z=(Builtin.zeroCells (Value.agg zeroMe.cells.toArray).cells (l.length+1 - i)++Builtin.zeroCells (Value.agg zeroMe.cells.toArray).cells (G - (i+(l.length+1 - i)))).toList:=⟨_,rfl⟩
 have hZl:Z.length=(G - i)*12:=by
  rw[hZ,Array.length_toList,Array.size_append,size_zeroCells,size_zeroCells,show((Value.agg zeroMe.cells.toArray).cells).size=12 from rfl]
  omega
 have hrow:(flM (l.take i)).toArray++Builtin.zeroCells (Value.agg zeroMe.cells.toArray).cells (l.length+1 - i)++Builtin.zeroCells (Value.agg zeroMe.cells.toArray).cells (G - (i+(l.length+1 - i)))=(flM (l.take i)++Z).toArray:=by
  rw[hZ]
  apply Array.ext'
  simp
 have hii:i+(l.length+1 - i)=l.length+1:=by omega
 rw[hrow,hii]at hrz
 have HRZ:=hh hrz
 have HZL:=hh hZl
 have h1:((i:Int) == (l.length:Int))=false:=by simp;omega
 have h2:(l.length:Int) < (l.length:Int)+1:=by omega
 have h3:(i:Int)≤(l.length:Int):=by omega
 have h4:¬(l.length=i):=by omega
 have h5:¬(G=i):=by omega
 have h6:((i:Int)+1).toNat=i+1:=by omega
 have h7:¬(G=i+1):=by omega
 have h8:((l.length:Int)+1 - (i:Int))=((l.length+1 - i:Nat):Int):=by omega
 have hge:l.length+1≤G:=by omega
 obtain⟨W1,hW1⟩:∃W1,W1=w.drew.alloc (.cells (flM (l.take i)++Z).toArray 114):=⟨_,rfl⟩
 have HK1:Hid (Kept [] w W1):=by rw[Hid,hW1];exact((Kept.refl [] w).drew').alloc' _
 have HN1:Hid (W1.heap[w.heap.size]? =some (.cells (flM (l.take i)++Z).toArray 114 (0,0))):=by rw[Hid,hW1];exact heap_alloc_new w.drew _
 have HM1:=hh (Zak (HK1.out.obj HB0.out (by simp)))
 rw[←hW1]at HRZ
 have HW1S:Hid (w.heap.size < W1.heap.size):=by rw[Hid,hW1];simp
 have hBs:B < w.heap.size:=(Array.getElem?_eq_some_iff.1 hB).1
 have hgs:g < w.heap.size:=(Array.getElem?_eq_some_iff.1 hg).1
 have hm1:m.cells.length=Nat.min 1 (l.length+1 - i)*12:=by rw[MeV.len];simp only[Nat.min_def];split <;> omega
 have hZG:(flM (l.take i)++Z).length=G*12:=by rw[List.length_append,Qk,List.length_take,Nat.min_eq_left (by omega),hZl];omega
 have hm3:i*12+m.cells.length≤(flM (l.take i)++Z).toArray.size:=by
  rw[MeV.len,List.size_toArray,hZG]
  omega
 have HZG:=hh hZG
 clear hg hB hold hrz hZ hrow htk hZl hii hzs hzb hi0 hz0 hgr hW1 hZG
 go_enter func172,ntmps172
 go_wp2_with (first | (at_builtin;refine ZaY rfl (.tmp 34) (.tmp 39) 140 3 rfl _ _ rfl rfl (HRZ.out _) ?_) |
  (refine Qw rfl (.tmp 43) (.tmp 44) 140 140 rfl 114 12 underlying140 ZdY w.heap.size (i*12) (l.length+1 - i) (G - i) ⟨B,0,none⟩ 1 1 rfl rfl _ 114 HN1.out m.cells hm1 HM1.out hm3 (Yq m) ?_;intro w3 hg3 hgr3;have HG3:=hh hg3;have HGR3:=hh hgr3;clear hg3 hgr3 hm1 hm3))
 refine Ze 8 0 (fun _=> .cells #[] 0) (by kernel_rfl) (by kernel_rfl) (fun i o h1 h2=>by omega) (fun _ _ _ _ _ h=>h) ?_;apply Exists.intro;refine⟨fun U hU hN=>?_,?_⟩;simp only[List.take_succ_cons,List.take_zero]
 ·repeat(go_big_quiet_step (fail))
  refine wpQuiet_nil ?_
  exact rfl
 simp only[List.drop_succ_cons,List.drop_zero,List.take_succ_cons,List.take_zero]
 intro w4 hk4 _
 have HK4:=hh hk4
 have HG4:Hid (w4.heap[g]? =some (.cells cur 114 (0,0))):=by
  have h0:=HK1.out.obj HG0.out (by simp)
  rw[←HGR3.out.block g (Array.getElem?_eq_some_iff.1 h0).1 (by simp;omega)]at h0
  exact hk4.obj h0 (by simp)
 have hmin:Nat.min (l.length - i) (l.length+1 - (i+1))=l.length - i:=by simp only[Nat.min_def];split <;> omega
 have hlen:(flM (l.drop i)).length=Nat.min (l.length - i) (l.length+1 - (i+1))*12:=by rw[Qk,List.length_drop,hmin]
 have hld:(flM (l.drop i)).length=(l.length - i)*12:=by rw[Qk,List.length_drop]
 obtain⟨D',hD',hDl⟩:=ZnN (l:=l) (i:=i) (m:=m) (Z:=Z) (D:=List.replicate ((G - l.length - 1)*12) undef) hi (by have:=HZL.out;rw[hld,List.length_replicate];omega)
 rw[List.length_replicate]at hDl
 have HD:=hh hD'
 have hC1:((flM (l.take i)++Z).take (i*12)++m.cells++(flM (l.take i)++Z).drop (i*12+m.cells.length)).length=G*12:=by
  have:=HZG.out
  rw[List.length_append,List.length_append,List.length_take,List.length_drop,MeV.len]
  omega
 refine Qw rfl _ _ 140 140 rfl 114 12 underlying140 ZdY w.heap.size ((i+1)*12) (l.length+1 - (i+1)) (G - (i+1)) ⟨g,i*12,none⟩ (l.length - i) (l.length - i) ?_ ?_ _ 114 (HK4.out.obj HG3.out (by simp)) (flM (l.drop i)) hlen ?_ ?_ (Zla _) ?_
 ·simp[Act.eval,Act.put]
 ·simp[Act.eval,Act.put]
 ·exact Zct HG4.out HTK.out i
 ·rw[List.size_toArray,hC1,hld]
  omega
 intro w5 hg5 hgr5
 rw[hD']at hg5
 have HG5:=hh hg5
 have HGR5:=hh hgr5
 clear hg5 hgr5 hk4 hmin hlen hld hD' hC1
 go_wp2_with fail
 refine bodyPost_ret (v:= .slice (some ⟨w.heap.size,0,none⟩) (l.length+1) G) (by simp[results,results172,go_sem]) rfl ?_
 refine⟨_,rfl,⟨by rw[Qk],.inr ⟨w.heap.size,G,_,by rw[Jt m (Nat.le_of_lt hi)],hbase,HG5.out,by rw[Jt m (Nat.le_of_lt hi)];omega,by unfold maxLen;exact hgm,?_,?_⟩⟩,?_,.inr ⟨_,rfl,Nat.le_refl _⟩⟩
 ·rw[List.size_toArray,List.length_append,Qk,Jt m (Nat.le_of_lt hi)]
  omega
 ·rw[←Qk]
  exact List.take_left
 ·have hk:=HK1.out
  have hk4:=HK4.out
  have s1:=HW1S.out
  have s3:=HGR3.out.size
  have s4:=hk4.size
  exact⟨HGR5.out.os.trans (hk4.os.trans (HGR3.out.os.trans hk.os)),HGR5.out.tape.trans (hk4.tape.trans (HGR3.out.tape.trans hk.tape)),HGR5.out.output.trans (hk4.output.trans (HGR3.out.output.trans hk.output)),by have:=HGR5.out.size;omega,fun q hq hne2=>by
   rw[HGR5.out.block q (by omega) (by simp;omega),hk4.block q (by omega) (by simp),HGR3.out.block q (by omega) (by simp;omega)]
   exact hk.block q hq (by simp)⟩
theorem Zdm (w:World) (base:Nat) (v:Value) (l:List MeV) (i:Nat) (m:MeV) (B:Nat) (hO:Zbf w base v l) (hi:i≤l.length) (hl:l.length≤1000000000) (hB:w.heap[B]? =some (.cells m.cells.toArray 114 (0,0)))
 (hne:∀k,v.ownBlock=some k→B≠k) (hbase:base≤w.heap.size):
 Calls prog 172 #[v,.int .i64 i,.slice (some ⟨B,0,none⟩) 1 1] w (JR base v (Zdn l i m) w):=by
 rcases Nat.eq_or_lt_of_le hi with rfl | hlt
 ·exact Zi1 w base v l m B hO hl hB hbase
 rcases hO.2 with⟨rfl,hn⟩ | ⟨g,cap,cur,rfl,hbg,hg,hnc,hcm,hcs,htk⟩
 ·omega
 rcases Nat.eq_or_lt_of_le hnc with hc | hc
 ·rw[←hc]
  exact Zg7 w base g cur l i m B hg htk hlt hl hB hbase
 ·exact Zg6 w base g cap cur l i m B hbg hg hc hcm hcs htk hlt hl hB (hne g rfl)
end
end Go.Proofs.YtfaecpkocgcofaaGreatDoor
