/- Lemmas for ResolveSettles, printed small: L3. -/
import Derived.Test.YtfaecpkocgcofaaGreatDoorZ44
set_option linter.all false
set_option maxRecDepth 100000
set_option maxHeartbeats 8000000
open Go.Proofs.Tryz
namespace Go.Proofs.YtfaecpkocgcofaaGreatDoor
section
open Go.RowKit
def Zav:List ByteArray:=[⟨#[83,116,97,110,100,97,114,100]⟩,⟨#[73,110,116,101,103,101,114]⟩,⟨#[66,111,111,108,101,97,110]⟩,⟨#[70,97,108,115,101]⟩,⟨#[84,114,117,101]⟩,⟨#[84,105,109,101]⟩,⟨#[78,97,116,117,114,97,108]⟩,⟨#[80,111,115,105,116,105,118,101]⟩,⟨#[67,111,110,115,116,114,97,105,110,116,95,69,114,114,111,114]⟩,⟨#[80,114,111,103,114,97,109,95,69,114,114,111,114]⟩,⟨#[84,97,115,107,105,110,103,95,69,114,114,111,114]⟩,⟨#[69,110,100,95,69,114,114,111,114]⟩,⟨#[80,117,116]⟩,⟨#[71,101,116]⟩,⟨#[67,108,111,99,107]⟩]
def nmS (k:Nat):ByteArray:=Zav.getD k ⟨#[]⟩
def QO (kl:Nat):TyV:=Qx 3 ⟨#[66,111,111,108,101,97,110]⟩ 1 (some ⟨kl,0,none⟩) 2 [⟨#[70,97,108,115,101]⟩,⟨#[84,114,117,101]⟩]
def ZbS (w:World) (k p1 p2:Nat):Prop:=(12 < k→w.heap[p1]? =some (.cells ([ZcW 1].map Zd.cells).flatten.toArray 98 (0,0)))∧(13 < k→w.heap[p2]? =some (.cells ([ZcW 2].map Zd.cells).flatten.toArray 98 (0,0)))
theorem ZbS.kps {n:Nat} {w w':World} {k p1 p2:Nat} (h:ZbS w k p1 p2) (hk:KpS n w w'):ZbS w' k p1 p2:=
 ⟨fun h1=>hk.block _ _ (h.1 h1) (.inr ⟨_,_,_,rfl,by decide,by decide⟩),fun h1=>hk.block _ _ (h.2 h1) (.inr ⟨_,_,_,rfl,by decide,by decide⟩)⟩
theorem ZbS.low {w:World} {k:Nat} (h:k≤12) (p1 p2:Nat):ZbS w k p1 p2:=⟨fun h1=>by omega,fun h1=>by omega⟩
def Zrc (w:World) (e:Ending) (w':World):Prop:=∃v kl k1 k2,e= .returned (.agg (v.cells (ZrM kl k1 k2)))∧w'.ownsRow w.heap.size 95 22 (.slice v.ea 15 v.ec) 15 ((Qy k1 k2).map Zx.cells).flatten∧ZcJ w' v kl k1 k2∧Kept [] w w'∧v.gn=0∧v.im=0∧(∀a,v.ta=some a→w.heap.size≤a.block)∧∀a,v.sa=some a→w.heap.size≤a.block
def ZoH (wx:World) (X k p1 p2:Nat) (wc:World):Prop:=∃(x:Zx) (q1 q2:Nat),Y4 wc X 95 x.cells∧Kept [X] wx wc∧(Qy q1 q2).take (k+1)=(Qy p1 p2).take k++ [x]∧ZbS wc (k+1) q1 q2
def ZgK (x y z u:TyV):Array Value:=([x,y,z,u].map TyV.cells).flatten.toArray
def ZeB (a b c d:Value):Sem Next:=do return .value (←Instr.buildSlice 24 4 #[(0,a),(1,b),(2,c),(3,d)])
@[go_sem ↓] theorem ZmA (ρ:Operand→Value) (dst:Option Tmp) (x y z u:Operand) (ty:TypeId) (pos:String) (after:Array Edge) (guard:Option (Nat×Bool)):
 execOp ρ {dst,op:= .buildSlice 24 4 #[(0,x),(1,y),(2,z),(3,u)],type:=ty,pos,after,guard}=ZeB (ρ x) (ρ y) (ρ z) (ρ u):=by simp[execOp,ZeB]
@[go_sem] theorem ZpZ (w:World) (x y z u:TyV):Sem.run prog (ZeB (.agg x.cells.toArray) (.agg y.cells.toArray) (.agg z.cells.toArray) (.agg u.cells.toArray)) w= .ok (.value (.slice (some ⟨w.heap.size,0,none⟩) 4 4)) (w.alloc (.cells (ZgK x y z u) 86)):=by
 show _=Result.ok _ (w.alloc (.cells ([x,y,z,u].map TyV.cells).flatten.toArray 86))
 obtain⟨i71,hi71,hz71,hs71,_⟩:=YM ZjY
 obtain⟨z0,hz0⟩:=Option.isSome_iff_exists.1 hz71
 have h:=run_buildSlice (P:=prog) w 24 86 4 #[(0,.agg x.cells.toArray),(1,.agg y.cells.toArray),(2,.agg z.cells.toArray),(3,.agg u.cells.toArray)] ([x,y,z,u].map TyV.cells).flatten.toArray i71 z0 underlying24 hi71 hz0 (by rw[hs71];decide) (by rw[hs71];decide) (by
  rw[hs71]
  have:=Great.fill_whole (s:=18) (by decide) [Value.agg x.cells.toArray,Value.agg y.cells.toArray,Value.agg z.cells.toArray,Value.agg u.cells.toArray] ((Array.range (4*18)).map (z0.cells[· % z0.cells.size]!)) (fun v hv=>by simp at hv;rcases hv with rfl | rfl | rfl | rfl <;> simp[Value.cells,TyV.len]) (by simp)
  have hz:(([Value.agg x.cells.toArray,Value.agg y.cells.toArray,Value.agg z.cells.toArray,Value.agg u.cells.toArray].zipIdx 0).map fun y=>(y.2,y.1))= [((0:Nat),Value.agg x.cells.toArray),(1,Value.agg y.cells.toArray),(2,Value.agg z.cells.toArray),(3,Value.agg u.cells.toArray)]:=rfl
  rw[hz]at this
  show Instr.fill (fun i=>some (i*18,18)) _ [((0:Nat),Value.agg x.cells.toArray),(1,Value.agg y.cells.toArray),(2,Value.agg z.cells.toArray),(3,Value.agg u.cells.toArray)]=_
  rw[this]
  simp[Value.cells])
 simp only[ZeB,Sem.run_bind,h,Result.andThen_ok,Sem.run_pure]
theorem ZbS.kept {w w':World} {k p1 p2 X:Nat} {vs:List Value} (h:ZbS w k p1 p2) (hx:Y4 w X 95 vs) (hk:Kept [X] w w'):ZbS w' k p1 p2:=by
 have go:∀(p:Nat) (c:Array Value),w.heap[p]? =some (.cells c 98 (0,0))→w'.heap[p]? =some (.cells c 98 (0,0)):=fun p c hp=>hk.obj hp (by
  simp
  rintro rfl
  have h2:w.heap[p]? =some (.cells vs.toArray 95 (0,0)):=hx
  rw[hp]at h2
  simp at h2)
 exact⟨fun h1=>go _ _ (h.1 h1),fun h1=>go _ _ (h.2 h1)⟩
theorem Zfh {w:World} {B:Nat} {c:Array Value} {tmps:Array Value} (h4:tmps.getD 0 undef= .pointer (some ⟨B,0,none⟩)) (hc:c.size=5) (hr:w.rangeAt B 0 c.toList):
 (results Tryz.f25 tmps).run prog w= .ok (.agg c) w:=by
 simp only[Array.getD_eq_getD_getElem?]at h4
 have hi:(prog.info? 30).map (·.size)=some c.toList.length:=by
  rw[Array.length_toList,hc]
  exact Tryz.sizeTab
 simp[results,results25,h4,asAddr,Sem.run_bind,run_loadVar_mid w B 0 30 c.toList _ hr underlying30 rfl hi]
theorem ZiB (w:World):Calls prog 25 #[] w (Zrc w):=by
 obtain⟨i107,hi107,hz107,hs107,_⟩:=YM Znn
 obtain⟨i71,hi71,hz71,hs71,_⟩:=YM ZjY
 obtain⟨i64,hi64,hz64,hs64,_⟩:=YM ZmQ
 obtain⟨i9,hi9,hz9,hs9,_⟩:=YM ZmR
 obtain⟨i0,hi,hz0,hz1,hz2⟩:=info_parts Zog
 go_enter func25,ntmps25
 go_upto_region 3 with(
  go_at_call 56
  refine(Zax _ 3 ⟨#[66,111,111,108,101,97,110]⟩ 1).mono ?_
  rintro e w1 ⟨rfl,hk1⟩
  have HK1:=hh hk1
  clear hk1)
 have HB1:Hid ((w1.alloc (.cells (Qx 3 ⟨#[66,111,111,108,101,97,110]⟩ 1 none 0 []).cells.toArray 86)).heap[w1.heap.size]? =some (.cells (Qx 3 ⟨#[66,111,111,108,101,97,110]⟩ 1 none 0 []).cells.toArray 86 (0,0))):=Zf rfl
 have HT1:Hid ((w1.alloc (.cells (Qx 3 ⟨#[66,111,111,108,101,97,110]⟩ 1 none 0 []).cells.toArray 86)).heap[w.heap.size+1]? =some (.cells Zqm 30 (0,0))):=Zr (HK1.out.obj (Zf (by simp)) (by simp)) (by have:=HK1.out.size;simp at this;omega)
 have HT0:Hid ((w1.alloc (.cells (Qx 3 ⟨#[66,111,111,108,101,97,110]⟩ 1 none 0 []).cells.toArray 86)).heap[w.heap.size]? =some (.cells Zqm 30 (0,0))):=Zr (HK1.out.obj (Zr (Zf rfl) (by simp)) (by simp)) (by have:=HK1.out.size;simp at this;omega)
 have HKW:Hid (Kept [] w (w1.alloc (.cells (Qx 3 ⟨#[66,111,111,108,101,97,110]⟩ 1 none 0 []).cells.toArray 86))):=(((Kept.alloc _ _ _).trans (Kept.alloc _ _ _)).trans HK1.out).trans (Kept.alloc _ _ _)
 have HLT:Hid (w.heap.size+1 < w1.heap.size):=by have:=HK1.out.size;simp at this;rw[Hid];omega
 generalize w1.alloc (.cells (Qx 3 ⟨#[66,111,111,108,101,97,110]⟩ 1 none 0 []).cells.toArray 86)=w2 at*
 generalize w1.heap.size=K at*
 have k4:w2.cell? ⟨K,4,none⟩=some (.slice none 0 0):=Zb3 (x:=Qx 3 ⟨#[66,111,111,108,101,97,110]⟩ 1 none 0 []) HB1.out 4 rfl
 have fK:w2.frozen? ⟨K,4,none⟩=false:=frozen_of_row _ _ 4 _ _ HB1.out
 go_upto_region 4 with(
  refine Y7 [.string ⟨#[70,97,108,115,101]⟩,.string ⟨#[84,114,117,101]⟩] (by simp[Value.cells]) rfl 81 9 2 #[(0,.const (.string ⟨#[70,97,108,115,101]⟩)),(1,.const (.string ⟨#[84,114,117,101]⟩))] rfl i9 underlying81 hi9 hz9 hs9 rfl (by decide) (by decide) rfl ?_
  intro kl hkl
  have HKL:=hh hkl
  have k4':(w2.alloc (.cells #[.string ⟨#[70,97,108,115,101]⟩,.string ⟨#[84,114,117,101]⟩] 9)).cell? ⟨K,4,none⟩=some (.slice none 0 0):=(Kept.alloc [] _ _).cell k4 (by simp)
  have fK':(w2.alloc (.cells #[.string ⟨#[70,97,108,115,101]⟩,.string ⟨#[84,114,117,101]⟩] 9)).frozen? ⟨K,4,none⟩=false:=frozen_of_row _ _ 4 _ _ ((Kept.alloc [] _ _).obj HB1.out (by simp))
  clear hkl)
 clear k4 fK k4' fK'
 refine Zm ?_
 intro w3 hw3
 have hB2:Y4 (w2.alloc (.cells #[.string ⟨#[70,97,108,115,101]⟩,.string ⟨#[84,114,117,101]⟩] 9)) K 86 (Qx 3 ⟨#[66,111,111,108,101,97,110]⟩ 1 none 0 []).cells:=(Kept.alloc [] _ _).obj HB1.out (by simp)
 have HB3:Hid (w3.heap[K]? =some (.cells (QO kl).cells.toArray 86 (0,0))):=by
  rw[Hid,hw3]
  exact hB2.set 4 (.slice (some ⟨kl,0,none⟩) 2 2)
 have hkl0:kl=w2.heap.size:=HKL.out
 have hKlt:K < w2.heap.size:=(Array.getElem?_eq_some_iff.1 HB1.out).1
 have hkk:Kept [K] w2 w3:=by rw[hw3];exact((Kept.alloc [] _ _).mono (by simp)).trans (Kept.setCell _ _ _ (by simp))
 have HT3:Hid (w3.heap[w.heap.size+1]? =some (.cells Zqm 30 (0,0))):=hkk.obj HT1.out (by have:=HLT.out;simp;omega)
 have HT03:Hid (w3.heap[w.heap.size]? =some (.cells Zqm 30 (0,0))):=hkk.obj HT0.out (by have:=HLT.out;simp;omega)
 have HL3:Hid (w3.heap[kl]? =some (.cells #[.string ⟨#[70,97,108,115,101]⟩,.string ⟨#[84,114,117,101]⟩] 9 (0,0))):=by
  rw[Hid,hw3]
  have h0:Y4 (w2.alloc (.cells #[.string ⟨#[70,97,108,115,101]⟩,.string ⟨#[84,114,117,101]⟩] 9)) kl 9 [.string ⟨#[70,97,108,115,101]⟩,.string ⟨#[84,114,117,101]⟩]:=Zf hkl0
  exact h0.other _ _ (by simp;omega)
 have HK3:Hid (Kept [] w w3):=HKW.out.above hkk (by have:=HLT.out;simp;omega)
 have HLT3:Hid (w.heap.size+1 < w3.heap.size):=by have:=HLT.out;have:=hkk.size;rw[Hid];omega
 clear hw3 hkk hB2 hkl0 hKlt HB1 HT1 HT0 HKW HKL HK1 HLT
 have hRB:w3.drew.rangeAt K 0 (QO kl).cells:=TyV.range ((Kept.drew [] w3).obj HB3.out (by simp))
 have HD3:Hid (Kept [] w3 w3.drew):=Kept.drew _ _
 go_cut [] (fun wc=>∃kt,w.heap.size≤kt∧wc.heap[kt]? =some (.cells ((J5 kl).map TyV.cells).flatten.toArray 86 (0,0))∧wc.heap[w.heap.size+1]? =some (.cells #[.slice (some ⟨kt,0,none⟩) 4 4,.slice none 0 0,.slice none 0 0,.slice none 0 0,.slice none 0 0] 30 (0,0))∧Kept [w.heap.size+1] w3 wc)
 case first=>
  refine Zdy (fun wx=>wx.rangeAt K 0 (QO kl).cells) 6 (by kernel_rfl) hRB ?_
  intro hS
  have HS:=hh hS
  refine Qh.take (i:=2) (v:= .agg (QO kl).cells.toArray) rfl (by kernel_rfl) (by kernel_rfl) (by kernel_rfl) (by kernel_rfl) (fun _ _ _ h=>h) (Or.inl ⟨by rfl,?_⟩) hS ?_
  ·intro wx h1
   haveI:Zar wx K 0 (QO kl):=⟨h1⟩
   exact ZiL wx K 0 (QO kl)
  simp only[Act.put,List.setIfInBounds_toArray,List.set_cons_zero,List.set_cons_succ]
  clear hS hRB
  refine Qh.one (i:=0) rfl (by kernel_rfl) (fun Kx hKx=>?_)
  rw[if_pos (by rfl)]
  have HX:=hh hKx
  clear hKx
  go_simp
  refine(Zax _ 1 ⟨#[]⟩ (-1)).mono ?_
  rintro e wa ⟨rfl,hka⟩
  have HKwa:Hid (Kept [] w3 wa):=HD3.out.trans hka
  have hSwa:wa.rangeAt K 0 (QO kl).cells:=TyV.range (HKwa.out.obj HB3.out (by simp))
  refine HX.out _ _ (fun _=>hSwa) (fun _=>?_)
  clear hka hSwa HX Kx
  refine Qh.one (i:=1) rfl (by kernel_rfl) (fun Kx hKx=>?_)
  rw[if_pos (by rfl)]
  have HX:=hh hKx
  clear hKx
  go_simp
  refine(Zax _ 2 ⟨#[73,110,116,101,103,101,114]⟩ (0)).mono ?_
  rintro e wb ⟨rfl,hka⟩
  have HKwb:Hid (Kept [] w3 wb):=HKwa.out.trans hka
  have hSwb:wb.rangeAt K 0 (QO kl).cells:=TyV.range (HKwb.out.obj HB3.out (by simp))
  refine HX.out _ _ (fun _=>hSwb) (fun _=>?_)
  clear hka hSwb HX Kx
  refine Qh.one (i:=3) rfl (by kernel_rfl) (fun Kx hKx=>?_)
  rw[if_pos (by rfl)]
  have HX:=hh hKx
  clear hKx
  go_simp
  refine(Zax _ 2 ⟨#[84,105,109,101]⟩ (2)).mono ?_
  rintro e wd ⟨rfl,hka⟩
  have HKwd:Hid (Kept [] w3 wd):=HKwb.out.trans hka
  have hSwd:wd.rangeAt K 0 (QO kl).cells:=TyV.range (HKwd.out.obj HB3.out (by simp))
  refine HX.out _ _ (fun _=>hSwd) (fun _=>?_)
  clear hka hSwd HX Kx
  have HWE:Hid (Kept [] w3 (wd.alloc (.cells (ZgK (Qx 1 ⟨#[]⟩ (-1) none 0 []) (Qx 2 ⟨#[73,110,116,101,103,101,114]⟩ 0 none 0 []) (QO kl) (Qx 2 ⟨#[84,105,109,101]⟩ 2 none 0 [])) 86))):=HKwd.out.trans (Kept.alloc _ _ _)
  have HSE:Hid ((wd.alloc (.cells (ZgK (Qx 1 ⟨#[]⟩ (-1) none 0 []) (Qx 2 ⟨#[73,110,116,101,103,101,114]⟩ 0 none 0 []) (QO kl) (Qx 2 ⟨#[84,105,109,101]⟩ 2 none 0 [])) 86)).rangeAt K 0 (QO kl).cells):=TyV.range (HWE.out.obj HB3.out (by simp))
  refine Qh.one (i:=4) rfl (by kernel_rfl) (fun Kx hKx=>?_)
  rw[if_pos (by rfl)]
  have HX:=hh hKx
  clear hKx
  go_simp
  refine HX.out _ _ (fun _=>HSE.out) (fun _=>?_)
  clear HX Kx
  have c0:(wd.alloc (.cells (ZgK (Qx 1 ⟨#[]⟩ (-1) none 0 []) (Qx 2 ⟨#[73,110,116,101,103,101,114]⟩ 0 none 0 []) (QO kl) (Qx 2 ⟨#[84,105,109,101]⟩ 2 none 0 [])) 86)).cell? ⟨w.heap.size+1,0,none⟩=some (.slice none 0 0):=(cell_of_row _ _ _ _ _ _ (HWE.out.obj HT3.out (by simp))).trans rfl
  have f0:(wd.alloc (.cells (ZgK (Qx 1 ⟨#[]⟩ (-1) none 0 []) (Qx 2 ⟨#[73,110,116,101,103,101,114]⟩ 0 none 0 []) (QO kl) (Qx 2 ⟨#[84,105,109,101]⟩ 2 none 0 [])) 86)).frozen? ⟨w.heap.size+1,0,none⟩=false:=frozen_of_row _ _ 0 _ _ (HWE.out.obj HT3.out (by simp))
  have HTYE:Hid ((wd.alloc (.cells (ZgK (Qx 1 ⟨#[]⟩ (-1) none 0 []) (Qx 2 ⟨#[73,110,116,101,103,101,114]⟩ 0 none 0 []) (QO kl) (Qx 2 ⟨#[84,105,109,101]⟩ 2 none 0 [])) 86)).heap[wd.heap.size]? =some (.cells ((J5 kl).map TyV.cells).flatten.toArray 86 (0,0))):=heap_alloc_new _ _
  have HDS:Hid (w3.heap.size≤wd.heap.size):=HKwd.out.size
  generalize hE:wd.alloc (.cells (ZgK (Qx 1 ⟨#[]⟩ (-1) none 0 []) (Qx 2 ⟨#[73,110,116,101,103,101,114]⟩ 0 none 0 []) (QO kl) (Qx 2 ⟨#[84,105,109,101]⟩ 2 none 0 [])) 86)=wE at*
  have HEQ:=hh hE
  clear hE
  refine Qh.one (i:=5) rfl (by kernel_rfl) (fun Kx hKx=>?_)
  rw[if_pos (by rfl)]
  have HX:=hh hKx
  clear hKx
  go_simp
  refine HX.out _ _ (fun _=>HSE.out) (fun _=>?_)
  clear HX Kx
  refine Qh.one (i:=6) rfl (by kernel_rfl) (fun Kx hKx=>?_)
  rw[if_pos (by rfl)]
  have HX:=hh hKx
  clear hKx
  go_simp
  refine HX.out _ _ (fun h=>absurd rfl h) (fun _=>?_)
  clear HX Kx
  refine Qh.done (by kernel_rfl) ?_ _
  clear c0 f0
  first
   | go_meet
   | (
    go_wp2_with fail
    go_meet)
  have h0:Y4 wE (w.heap.size+1) 30 Zqm.toList:=HWE.out.obj HT3.out (by simp)
  have hlt:=HLT3.out
  have hds:=HDS.out
  refine⟨wd.heap.size,by omega,?_,h0.set 0 (.slice (some ⟨wd.heap.size,0,none⟩) 4 4),(HWE.out.mono (by simp)).trans (Kept.setCell _ _ _ (by simp))⟩
  exact Y4.other (ty:=86) (vs:=((J5 kl).map TyV.cells).flatten) HTYE.out _ _ (by simp;omega)
 case rest=>
  obtain⟨kt,hkt,hty,hbx,hkc⟩:=hcut
  have HKT:=hh hkt
  clear hkt
  have HTY:=hh hty
  have HBX:=hh hbx
  have HKC:=hh hkc
  have HR:=hh (hkc.obj HT03.out (by simp))
  have HLI:=hh (hkc.obj HL3.out (by
   simp
   rintro rfl
   have h2:=HL3.out
   rw[HT3.out]at h2
   simp at h2))
  have HKW:=hh (HK3.out.above hkc (by simp))
  have HBC:Hid (w.heap.size+1 < wc.heap.size):=(Array.getElem?_eq_some_iff.1 hbx).1
  clear hty hbx hkc HB3 HT3 HT03 HL3 HLT3 hRB HD3 HK3 HKC
  have HBW:Hid (w.heap.size≤w.heap.size+1∧w.heap.size < w.heap.size+1):=by rw[Hid];omega
  generalize w.heap.size+1=B at*
  have c1:wc.cell? ⟨B,1,none⟩=some (.slice none 0 0):=(cell_of_row _ _ _ _ _ _ HBX.out).trans rfl
  go_upto_region 6 with(
   refine ZC ZL.cells 3 ZL.len (by decide) Yh rfl 25 88 5 #[(0,.tmp 15),(1,.tmp 16),(2,.tmp 17),(3,.tmp 18),(4,.tmp 19)] rfl i64 underlying25 hi64 hz64 hs64 rfl (by decide) (by decide) rfl ?_
   intro ks hks
   have HKS:=hh hks
   have c1':(wc.alloc (.cells (Yh.map ZL.cells).flatten.toArray 88)).cell? ⟨B,1,none⟩=some (.slice none 0 0):=(Kept.alloc [] _ _).cell c1 (by simp)
   have f1':(wc.alloc (.cells (Yh.map ZL.cells).flatten.toArray 88)).frozen? ⟨B,1,none⟩=false:=frozen_of_row _ _ 1 _ _ ((Kept.alloc [] _ _).obj HBX.out (by simp))
   clear hks)
  refine Zm ?_
  intro w5 hw5
  have hb0:Y4 (wc.alloc (.cells (Yh.map ZL.cells).flatten.toArray 88)) B 30 [.slice (some ⟨kt,0,none⟩) 4 4,.slice none 0 0,.slice none 0 0,.slice none 0 0,.slice none 0 0]:=(Kept.alloc [] _ _).obj HBX.out (by simp)
  have HBX5:Hid (w5.heap[B]? =some (.cells #[.slice (some ⟨kt,0,none⟩) 4 4,.slice (some ⟨ks,0,none⟩) 5 5,.slice none 0 0,.slice none 0 0,.slice none 0 0] 30 (0,0))):=by
   rw[Hid,hw5]
   exact hb0.set 1 (.slice (some ⟨ks,0,none⟩) 5 5)
  have HK5:Hid (Kept [B] wc w5):=by rw[Hid,hw5];exact((Kept.alloc [] _ _).mono (by simp)).trans (Kept.setCell _ _ _ (by simp))
  have HSB5:Hid (w5.heap[ks]? =some (.cells (Yh.map ZL.cells).flatten.toArray 88 (0,0))):=by
   rw[Hid,hw5]
   have h0:Y4 (wc.alloc (.cells (Yh.map ZL.cells).flatten.toArray 88)) ks 88 (Yh.map ZL.cells).flatten:=Zf HKS.out
   exact h0.other _ _ (by have:=HBC.out;have:=HKS.out;simp;omega)
  have hne:∀(q:Nat) (c:Array Value) (ty:TypeId),wc.heap[q]? =some (Obj.cells c ty (0,0))→ty≠30→w5.heap[q]? =some (Obj.cells c ty (0,0)):=fun q c ty hq hty=>HK5.out.obj hq (by
   simp
   rintro rfl
   rw[HBX.out]at hq
   simp only[Option.some.injEq,Obj.cells.injEq]at hq
   exact hty hq.2.1.symm)
  have HTY5:=hh (hne _ _ _ HTY.out (by decide))
  have HLI5:=hh (hne _ _ _ HLI.out (by decide))
  have HR5:=hh (HK5.out.obj HR.out (by have:=HBW.out;simp;omega))
  have HKW5:=hh (HKW.out.above HK5.out (by have:=HBW.out;simp;omega))
  have HKS2:Hid (w.heap.size≤ks):=by have:=HKS.out;have:=HKW.out.size;rw[Hid];omega
  clear hw5 hb0 hne c1 c1' f1' HK5 HTY HLI HR HKW HBX HKS HBC
  go_upto_region 7 with(
   refine Y7 (Zav.map Value.string) (by intro v hv;obtain⟨s,_,rfl⟩:=List.mem_map.1 hv;rfl) rfl 81 9 15 #[(0,.const (.string ⟨#[83,116,97,110,100,97,114,100]⟩)),(1,.const (.string ⟨#[73,110,116,101,103,101,114]⟩)),(2,.const (.string ⟨#[66,111,111,108,101,97,110]⟩)),(3,.const (.string ⟨#[70,97,108,115,101]⟩)),(4,.const (.string ⟨#[84,114,117,101]⟩)),(5,.const (.string ⟨#[84,105,109,101]⟩)),(6,.const (.string ⟨#[78,97,116,117,114,97,108]⟩)),(7,.const (.string ⟨#[80,111,115,105,116,105,118,101]⟩)),(8,.const (.string ⟨#[67,111,110,115,116,114,97,105,110,116,95,69,114,114,111,114]⟩)),(9,.const (.string ⟨#[80,114,111,103,114,97,109,95,69,114,114,111,114]⟩)),(10,.const (.string ⟨#[84,97,115,107,105,110,103,95,69,114,114,111,114]⟩)),(11,.const (.string ⟨#[69,110,100,95,69,114,114,111,114]⟩)),(12,.const (.string ⟨#[80,117,116]⟩)),(13,.const (.string ⟨#[71,101,116]⟩)),(14,.const (.string ⟨#[67,108,111,99,107]⟩))] rfl i9 underlying81 hi9 hz9 hs9 rfl (by decide) (by decide) rfl ?_
   intro kn hkn
   have HKN:=hh hkn
   clear hkn)
  refine Zm ?_
  intro w6 hw6
  have HK6:Hid (Kept [] w5 w6):=by rw[Hid,hw6];exact Kept.alloc _ _ _
  have HNM:Hid (w6.heap[kn]? =some (.cells (Zav.map Value.string).toArray 9 (0,0))):=by rw[Hid,hw6];exact Zf HKN.out
  have HBX6:=hh (HK6.out.obj HBX5.out (by simp))
  have HTY6:=hh (HK6.out.obj HTY5.out (by simp))
  have HSB6:=hh (HK6.out.obj HSB5.out (by simp))
  have HLI6:=hh (HK6.out.obj HLI5.out (by simp))
  have HR6:=hh (HK6.out.obj HR5.out (by simp))
  have HKW6:=hh (HKW5.out.trans HK6.out)
  clear hw6 HK6 HKN HBX5 HTY5 HSB5 HLI5 HR5 HKW5
  obtain⟨v0,hv0⟩:∃v0:Zp,v0=⟨some ⟨kt,0,none⟩,4,some ⟨ks,0,none⟩,5,none,0,none,0,0,none,0,0⟩:=⟨_,rfl⟩
  have HV0:=hh hv0
  have HBT:Hid (ZrA w6 B B (atE v0 none 0) (Zs2 kl [])):=⟨by rw[HV0.out];exact HBX6.out,World.ownsRow_nil _ _ _ _,Nat.le_refl _⟩
  clear hv0 HBX6
  go_wp2_with fail
  go_loopw [4] (fun i wr=>∃k:Nat,k≤15∧i= .int .i64 k∧∃ea ec p1 p2,ZrA wr B B (atE v0 ea ec) (Zs2 kl ((Qy p1 p2).take k))∧KpS B w6 wr∧ZbS wr k p1 p2) (fun i _=>15 - (intOf i).toNat)
  case atStart=>exact⟨0,Nat.zero_le _,rfl,none,0,0,0,HBT.out,KpS.refl _ _,ZbS.low (by omega) _ _⟩
  case round=>
   obtain⟨k,hk,rfl,ea,ec,p1,p2,hb,hkp,hpm⟩:=hrel
   have HBR:=hh hb
   have HKR:=hh hkp
   have HPM:=hh hpm
   clear hb hkp hpm HBT
   obtain⟨wo,rfl⟩:∃wo:World,wo=wr:=⟨_,rfl⟩
   have HNO:Hid (wo.heap[kn]? =some (.cells (Zav.map Value.string).toArray 9 (0,0))):=HKR.out.block _ _ HNM.out (.inr ⟨_,_,_,rfl,by decide,by decide⟩)
   by_cases hlt:k < 15
   ·have cN:wo.cell? ⟨kn,k,none⟩=some (.string (nmS k)):=by
     rw[cell_of_row _ _ _ _ _ _ HNO.out]
     have hk15:k < Zav.length:=hlt
     simp[nmS,List.getD,List.getElem?_eq_getElem hk15]
    have HLEN:Hid (((Qy p1 p2).take k).length=k):=by
     rw[Hid,List.length_take]
     show min k 15=k
     omega
    go_upto_block 2 with(first
     | (
      go_at_call 28
      refine(Zcg _ 5 (nmS k)).mono ?_
      rintro e w1 ⟨rfl,hk1⟩
      have HK1:=hh hk1
      clear hk1)
     | (refine ZY rfl 95 (.tmp 5) (.tmp 33) rfl _ (ZK 5 (nmS k)).cells.toArray w1.heap.size rfl rfl rfl (Tryz.infoEnt _) rfl (Zx.one _) ?_))
    refine Zm ?_
    intro wx hwx
    have HXX:Hid (Y4 wx w1.heap.size 95 (ZK 5 (nmS k)).cells):=by rw[Hid,hwx];exact heap_alloc_new _ _
    have HKX:Hid (Kept [] wo wx):=by rw[Hid,hwx];exact HK1.out.trans (Kept.alloc _ _ _)
    have HXW:Hid (wo.heap.size≤w1.heap.size):=HK1.out.size
    generalize w1.heap.size=X at*
    have HPX:Hid (ZbS wx k p1 p2):=HPM.out.kps (KpS.of_kept (n:=B) HKX.out)
    clear hwx HK1 cN HNO HPM
    have cX0:=Zz (x:=ZK 5 (nmS k)) HXX.out 0 rfl
    have cX2:=Zz (x:=ZK 5 (nmS k)) HXX.out 2 rfl
    have cX4:=Zz (x:=ZK 5 (nmS k)) HXX.out 4 rfl
    have cX5:=Zz (x:=ZK 5 (nmS k)) HXX.out 5 rfl
    have cX6:=Zz (x:=ZK 5 (nmS k)) HXX.out 6 rfl
    have cX10:=Zz (x:=ZK 5 (nmS k)) HXX.out 10 rfl
    have fX0:=HXX.out.frozen 0
    have fX2:=HXX.out.frozen 2
    have fX4:=HXX.out.frozen 4
    have fX5:=HXX.out.frozen 5
    have fX6:=HXX.out.frozen 6
    have fX10:=HXX.out.frozen 10
    obtain⟨j,hj⟩:∃j:Int,j=(k:Int):=⟨_,rfl⟩
    have HJ:=hh hj
    rw[←hj]
    clear hj
    go_frame
    go_cut [] (fun wc=>ZoH wx X k p1 p2 wc)
    case first=>
     rcases(by omega:k=0∨k=1∨k=2∨k=3∨k=4∨k=5∨k=6∨k=7∨k=8∨k=9∨k=10∨k=11∨k=12∨k=13∨k=14)with rfl | rfl | rfl | rfl | rfl | rfl | rfl | rfl | rfl | rfl | rfl | rfl | rfl | rfl | rfl
     ·obtain rfl:j=0:=HJ.out
      go_wp2_with fail
      go_meet
      exact⟨{ZuN with owner:=-1},p1,p2,((HXX.out.set 0 _).set 2 _),(Kept.setCell _ _ _ (by simp)).trans (Kept.setCell _ _ _ (by simp)),rfl,ZbS.low (by omega) _ _⟩
     ·obtain rfl:j=1:=HJ.out
      go_wp2_with fail
      go_meet
      exact⟨Zbj 5 ⟨#[73,110,116,101,103,101,114]⟩ (1) (0) 0 none 0 [],p1,p2,((HXX.out.set 4 _).set 5 _),(Kept.setCell _ _ _ (by simp)).trans (Kept.setCell _ _ _ (by simp)),rfl,ZbS.low (by omega) _ _⟩
     ·obtain rfl:j=2:=HJ.out
      go_wp2_with fail
      go_meet
      exact⟨Zbj 5 ⟨#[66,111,111,108,101,97,110]⟩ (2) (1) 0 none 0 [],p1,p2,((HXX.out.set 4 _).set 5 _),(Kept.setCell _ _ _ (by simp)).trans (Kept.setCell _ _ _ (by simp)),rfl,ZbS.low (by omega) _ _⟩
     ·obtain rfl:j=3:=HJ.out
      go_wp2_with fail
      go_meet
      exact⟨Zbj 10 ⟨#[70,97,108,115,101]⟩ (2) (-1) 0 none 0 [],p1,p2,(((HXX.out.set 0 _).set 4 _).set 10 _),((Kept.setCell _ _ _ (by simp)).trans (Kept.setCell _ _ _ (by simp))).trans (Kept.setCell _ _ _ (by simp)),rfl,ZbS.low (by omega) _ _⟩
     ·obtain rfl:j=4:=HJ.out
      go_wp2_with fail
      go_meet
      exact⟨Zbj 10 ⟨#[84,114,117,101]⟩ (2) (-1) 1 none 0 [],p1,p2,(((HXX.out.set 0 _).set 4 _).set 10 _),((Kept.setCell _ _ _ (by simp)).trans (Kept.setCell _ _ _ (by simp))).trans (Kept.setCell _ _ _ (by simp)),rfl,ZbS.low (by omega) _ _⟩
     ·obtain rfl:j=5:=HJ.out
      go_wp2_with fail
      go_meet
      exact⟨Zbj 5 ⟨#[84,105,109,101]⟩ (3) (2) 0 none 0 [],p1,p2,((HXX.out.set 4 _).set 5 _),(Kept.setCell _ _ _ (by simp)).trans (Kept.setCell _ _ _ (by simp)),rfl,ZbS.low (by omega) _ _⟩
     ·obtain rfl:j=6:=HJ.out
      go_wp2_with fail
      go_meet
      exact⟨Zbj 6 ⟨#[78,97,116,117,114,97,108]⟩ (1) (3) 0 none 0 [],p1,p2,(((HXX.out.set 0 _).set 4 _).set 5 _),((Kept.setCell _ _ _ (by simp)).trans (Kept.setCell _ _ _ (by simp))).trans (Kept.setCell _ _ _ (by simp)),rfl,ZbS.low (by omega) _ _⟩
     ·obtain rfl:j=7:=HJ.out
      go_wp2_with fail
      go_meet
      exact⟨Zbj 6 ⟨#[80,111,115,105,116,105,118,101]⟩ (1) (4) 0 none 0 [],p1,p2,(((HXX.out.set 0 _).set 4 _).set 5 _),((Kept.setCell _ _ _ (by simp)).trans (Kept.setCell _ _ _ (by simp))).trans (Kept.setCell _ _ _ (by simp)),rfl,ZbS.low (by omega) _ _⟩
     ·obtain rfl:j=8:=HJ.out
      go_wp2_with fail
      go_meet
      exact⟨Zbj 11 ⟨#[67,111,110,115,116,114,97,105,110,116,95,69,114,114,111,114]⟩ (-1) (-1) 1 none 0 [],p1,p2,((HXX.out.set 0 _).set 10 _),(Kept.setCell _ _ _ (by simp)).trans (Kept.setCell _ _ _ (by simp)),rfl,ZbS.low (by omega) _ _⟩
     ·obtain rfl:j=9:=HJ.out
      go_wp2_with fail
      go_meet
      exact⟨Zbj 11 ⟨#[80,114,111,103,114,97,109,95,69,114,114,111,114]⟩ (-1) (-1) 2 none 0 [],p1,p2,((HXX.out.set 0 _).set 10 _),(Kept.setCell _ _ _ (by simp)).trans (Kept.setCell _ _ _ (by simp)),rfl,ZbS.low (by omega) _ _⟩
     ·obtain rfl:j=10:=HJ.out
      go_wp2_with fail
      go_meet
      exact⟨Zbj 11 ⟨#[84,97,115,107,105,110,103,95,69,114,114,111,114]⟩ (-1) (-1) 3 none 0 [],p1,p2,((HXX.out.set 0 _).set 10 _),(Kept.setCell _ _ _ (by simp)).trans (Kept.setCell _ _ _ (by simp)),rfl,ZbS.low (by omega) _ _⟩
     ·obtain rfl:j=11:=HJ.out
      go_wp2_with fail
      go_meet
      exact⟨Zbj 11 ⟨#[69,110,100,95,69,114,114,111,114]⟩ (-1) (-1) 4 none 0 [],p1,p2,((HXX.out.set 0 _).set 10 _),(Kept.setCell _ _ _ (by simp)).trans (Kept.setCell _ _ _ (by simp)),rfl,ZbS.low (by omega) _ _⟩
     ·obtain rfl:j=12:=HJ.out
      go_wp2_with (
       refine ZC Zd.cells 13 Zd.len (by decide) [ZcW 1] rfl 91 98 1 #[(0,.tmp 92)] rfl i107 underlying91 hi107 hz107 hs107 rfl (by decide) (by decide) rfl ?_
       intro q1 hq
       have HQ:=hh hq
       have HX6:Hid (Y4 ((wx.setCell ⟨X,0,none⟩ (.int .u8 3)).alloc (.cells (ZcW 1).cells.toArray 98)) X 95 ((ZK 5 (nmS 12)).cells.set 0 (.int .u8 3))):=(HXX.out.set 0 (.int .u8 3)).kept (Kept.alloc [] _ _) (by simp)
       have c6':((wx.setCell ⟨X,0,none⟩ (.int .u8 3)).alloc (.cells (ZcW 1).cells.toArray 98)).cell? ⟨X,6,none⟩=some (.slice none 0 0):=HX6.out.cell rfl
       have f6':((wx.setCell ⟨X,0,none⟩ (.int .u8 3)).alloc (.cells (ZcW 1).cells.toArray 98)).frozen? ⟨X,6,none⟩=false:=HX6.out.frozen 6
       clear hq)
      go_meet
      have hqX:q1≠X:=by have:=HQ.out;have:=HXX.out.lt;simp at*;omega
      refine⟨ZuP q1,q1,p2,HX6.out.set 6 (.slice (some ⟨q1,0,none⟩) 1 1),((Kept.setCell _ _ _ (by simp)).trans (Kept.alloc _ _ _)).trans (Kept.setCell _ _ _ (by simp)),rfl,⟨fun _=>?_,fun h=>by omega⟩⟩
      exact Y4.other (ty:=98) (vs:=([ZcW 1].map Zd.cells).flatten) (Zf HQ.out) _ _ hqX
     ·obtain rfl:j=13:=HJ.out
      go_wp2_with (
       refine ZC Zd.cells 13 Zd.len (by decide) [ZcW 2] rfl 91 98 1 #[(0,.tmp 99)] rfl i107 underlying91 hi107 hz107 hs107 rfl (by decide) (by decide) rfl ?_
       intro q2 hq
       have HQ:=hh hq
       have HX6:Hid (Y4 ((wx.setCell ⟨X,0,none⟩ (.int .u8 3)).alloc (.cells (ZcW 2).cells.toArray 98)) X 95 ((ZK 5 (nmS 13)).cells.set 0 (.int .u8 3))):=(HXX.out.set 0 (.int .u8 3)).kept (Kept.alloc [] _ _) (by simp)
       have c6':((wx.setCell ⟨X,0,none⟩ (.int .u8 3)).alloc (.cells (ZcW 2).cells.toArray 98)).cell? ⟨X,6,none⟩=some (.slice none 0 0):=HX6.out.cell rfl
       have f6':((wx.setCell ⟨X,0,none⟩ (.int .u8 3)).alloc (.cells (ZcW 2).cells.toArray 98)).frozen? ⟨X,6,none⟩=false:=HX6.out.frozen 6
       clear hq)
      go_meet
      have hqX:q2≠X:=by have:=HQ.out;have:=HXX.out.lt;simp at*;omega
      have hK:Kept [X] wx (((wx.setCell ⟨X,0,none⟩ (.int .u8 3)).alloc (.cells (ZcW 2).cells.toArray 98)).setCell ⟨X,6,none⟩ (.slice (some ⟨q2,0,none⟩) 1 1)):=((Kept.setCell _ _ _ (by simp)).trans (Kept.alloc _ _ _)).trans (Kept.setCell _ _ _ (by simp))
      refine⟨Zu0 q2,p1,q2,HX6.out.set 6 (.slice (some ⟨q2,0,none⟩) 1 1),hK,rfl,⟨fun _=>(HPX.out.kept HXX.out hK).1 (by omega),fun _=>?_⟩⟩
      exact Y4.other (ty:=98) (vs:=([ZcW 2].map Zd.cells).flatten) (Zf HQ.out) _ _ hqX
     ·obtain rfl:j=14:=HJ.out
      go_wp2_with fail
      go_meet
      refine⟨Zpw,p1,p2,(((HXX.out.set 0 _).set 4 _).set 5 _),?_,rfl,⟨fun _=>(HPX.out.kept HXX.out ?_).1 (by omega),fun _=>(HPX.out.kept HXX.out ?_).2 (by omega)⟩⟩ <;> exact((Kept.setCell _ _ _ (by simp)).trans (Kept.setCell _ _ _ (by simp))).trans (Kept.setCell _ _ _ (by simp))
    case rest=>
     obtain⟨x,q1,q2,hx3,hk3,hl3,hp3⟩:=hcut
     obtain rfl:j=(k:Int):=HJ.out
     have HX3:=hh hx3
     have HL3:=hh hl3
     have HP3:=hh hp3
     have HKC:Hid (Kept [] wo wc):=HKX.out.above hk3 (by have:=HXW.out;simp;omega)
     clear hx3 hl3 hp3 hk3 cX0 cX2 cX4 cX5 cX6 cX10 fX0 fX2 fX4 fX5 fX6 fX10 HXX HPX HJ HXW HKX
     generalize (Qy p1 p2).take k=l at*
     have HOW:Hid (wo.ownsRow B 95 22 (.slice ea l.length ec) l.length (l.map Zx.cells).flatten):=HBR.out.own
     have HBO:Hid (wo.heap[B]? =some (.cells #[.slice (some ⟨kt,0,none⟩) 4 4,.slice (some ⟨ks,0,none⟩) 5 5,.slice ea l.length ec,.slice none 0 0,.slice none 0 0] 30 (0,0))):=by have:=HBR.out.box;rw[HV0.out]at this;exact this
     have hg:∀g,(Value.slice ea l.length ec).ownBlock=some g→B≤g∧g < wo.heap.size∧g≠B∧∃c,wo.heap[g]? =some (.cells c 95 (0,0)):=fun g hg=>by
      have h1:=HOW.out.lt g hg
      obtain⟨c,hc⟩:=Qj HOW.out hg
      refine⟨h1.1,h1.2,?_,c,hc⟩
      rintro rfl
      have h2:=HBO.out
      rw[hc]at h2
      simp at h2
     have HG:=hh hg
     clear hg
     have HBC:Hid (wc.heap[B]? =some (.cells #[.slice (some ⟨kt,0,none⟩) 4 4,.slice (some ⟨ks,0,none⟩) 5 5,.slice ea l.length ec,.slice none 0 0,.slice none 0 0] 30 (0,0))):=HKC.out.obj HBO.out (by simp)
     have HOC:Hid (wc.ownsRow B 95 22 (.slice ea l.length ec) l.length (l.map Zx.cells).flatten):=Zk HOW.out HKC.out (by simp)
     haveI:YO wc X 0 x:=⟨Zx.range HX3.out⟩
     have cB:wc.cell? ⟨B,2,none⟩=some (.slice ea l.length ec):=(cell_of_row _ _ _ _ _ _ HBC.out).trans rfl
     have hBlt:B < wc.heap.size:=(Array.getElem?_eq_some_iff.1 HBC.out).1
     have hsz:=HKC.out.size
     have HSRC:Hid (∀kb,kb=wc.heap.size→YG (wc.alloc (.cells ([x].map Zx.cells).flatten.toArray 95)) 22 (some ⟨kb,0,none⟩) 1 x.cells):=by
      rintro kb rfl
      refine⟨rfl,fun _=>⟨_,rfl,fun j u hu=>?_⟩⟩
      rw[Addr.add_mid,Nat.zero_add,cell_of_row _ _ _ _ _ _ (heap_alloc_new _ _)]
      simpa using hu
     have hA:l.length+1≤maxLen:=by have:=HLEN.out;unfold maxLen;omega
     have hBy:(l.length+1)*176≤140737488355328:=by have:=HLEN.out;omega
     have hC:Hid (B≤(wc.alloc (.cells ([x].map Zx.cells).flatten.toArray 95)).heap.size):=by simp[Hid];omega
     have H1C:Hid (∀u∈x.cells,u.oneCell'=true):=by have:=Zx.one x;simpa [Hid]using this
     go_wp2_with (first
      | (
       refine ZC Zx.cells 22 Zx.len (by decide) [x] rfl 26 95 1 #[(0,.tmp 104)] rfl i0 underlying26 hi (by rw[hz0];rfl) hz1 rfl (by decide) (by decide) rfl ?_
       intro kb hkb)
      | (
       at_builtin
       go_loud (refine Zt _ rfl (.tmp 103) (.tmp 105) 26 rfl B 95 i0 (.agg Yu.cells.toArray) 22 176 underlying26 hi hz0 hz1 hz2 rfl (by decide) (.slice ea l.length ec) l.length (l.map Zx.cells).flatten rfl (HOC.out.alloc _) (some ⟨kb,0,none⟩) 1 1 x.cells rfl (HSRC.out kb hkb) H1C.out hA hBy hC.out ?_)
       intro vb wb hob hgb hbb
       obtain⟨Ab,cb,rfl⟩:=Zq hob
       have HOB:=hh hob
       have HGB:=hh hgb
       have hBb:wb.heap[B]? =some (.cells #[.slice (some ⟨kt,0,none⟩) 4 4,.slice (some ⟨ks,0,none⟩) 5 5,.slice ea l.length ec,.slice none 0 0,.slice none 0 0] 30 (0,0)):=(hgb.block B (by simp;omega) (fun e=>by have:=(HG.out B e.symm).2.2.1;omega)).trans (Zr HBC.out (by omega))
       have HBB:=hh hBb
       have cBb:wb.cell? ⟨B,2,none⟩=some (.slice ea l.length ec):=(cell_of_row _ _ _ _ _ _ hBb).trans rfl
       have fBb:=frozen_of_row _ _ 2 _ _ hBb
       clear hob hgb hbb hBb))
     have HKF:Hid (KpS B wc (wb.setCell ⟨B,2,none⟩ (.slice Ab (l.length+1) cb))):=by
      refine((KpS.of_kept (Kept.alloc _ _ _)).trans (KpS.of_grown HGB.out ?_)).trans (KpS.setCell _ _ _ HBB.out (Nat.le_refl _) (.inr rfl))
      intro g hg _
      obtain⟨h1,h2,_,c,hc⟩:=HG.out g hg
      exact⟨h1,c,(0,0),Zr (HKC.out.obj hc (by simp)) (by omega)⟩
     have HBF:Hid (ZrA (wb.setCell ⟨B,2,none⟩ (.slice Ab (l.length+1) cb)) B B (atE v0 Ab cb) (Zs2 kl (l++ [x]))):=by
      refine⟨?_,?_,Nat.le_refl _⟩
      ·have h0:Y4 wb B 30 [.slice (some ⟨kt,0,none⟩) 4 4,.slice (some ⟨ks,0,none⟩) 5 5,.slice ea l.length ec,.slice none 0 0,.slice none 0 0]:=HBB.out
       have h1:=h0.set 2 (.slice Ab (l.length+1) cb)
       rw[HV0.out]
       show(wb.setCell ⟨B,2,none⟩ (.slice Ab (l.length+1) cb)).heap[B]? =some (.cells #[.slice (some ⟨kt,0,none⟩) 4 4,.slice (some ⟨ks,0,none⟩) 5 5,.slice Ab (l++ [x]).length cb,.slice none 0 0,.slice none 0 0] 30 (0,0))
       rw[List.length_append]
       exact h1
      ·have hkb':Kept [B] wb (wb.setCell ⟨B,2,none⟩ (.slice Ab (l.length+1) cb)):=Kept.setCell _ _ _ (by simp)
       have h:=Zk HOB.out hkb' (fun g hg=>by
        obtain⟨c,hc⟩:=Qj HOB.out hg
        simp
        rintro rfl
        have h2:=HBB.out
        rw[hc]at h2
        simp at h2)
       show World.ownsRow _ B 95 22 (.slice Ab (l++ [x]).length cb) (l++ [x]).length ((l++ [x]).map Zx.cells).flatten
       rw[List.length_append]
       simpa using h
     go_roundw
     case rel=>exact⟨k+1,by omega,by go_num,Ab,cb,q1,q2,by rw[HL3.out];exact HBF.out,HKR.out.trans ((KpS.of_kept HKC.out).trans HKF.out),HP3.out.kps HKF.out⟩
     case measure=>simp[intOf];omega
   ·have hst:(Qy p1 p2).take k=Qy p1 p2:=List.take_of_length_le (by show 15≤k;omega)
    rw[hst]at HBR
    have HP1:=hh (HPM.out.1 (by omega))
    have HP2:=hh (HPM.out.2 (by omega))
    clear hst HPM HNO
    have HVC:Hid ((atE v0 ea ec).cells (Zs2 kl (Qy p1 p2))= #[.slice (some ⟨kt,0,none⟩) 4 4,.slice (some ⟨ks,0,none⟩) 5 5,.slice ea 15 ec,.slice none 0 0,.slice none 0 0]):=by rw[Hid,HV0.out];rfl
    have HBF:Hid (wo.heap[B]? =some (.cells #[.slice (some ⟨kt,0,none⟩) 4 4,.slice (some ⟨ks,0,none⟩) 5 5,.slice ea 15 ec,.slice none 0 0,.slice none 0 0] 30 (0,0))):=by rw[Hid,←HVC.out];exact HBR.out.box
    have HT0:=hh (HKR.out.block _ _ HR6.out (.inl HBW.out.2))
    have c0:∀j,wo.cell? ⟨B,j,none⟩=_:=fun j=>cell_of_row _ _ j _ _ _ HBF.out
    have d0:wo.cell? ⟨B,0,none⟩=some (.slice (some ⟨kt,0,none⟩) 4 4):=c0 0
    have d1:wo.cell? ⟨B,1,none⟩=some (.slice (some ⟨ks,0,none⟩) 5 5):=c0 1
    have d2:wo.cell? ⟨B,2,none⟩=some (.slice ea 15 ec):=c0 2
    have d3:wo.cell? ⟨B,3,none⟩=some (.slice none 0 0):=c0 3
    have d4:wo.cell? ⟨B,4,none⟩=some (.slice none 0 0):=c0 4
    clear c0
    have HRLT:Hid (w.heap.size < wo.heap.size):=by have:=HBW.out;have:=(Array.getElem?_eq_some_iff.1 HBF.out).1;rw[Hid];omega
    go_wp2_with (first
     | (
      fail_if_success guard_hyp HWF
      refine QQ rfl 30 (.tmp 0) (.tmp 108) rfl w.heap.size _ #[.slice (some ⟨kt,0,none⟩) 4 4,.slice (some ⟨ks,0,none⟩) 5 5,.slice ea 15 ec,.slice none 0 0,.slice none 0 0] rfl HT0.out rfl Tryz.sizeTab rfl (by simp[Value.oneCell']) ?_
      intro wf hwf hkf
      have HWF:=hh hwf
      have HKWF:=hh hkf
      clear hwf hkf))
    have HKZ:Hid (Kept [] w wf):=(KpS.kept HKW6.out HKR.out HBW.out.1).above HKWF.out (by simp)
    have hne:∀(k:Nat) (c:Array Value) (ty:TypeId),wo.heap[k]? =some (Obj.cells c ty (0,0))→ty≠30→wf.heap[k]? =some (Obj.cells c ty (0,0)):=fun k c ty hk hty=>HKWF.out.obj hk (by
     simp
     rintro rfl
     rw[HT0.out]at hk
     simp only[Option.some.injEq,Obj.cells.injEq]at hk
     exact hty hk.2.1.symm)
    refine bodyPost_ret (Zfh (c:=#[.slice (some ⟨kt,0,none⟩) 4 4,.slice (some ⟨ks,0,none⟩) 5 5,.slice ea 15 ec,.slice none 0 0,.slice none 0 0]) rfl rfl ?_) rfl ⟨atE v0 ea ec,kl,p1,p2,?_,?_,⟨⟨kt,?_,?_,?_⟩,⟨ks,?_,?_,?_⟩,?_,?_,?_⟩,HKZ.out,by rw[HV0.out];rfl,by rw[HV0.out];rfl,fun a ha=>by rw[HV0.out]at ha;cases ha;exact HKT.out,fun a ha=>by rw[HV0.out]at ha;cases ha;exact HKS2.out⟩
    ·intro j u hu
     rw[Nat.zero_add,cell_of_row _ _ _ _ _ _ HWF.out]
     simpa using hu
    ·rw[←HVC.out]
     rfl
    ·refine Z7 (base:=B) ?_ HBW.out.1
     exact Zk HBR.out.own HKWF.out (fun q hq=>by have:=HBR.out.own.lt q hq;have:=HBW.out;simp;omega)
    ·rw[HV0.out];rfl
    ·rw[HV0.out];rfl
    ·exact hne _ _ _ (HKR.out.block _ _ HTY6.out (.inr ⟨_,_,_,rfl,by decide,by decide⟩)) (by decide)
    ·rw[HV0.out];rfl
    ·rw[HV0.out];rfl
    ·exact hne _ _ _ (HKR.out.block _ _ HSB6.out (.inr ⟨_,_,_,rfl,by decide,by decide⟩)) (by decide)
    ·exact hne _ _ _ (HKR.out.block _ _ HLI6.out (.inr ⟨_,_,_,rfl,by decide,by decide⟩)) (by decide)
    ·exact hne _ _ _ HP1.out (by decide)
    ·exact hne _ _ _ HP2.out (by decide)
end
end Go.Proofs.YtfaecpkocgcofaaGreatDoor
