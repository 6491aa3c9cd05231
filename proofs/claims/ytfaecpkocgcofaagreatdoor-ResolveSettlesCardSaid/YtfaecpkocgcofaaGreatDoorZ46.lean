/- Lemmas for ResolveSettles, printed small: L4 L5. -/
import Derived.Test.YtfaecpkocgcofaaGreatDoorZ45
set_option linter.all false
set_option maxRecDepth 100000
set_option maxHeartbeats 8000000
open Go.Proofs.Tryz
namespace Go.Proofs.YtfaecpkocgcofaaGreatDoor
section
open Go.RowKit
def ZpJ (ty:TypeId):Bool:=ty == 95 || (ty == 30 || (ty == 86 || ty == 88))
structure KpT (n:Nat) (w w':World):Prop where
 os:w'.os=w.os
 tape:w'.tape=w.tape
 output:w'.output=w.output
 size:w.heap.size≤w'.heap.size
 block:∀k o,w.heap[k]? =some o→(k < n∨∃c ty fr,o= .cells c ty fr∧ZpJ ty=false)→w'.heap[k]? =some o
theorem KpT.refl (n:Nat) (w:World):KpT n w w:=⟨rfl,rfl,rfl,Nat.le_refl _,fun _ _ h _=>h⟩
theorem KpT.trans {n:Nat} {a b c:World} (h:KpT n a b) (k:KpT n b c):KpT n a c:=
 ⟨k.os.trans h.os,k.tape.trans h.tape,k.output.trans h.output,Nat.le_trans h.size k.size,fun i o hi hx=>k.block i o (h.block i o hi hx) hx⟩
theorem KpT.of_kept {n:Nat} {a b:World} (h:Kept [] a b):KpT n a b:=⟨h.os,h.tape,h.output,h.size,fun i o hi _=>h.obj hi (by simp)⟩
theorem KpT.of_grown {n:Nat} {a b:World} {row:Option Nat} (h:a.grownBy b row) (hr:∀k,row=some k→k < a.heap.size→n≤k∧∃c ty fr,a.heap[k]? =some (.cells c ty fr)∧ZpJ ty=true):KpT n a b:=
 ⟨h.os,h.tape,h.output,h.size,fun i o hi hx=>(h.block i (Array.getElem?_eq_some_iff.1 hi).1 (fun e=>by
  obtain⟨h1,c,ty,fr,h2,h3⟩:=hr i e.symm (Array.getElem?_eq_some_iff.1 hi).1
  rcases hx with hx | ⟨c',ty',fr',rfl,h4⟩
  ·omega
  ·rw[hi]at h2
   simp only[Option.some.injEq,Obj.cells.injEq]at h2
   rw[h2.2.1,h3]at h4
   cases h4)).trans hi⟩
theorem KpT.of_set {n B:Nat} {a b:World} (h:Kept [B] a b) (hn:n≤B) {c:Array Value} {ty:TypeId} {fr:Nat×Nat} (hB:a.heap[B]? =some (.cells c ty fr)) (ht:ZpJ ty=true):KpT n a b:=
 ⟨h.os,h.tape,h.output,h.size,fun i o hi hx=>(h.block i (Array.getElem?_eq_some_iff.1 hi).1 (by
  simp only[List.mem_cons,List.not_mem_nil,or_false]
  rintro rfl
  rcases hx with hx | ⟨c',ty',fr',rfl,h4⟩
  ·omega
  ·rw[hB]at hi
   simp only[Option.some.injEq,Obj.cells.injEq]at hi
   rw[←hi.2.1,ht]at h4
   cases h4)).trans hi⟩
theorem KpT.kept {n:Nat} {w w0 W:World} (h0:Kept [] w w0) (h:KpT n w0 W) (hn:w.heap.size≤n):Kept [] w W:=
 ⟨h.os.trans h0.os,h.tape.trans h0.tape,h.output.trans h0.output,Nat.le_trans h0.size h.size,fun k hk _=>by
  obtain⟨o,ho⟩:∃o,w.heap[k]? =some o:=⟨_,Array.getElem?_eq_getElem hk⟩
  rw[ho]
  exact h.block k o (h0.obj ho (by simp)) (.inl (by omega))⟩
structure ZbF (w:World) (n B:Nat) (v:Zp) (t:Tab):Prop where
 box:w.heap[B]? =some (.cells (v.cells t) 30 (0,0))
 ot:w.ownsRow n 86 18 (.slice v.ta t.types.length v.tc) t.types.length (t.types.map TyV.cells).flatten
 os:w.ownsRow n 88 3 (.slice v.sa t.subs.length v.sc) t.subs.length (t.subs.map ZL.cells).flatten
 oe:w.ownsRow n 95 22 (.slice v.ea t.ents.length v.ec) t.ents.length (t.ents.map Zx.cells).flatten
 hn:n≤B
theorem JC {w:World} {n B e m k:Nat} {A:Option Addr} {l c:Nat} {xs:List Value} {cs:Array Value} (h:w.ownsRow n e m (.slice A l c) k xs) (hB:w.heap[B]? =some (.cells cs 30 (0,0))) (he:e≠30):∀g,(Value.slice A l c).ownBlock=some g→n≤g∧g < w.heap.size∧g≠B∧∃c,w.heap[g]? =some (.cells c e (0,0)):=fun g hg=>by
 have h1:=h.lt g hg
 obtain⟨c,hc⟩:=Qj h hg
 refine⟨h1.1,h1.2,?_,c,hc⟩
 rintro rfl
 rw[hc]at hB
 simp only[Option.some.injEq,Obj.cells.injEq]at hB
 exact he hB.2.1
theorem Jb {w:World} {n e e' m m' k k':Nat} {v v':Value} {xs xs':List Value} (h:w.ownsRow n e m v k xs) (h':w.ownsRow n e' m' v' k' xs') (he:e≠e'):∀g,v.ownBlock=some g→v'.ownBlock=some g→False:=fun g hg hg'=>by
 obtain⟨c,hc⟩:=Qj h hg
 obtain⟨c',hc'⟩:=Qj h' hg'
 rw[hc]at hc'
 simp only[Option.some.injEq,Obj.cells.injEq]at hc'
 exact he hc'.2.1
theorem Ja {w w':World} {base e size n:Nat} {v:Value} {xs:List Value} {row:Option Nat} (h:w.ownsRow base e size v n xs) (hg:w.grownBy w' row) (hx:∀k,v.ownBlock=some k→row≠some k):w'.ownsRow base e size v n xs:=by
 have hk:Kept (match row with | some g=>[g] | none=>[]) w w':=⟨hg.os,hg.tape,hg.output,hg.size,fun i hi hx=>hg.block i hi (fun e=>hx (by subst e;simp))⟩
 exact Zk h hk (fun k hk2=>by
  have:=hx k hk2
  cases row with
  | none=>simp
  | some g=>simp;rintro rfl;exact this rfl)
theorem ZbF.kept {w w':World} {n B:Nat} {v:Zp} {t:Tab} (h:ZbF w n B v t) (hk:Kept [] w w'):ZbF w' n B v t:=
 ⟨hk.obj h.box (by simp),Zk h.ot hk (by simp),Zk h.os hk (by simp),Zk h.oe hk (by simp),h.hn⟩
theorem ZbF.types {w wb:World} {n B:Nat} {v:Zp} {t:Tab} {s:TyV} {Ab:Option Addr} {cb:Nat} (h:ZbF w n B v t) (ho:wb.ownsRow n 86 18 (.slice Ab (t.types.length+1) cb) (t.types.length+1) ((t.types.map TyV.cells).flatten++s.cells)) (hg:w.grownBy wb (Value.slice v.ta t.types.length v.tc).ownBlock):
 ZbF (wb.setCell ⟨B,0,none⟩ (.slice Ab (t.types.length+1) cb)) n B {v with ta:=Ab,tc:=cb} {t with types:=t.types++ [s]}∧KpT n w (wb.setCell ⟨B,0,none⟩ (.slice Ab (t.types.length+1) cb)):=by
 have hne:=JC h.ot h.box (by decide)
 have hBlt:B < w.heap.size:=(Array.getElem?_eq_some_iff.1 h.box).1
 have hBb:wb.heap[B]? =some (.cells (v.cells t) 30 (0,0)):=(hg.block B hBlt (fun e=>(hne B e.symm).2.2.1 rfl)).trans h.box
 have hk':Kept [B] wb (wb.setCell ⟨B,0,none⟩ (.slice Ab (t.types.length+1) cb)):=Kept.setCell _ _ _ (by simp)
 have hX:=Ja h.os hg (fun k hk e=>Jb h.os h.ot (by decide) k hk e)
 have hY:=Ja h.oe hg (fun k hk e=>Jb h.oe h.ot (by decide) k hk e)
 have hl:(t.types++ [s]).length=t.types.length+1:=by simp
 refine⟨⟨?_,?_,?_,?_,h.hn⟩,(KpT.of_grown hg (fun g hgr _=>?_)).trans (KpT.of_set hk' h.hn hBb (by decide))⟩
 ·have h0:Y4 wb B 30 (v.cells t).toList:=hBb
  have h1:=h0.set 0 (.slice Ab (t.types.length+1) cb)
  rw[Zp.cells,hl]
  exact h1
 ·rw[hl,List.map_append,List.flatten_append]
  have h2:=Zk ho hk' (fun g hg'=>by have:=(JC ho hBb (by decide) g hg').2.2.1;simpa using this)
  simpa using h2
 ·exact Zk hX hk' (fun g hg'=>by have:=(JC hX hBb (by decide) g hg').2.2.1;simpa using this)
 ·exact Zk hY hk' (fun g hg'=>by have:=(JC hY hBb (by decide) g hg').2.2.1;simpa using this)
 ·obtain⟨h1,_,_,c,hc⟩:=hne g hgr
  exact⟨h1,c,_,_,hc,by decide⟩
theorem ZbF.subs {w wb:World} {n B:Nat} {v:Zp} {t:Tab} {s:ZL} {Ab:Option Addr} {cb:Nat} (h:ZbF w n B v t) (ho:wb.ownsRow n 88 3 (.slice Ab (t.subs.length+1) cb) (t.subs.length+1) ((t.subs.map ZL.cells).flatten++s.cells)) (hg:w.grownBy wb (Value.slice v.sa t.subs.length v.sc).ownBlock):
 ZbF (wb.setCell ⟨B,1,none⟩ (.slice Ab (t.subs.length+1) cb)) n B {v with sa:=Ab,sc:=cb} {t with subs:=t.subs++ [s]}∧KpT n w (wb.setCell ⟨B,1,none⟩ (.slice Ab (t.subs.length+1) cb)):=by
 have hne:=JC h.os h.box (by decide)
 have hBlt:B < w.heap.size:=(Array.getElem?_eq_some_iff.1 h.box).1
 have hBb:wb.heap[B]? =some (.cells (v.cells t) 30 (0,0)):=(hg.block B hBlt (fun e=>(hne B e.symm).2.2.1 rfl)).trans h.box
 have hk':Kept [B] wb (wb.setCell ⟨B,1,none⟩ (.slice Ab (t.subs.length+1) cb)):=Kept.setCell _ _ _ (by simp)
 have hX:=Ja h.ot hg (fun k hk e=>Jb h.ot h.os (by decide) k hk e)
 have hY:=Ja h.oe hg (fun k hk e=>Jb h.oe h.os (by decide) k hk e)
 have hl:(t.subs++ [s]).length=t.subs.length+1:=by simp
 refine⟨⟨?_,?_,?_,?_,h.hn⟩,(KpT.of_grown hg (fun g hgr _=>?_)).trans (KpT.of_set hk' h.hn hBb (by decide))⟩
 ·have h0:Y4 wb B 30 (v.cells t).toList:=hBb
  have h1:=h0.set 1 (.slice Ab (t.subs.length+1) cb)
  rw[Zp.cells,hl]
  exact h1
 ·exact Zk hX hk' (fun g hg'=>by have:=(JC hX hBb (by decide) g hg').2.2.1;simpa using this)
 ·rw[hl,List.map_append,List.flatten_append]
  have h2:=Zk ho hk' (fun g hg'=>by have:=(JC ho hBb (by decide) g hg').2.2.1;simpa using this)
  simpa using h2
 ·exact Zk hY hk' (fun g hg'=>by have:=(JC hY hBb (by decide) g hg').2.2.1;simpa using this)
 ·obtain⟨h1,_,_,c,hc⟩:=hne g hgr
  exact⟨h1,c,_,_,hc,by decide⟩
theorem ZbF.ents {w wb:World} {n B:Nat} {v:Zp} {t:Tab} {s:Zx} {Ab:Option Addr} {cb:Nat} (h:ZbF w n B v t) (ho:wb.ownsRow n 95 22 (.slice Ab (t.ents.length+1) cb) (t.ents.length+1) ((t.ents.map Zx.cells).flatten++s.cells)) (hg:w.grownBy wb (Value.slice v.ea t.ents.length v.ec).ownBlock):
 ZbF (wb.setCell ⟨B,2,none⟩ (.slice Ab (t.ents.length+1) cb)) n B {v with ea:=Ab,ec:=cb} {t with ents:=t.ents++ [s]}∧KpT n w (wb.setCell ⟨B,2,none⟩ (.slice Ab (t.ents.length+1) cb)):=by
 have hne:=JC h.oe h.box (by decide)
 have hBlt:B < w.heap.size:=(Array.getElem?_eq_some_iff.1 h.box).1
 have hBb:wb.heap[B]? =some (.cells (v.cells t) 30 (0,0)):=(hg.block B hBlt (fun e=>(hne B e.symm).2.2.1 rfl)).trans h.box
 have hk':Kept [B] wb (wb.setCell ⟨B,2,none⟩ (.slice Ab (t.ents.length+1) cb)):=Kept.setCell _ _ _ (by simp)
 have hX:=Ja h.ot hg (fun k hk e=>Jb h.ot h.oe (by decide) k hk e)
 have hY:=Ja h.os hg (fun k hk e=>Jb h.os h.oe (by decide) k hk e)
 have hl:(t.ents++ [s]).length=t.ents.length+1:=by simp
 refine⟨⟨?_,?_,?_,?_,h.hn⟩,(KpT.of_grown hg (fun g hgr _=>?_)).trans (KpT.of_set hk' h.hn hBb (by decide))⟩
 ·have h0:Y4 wb B 30 (v.cells t).toList:=hBb
  have h1:=h0.set 2 (.slice Ab (t.ents.length+1) cb)
  rw[Zp.cells,hl]
  exact h1
 ·exact Zk hX hk' (fun g hg'=>by have:=(JC hX hBb (by decide) g hg').2.2.1;simpa using this)
 ·exact Zk hY hk' (fun g hg'=>by have:=(JC hY hBb (by decide) g hg').2.2.1;simpa using this)
 ·rw[hl,List.map_append,List.flatten_append]
  have h2:=Zk ho hk' (fun g hg'=>by have:=(JC ho hBb (by decide) g hg').2.2.1;simpa using this)
  simpa using h2
 ·obtain⟨h1,_,_,c,hc⟩:=hne g hgr
  exact⟨h1,c,_,_,hc,by decide⟩
theorem Zai {w wb:World} {n e m k:Nat} {v:Value} {xs:List Value} {X:Nat} {c:Array Value} {ty:TypeId} (h:w.ownsRow n e m v k xs) (hg:w.grownBy wb v.ownBlock) (hX:w.heap[X]? =some (.cells c ty (0,0))) (hty:ty≠e):wb.heap[X]? =some (.cells c ty (0,0)):=
 (hg.block X (Array.getElem?_eq_some_iff.1 hX).1 (fun e'=>by
  obtain⟨c',hc'⟩:=Qj h e'.symm
  rw[hX]at hc'
  simp only[Option.some.injEq,Obj.cells.injEq]at hc'
  exact hty hc'.2.1)).trans hX
def zTy:TyV:=⟨0,⟨#[]⟩,0,0,none,0,[],0,0,0,⟨#[]⟩,false,0,none,0,[],0,0,false,0,0,0⟩
def ZuH:ZL:=⟨0,0,0⟩
def Ztq:Zd:=⟨⟨#[]⟩,0,0,Zg,0⟩
theorem ZlF:(prog.info? 95).map (fun i=>(i.zero,i.size,i.bytes))=some (some (.agg Yu.cells.toArray),22,176):=by kernel_rfl
theorem ZmN:(prog.info? 86).map (fun i=>(i.zero,i.size,i.bytes))=some (some (.agg zTy.cells.toArray),18,184):=by kernel_rfl
theorem Zkb:(prog.info? 88).map (fun i=>(i.zero,i.size,i.bytes))=some (some (.agg ZuH.cells.toArray),3,24):=by kernel_rfl
theorem Zkz:(prog.info? 98).map (fun i=>(i.zero,i.size,i.bytes))=some (some (.agg Ztq.cells.toArray),13,144):=by kernel_rfl
def Zuo (v0 v2:Value):Sem Next:=do return .value (←Instr.build 88 #[(0,v0),(2,v2)])
@[go_sem ↓] theorem ZqM (ρ:Operand→Value) (dst:Option Tmp) (x0 x2:Operand) (ty:TypeId) (pos:String) (after:Array Edge) (guard:Option (Nat×Bool)):
 execOp ρ {dst,op:= .build 88 #[(0,x0),(2,x2)],type:=ty,pos,after,guard}=Zuo (ρ x0) (ρ x2):=by simp[execOp,Zuo]
@[go_sem] theorem Zs7 (w:World) (a:Int):Sem.run prog (Zuo (.int .i64 a) (.int .i64 1)) w= .ok (.value (.agg (ZL.mk a 0 1).cells.toArray)) w:=by kernel_rfl
def ZkD (y:TyV) (name:ByteArray) (la:Option Addr) (lc:Nat) (lits:List ByteArray) (first:Int):TyV:={y with name:=name,lits:=lits,la:=la,lc:=lc,first:=first}
def Zur (t:Tab) (y:TyV):Tab:={t with types:=t.types++ [y],subs:=t.subs++ [⟨(t.types.length:Int),0,1⟩]}
def Zuv (n B:Nat) (t:Tab) (y:TyV) (w:World) (e:Ending) (w':World):Prop:=e= .returned (.tuple #[])∧∃v',ZbF w' n B v' (Zur t y)∧KpT n w w'
theorem Ze7 (w:World) (n B:Nat) (v:Zp) (t:Tab) (y:TyV) (hB:ZbF w n B v t) (hs:t.types.length≤5000∧t.subs.length≤5000) (hy:t.types[2]? =some y) (name:ByteArray) (la:Option Addr) (lc:Nat) (lits:List ByteArray):
 Calls prog 26 #[.string name,.slice la lits.length lc,.pointer (some ⟨B,0,none⟩)] w (Zuv n B t (ZkD y name la lc lits t.subs.length) w):=by
 have HB:=hh hB
 obtain⟨i0,hi0,hz0,hz1,hz2b⟩:=info_parts ZmN
 obtain⟨i1,hi1,hy0,hy1,hy2⟩:=info_parts Zkb
 have hBlt:B < w.heap.size:=(Array.getElem?_eq_some_iff.1 hB.box).1
 have hnB:=hB.hn
 obtain⟨A0,c0,e0,_,_,_,hr0⟩:=YF hB.ot TyV.len rfl
 injection e0 with e1 e2 e3
 rw[←e1]at hr0
 clear e1 e2 e3
 obtain⟨b,o,ha,hr⟩:=hr0.some_ hy
 haveI iy:Zar w b (o+2*18) y:=⟨hr 2 y hy⟩
 haveI iy':Zar w b (o+36) y:=iy
 haveI bB:Zc w B 30 (v.cells t):=⟨hB.box⟩
 have hl2:2 < t.types.length:=(List.getElem?_eq_some_iff.1 hy).1
 have hl2':(2:Int) < (t.types.length:Int):=by omega
 clear hB hr0 hr hy
 unfold Zp.cells at bB
 go_enter func26,ntmps26
 go_upto_region 1 with fail
 refine Zm ?_
 intro w1 hw1
 haveI p_w1:Zb w1 w:=⟨by rw[hw1];exact kp⟩
 haveI bX:Zc w1 w.heap.size 86 y.cells.toArray:=by rw[hw1];infer_instance
 haveI ap:Qf w.heap.size B:=⟨by omega⟩
 have hw1z:w1.heap.size=w.heap.size+1:=by rw[hw1];simp
 clear hw1 ha
 unfold TyV.cells at bX
 go_wp2_with fail
 go_region
 go_upto_region 2 with fail
 refine Zm ?_
 intro w2 hw2
 obtain⟨Y,hY⟩:∃Y,ZkD y name la lc lits t.subs.length=Y:=⟨_,rfl⟩
 have hx1:Y4 w1 w.heap.size 86 y.cells:=bX.has
 have HX2:Hid (w2.heap[w.heap.size]? =some (.cells Y.cells.toArray 86 (0,0))):=by
  rw[Hid,hw2,←hY]
  exact(((hx1.set 1 (.string name)).set 4 (.slice la lits.length lc)).set 3 (.int .i64 t.subs.length)).kept (X:=[]) (Kept.drew _ _) (by simp)
 have hk2:Kept [w.heap.size] w1 w2:=by
  rw[hw2]
  exact(((Kept.setCell _ _ _ (by simp)).trans (Kept.setCell _ _ _ (by simp))).trans (Kept.setCell _ _ _ (by simp))).trans (Kept.drew _ _)
 have HK2:Hid (Kept [] w w2):=p_w1.kept.above hk2 (by simp)
 have hw2z:w2.heap.size=w.heap.size+1:=by rw[hw2];simp[hw1z]
 rw[hY]
 clear hw2 hk2 hx1 bX p_w1 hw1z
 haveI p_w2:Zb w2 w:=⟨HK2.out⟩
 generalize w.heap.size=X at*
 have HT2:=hh (HB.out.kept HK2.out)
 have hsrc:∀kb,kb=w2.heap.size→YG (w2.alloc (.cells ([(⟨t.types.length,0,1⟩:ZL)].map ZL.cells).flatten.toArray 88)) 3 (some ⟨kb,0,none⟩) 1 (ZL.cells ⟨t.types.length,0,1⟩):=by
  rintro kb rfl
  refine⟨rfl,fun _=>⟨_,rfl,fun j u hu=>?_⟩⟩
  rw[Addr.add_mid,Nat.zero_add,cell_of_row _ _ _ _ _ _ (heap_alloc_new _ _)]
  simpa using hu
 have HSRC:=hh hsrc
 have hA:t.subs.length+1≤maxLen:=by unfold maxLen;omega
 have hBy:(t.subs.length+1)*24≤140737488355328:=by omega
 have hC:Hid (n≤(w2.alloc (.cells ([(⟨t.types.length,0,1⟩:ZL)].map ZL.cells).flatten.toArray 88)).heap.size):=by simp[Hid];omega
 have H1C:Hid (∀u∈(ZL.cells ⟨t.types.length,0,1⟩),u.oneCell'=true):=by simp[Hid,ZL.cells,Value.oneCell']
 clear hsrc
 have hsl:=hs.2
 go_upto_region 3 with(first
  | (
   refine ZC ZL.cells 3 ZL.len (by decide) [(⟨t.types.length,0,1⟩:ZL)] rfl 25 88 1 #[(0,.tmp 23)] rfl i1 underlying25 hi1 (by rw[hy0];rfl) hy1 rfl (by decide) (by decide) rfl ?_
   intro kb hkb)
  | (
   at_builtin
   go_loud (refine Zt _ rfl (.tmp 19) (.tmp 24) 25 rfl n 88 i1 (.agg ZuH.cells.toArray) 3 24 underlying25 hi1 hy0 hy1 hy2 rfl (by decide) (.slice v.sa t.subs.length v.sc) t.subs.length (t.subs.map ZL.cells).flatten rfl (HT2.out.os.alloc _) (some ⟨kb,0,none⟩) 1 1 (ZL.cells ⟨t.types.length,0,1⟩) rfl (HSRC.out kb hkb) H1C.out hA hBy hC.out ?_)
   intro vb wb hob hgb hbb
   obtain⟨Ab,cb,rfl⟩:=Zq hob
   have HNX:=hh ((HT2.out.kept (Kept.alloc _ _ _)).subs hob hgb)
   have hBb:=Zai (HT2.out.os.alloc _) hgb ((HT2.out.kept (Kept.alloc _ _ _)).box) (by decide)
   have HXb:=hh (Zai (HT2.out.os.alloc _) hgb ((Kept.alloc [] _ _).obj HX2.out (by simp)) (by decide))
   have cBb:wb.cell? ⟨B,1,none⟩=some (.slice v.sa t.subs.length v.sc):=(cell_of_row _ _ _ _ _ _ hBb).trans rfl
   have fBb:=frozen_of_row _ _ 1 _ _ hBb
   clear hob hgb hbb hBb))
 refine Zm ?_
 intro w3 hw3
 have hBX:B≠X:=by omega
 have HT3:Hid (ZbF w3 n B {v with sa:=Ab,sc:=cb} {t with subs:=t.subs++ [⟨t.types.length,0,1⟩]}):=by rw[Hid,hw3];exact HNX.out.1
 have HK3:Hid (KpT n w2 w3):=by rw[Hid,hw3];exact(KpT.of_kept (Kept.alloc _ _ _)).trans HNX.out.2
 have HX3:Hid (w3.heap[X]? =some (.cells Y.cells.toArray 86 (0,0))):=by rw[Hid,hw3];exact(heap_setCell_other _ _ _ _ (by simp;omega)).trans HXb.out
 clear hw3 HNX HXb cBb fBb hsl hA hBy hC H1C HSRC HX2 hkb
 haveI iX:Zar w3 X 0 Y:=⟨ZR (l:=Y.cells) HX3.out⟩
 haveI bB3:Zc w3 B 30 #[.slice v.ta t.types.length v.tc,.slice Ab (t.subs.length+1) cb,.slice v.ea t.ents.length v.ec,.slice v.ga v.gn v.gc,.slice v.ia v.im v.ic]:=⟨by have:=HT3.out.box;simpa [Zp.cells]using this⟩
 have hsrc:∀kb,kb=w3.heap.size→YG (w3.alloc (.cells ([Y].map TyV.cells).flatten.toArray 86)) 18 (some ⟨kb,0,none⟩) 1 Y.cells:=by
  rintro kb rfl
  refine⟨rfl,fun _=>⟨_,rfl,fun j u hu=>?_⟩⟩
  rw[Addr.add_mid,Nat.zero_add,cell_of_row _ _ _ _ _ _ (heap_alloc_new _ _)]
  simpa using hu
 have HSRC:=hh hsrc
 have hA:t.types.length+1≤maxLen:=by unfold maxLen;omega
 have hBy:(t.types.length+1)*184≤140737488355328:=by omega
 have hC:Hid (n≤(w3.alloc (.cells ([Y].map TyV.cells).flatten.toArray 86)).heap.size):=by have:=HK3.out.size;have:=HK2.out.size;simp[Hid];omega
 have H1C:Hid (∀u∈Y.cells,u.oneCell'=true):=by have:=TyV.one Y;simpa [Hid]using this
 clear hsrc
 go_wp2_with (first
  | (
   refine ZC TyV.cells 18 TyV.len (by decide) [Y] rfl 24 86 1 #[(0,.tmp 29)] rfl i0 underlying24 hi0 (by rw[hz0];rfl) hz1 rfl (by decide) (by decide) rfl ?_
   intro kb hkb)
  | (
   at_builtin
   go_loud (refine Zt _ rfl (.tmp 28) (.tmp 30) 24 rfl n 86 i0 (.agg zTy.cells.toArray) 18 184 underlying24 hi0 hz0 hz1 hz2b rfl (by decide) (.slice v.ta t.types.length v.tc) t.types.length (t.types.map TyV.cells).flatten rfl (HT3.out.ot.alloc _) (some ⟨kb,0,none⟩) 1 1 Y.cells rfl (HSRC.out kb hkb) H1C.out hA hBy hC.out ?_)
   intro vb wb hob hgb hbb
   obtain⟨Ac,cc,rfl⟩:=Zq hob
   have HNX:=hh ((HT3.out.kept (Kept.alloc _ _ _)).types hob hgb)
   have hBb:=Zai (HT3.out.ot.alloc _) hgb ((HT3.out.kept (Kept.alloc _ _ _)).box) (by decide)
   have cBb:wb.cell? ⟨B,0,none⟩=some (.slice v.ta t.types.length v.tc):=(cell_of_row _ _ _ _ _ _ hBb).trans rfl
   have fBb:=frozen_of_row _ _ 0 _ _ hBb
   clear hob hgb hbb hBb))
 refine bodyPost_ret (results_none rfl _ _ _) rfl ⟨rfl,_,HNX.out.1,?_⟩
 exact(((KpT.of_kept HK2.out).trans HK3.out).trans (KpT.of_kept (Kept.alloc _ _ _))).trans HNX.out.2
def J1 (k:Int) (n:ByteArray) (o ty sub val:Int):Zx:={ZK k n with owner:=o,t:=ty,sub:=sub,value:=val,unit:=0}
def Q3 (x:Zx) (pa:Option Addr) (pc:Nat) (ps:List Zd):Zx:={x with pa:=pa,pc:=pc,params:=ps}
def Yc (p:Int):Zd:=⟨⟨#[88]⟩,1,p,Zg,-1⟩
def Ziv (w:World) (pa:Option Addr) (pc:Nat) (ps:List Zd):Prop:=w.ownsRow 0 98 13 (.slice pa ps.length pc) ps.length (ps.map Zd.cells).flatten
theorem Ziv.kpt {n:Nat} {w w':World} {pa:Option Addr} {pc:Nat} {ps:List Zd} (h:Ziv w pa pc ps) (hk:KpT n w w'):Ziv w' pa pc ps:=by
 rcases h.2 with⟨h1,h2⟩ | ⟨g,cap,cur,h1,hb,hg,hnc,hcm,hcs,htk⟩
 ·exact⟨h.1,.inl ⟨h1,h2⟩⟩
 ·exact⟨h.1,.inr ⟨g,cap,cur,h1,hb,hk.block _ _ hg (.inr ⟨_,_,_,rfl,by decide⟩),hnc,hcm,hcs,htk⟩⟩
def ZuC (n B:Nat) (t:Tab) (x:Zx) (ps:List Zd) (w:World) (e:Ending) (w':World):Prop:=
 e= .returned (.tuple #[])∧∃v' pa pc,ZbF w' n B v' {t with ents:=t.ents++ [Q3 x pa pc ps]}∧Ziv w' pa pc ps∧KpT n w w'
def Zup (v0 v1 v2 v4:Value):Sem Next:=do return .value (←Instr.build 98 #[(0,v0),(1,v1),(2,v2),(4,v4)])
@[go_sem ↓] theorem ZqN (ρ:Operand→Value) (dst:Option Tmp) (x0 x1 x2 x4:Operand) (ty:TypeId) (pos:String) (after:Array Edge) (guard:Option (Nat×Bool)):
 execOp ρ {dst,op:= .build 98 #[(0,x0),(1,x1),(2,x2),(4,x4)],type:=ty,pos,after,guard}=Zup (ρ x0) (ρ x1) (ρ x2) (ρ x4):=by simp[execOp,Zup]
@[go_sem] theorem Zs8 (w:World) (p:Int):Sem.run prog (Zup (.string ⟨#[88]⟩) (.int .u8 1) (.int .i64 p) (.int .i64 (-1))) w= .ok (.value (.agg (Yc p).cells.toArray)) w:=by kernel_rfl
theorem ZeU (x:Zx) (pa pa':Option Addr) (pc pc':Nat) (ps ps':List Zd):(Q3 x pa' pc' ps').cells=(Q3 x pa pc ps).cells.set 6 (.slice pa' ps'.length pc'):=rfl
theorem Kept.grownX {X:List Nat} {a b c:World} {row:Option Nat} (h:Kept X a b) (hg:b.grownBy c row) (hr:∀k,row=some k→a.heap.size≤k):Kept X a c:=
 ⟨hg.os.trans h.os,hg.tape.trans h.tape,hg.output.trans h.output,Nat.le_trans h.size hg.size,fun k hk hx=>(hg.block k (Nat.lt_of_lt_of_le hk h.size) (fun e=>by have:=hr k e.symm;omega)).trans (h.block k hk hx)⟩
theorem Zkf (w:World) (n B:Nat) (v:Zp) (t:Tab) (hB:ZbF w n B v t) (hs:t.ents.length≤5000) (k:Int) (name:ByteArray) (ty sub val:Int) (A:Option Addr) (c:Nat) (xs:List Int) (hxs:ZM w A xs) (hxl:xs.length≤100):
 Calls prog 27 #[.int .u8 k,.string name,.int .i64 ty,.int .i64 sub,.int .i64 val,.slice A xs.length c,.pointer (some ⟨B,0,none⟩)] w (ZuC n B t (J1 k name (if t.ents.length=15 then 0 else 15) ty sub val) (xs.map Yc) w):=by
 have HB:=hh hB
 have HXS:=hh hxs
 obtain⟨i0,hi0,hz0,hz1,hz2⟩:=info_parts ZlF
 obtain⟨i1,hi1,hy0,hy1,hy2⟩:=info_parts Zkz
 have hBlt:B < w.heap.size:=(Array.getElem?_eq_some_iff.1 hB.box).1
 have hnB:=hB.hn
 have HC:=hh (Zcg w k name)
 obtain⟨E,hE⟩:∃E,J1 k name (if t.ents.length=15 then 0 else 15) ty sub val=E:=⟨_,rfl⟩
 rw[hE]
 have HE:=hh hE
 clear hB hxs hE
 go_enter func27,ntmps27
 go_upto_region 1 with(first | (go_at_call 28;refine HC.out.mono ?_;rintro e w1 ⟨rfl,hk1⟩;have HK1:=hh hk1;clear hk1) | (refine ZY rfl 95 (.tmp 13) (.tmp 18) rfl _ (ZK k name).cells.toArray w1.heap.size rfl rfl rfl (Tryz.infoEnt _) rfl (Zx.one _) ?_))
 refine Zm ?_
 intro w2 hw2
 have hk2:Kept [] w1 w2:=by rw[hw2];exact Kept.alloc _ _ _
 have hx2:w2.heap[w1.heap.size]? =some (.cells (ZK k name).cells.toArray 95 (0,0)):=by rw[hw2];exact heap_alloc_new _ _
 have hX:w.heap.size≤w1.heap.size:=HK1.out.size
 have hlt2:w1.heap.size < w2.heap.size:=(Array.getElem?_eq_some_iff.1 hx2).1
 have HK2:=hh (HK1.out.trans hk2)
 have HX2:=hh hx2
 have HT2:=hh (HB.out.kept HK2.out)
 generalize w1.heap.size=X at*
 clear hw2 hk2 hx2 HC
 have c2:=Zz (x:=ZK k name) HX2.out 2 rfl
 have c4:=Zz (x:=ZK k name) HX2.out 4 rfl
 have c5:=Zz (x:=ZK k name) HX2.out 5 rfl
 have c10:=Zz (x:=ZK k name) HX2.out 10 rfl
 have c20:=Zz (x:=ZK k name) HX2.out 20 rfl
 have f2:=frozen_of_row _ _ 2 _ _ HX2.out
 have f4:=frozen_of_row _ _ 4 _ _ HX2.out
 have f5:=frozen_of_row _ _ 5 _ _ HX2.out
 have f10:=frozen_of_row _ _ 10 _ _ HX2.out
 have f20:=frozen_of_row _ _ 20 _ _ HX2.out
 have cB2:w2.cell? ⟨B,2,none⟩=some (.slice v.ea t.ents.length v.ec):=(cell_of_row _ _ _ _ _ _ HT2.out.box).trans rfl
 have hBX:B≠X:=by omega
 have hXB:X≠B:=by omega
 by_cases ho:t.ents.length=15
 ·have ho':((t.ents.length:Int) == 15)=true:=by simp[ho]
  have hE2:J1 k name 0 ty sub val=E:=by have:=HE.out;rwa [if_pos ho]at this
  clear ho
  go_upto_region 4 with(fail)
  refine Zm ?_
  intro wx hwx
  have h0:Y4 w2 X 95 (ZK k name).cells:=HX2.out
  have hEX:Y4 wx X 95 E.cells:=by
   rw[hwx,←hE2]
   exact(((((h0.set 2 (.int .i64 15)).set 4 (.int .i64 ty)).set 5 (.int .i64 sub)).set 10 (.int .i64 val)).set 20 (.int .i64 0)).set 2 (.int .i64 0)
  have hkx:Kept [X] w2 wx:=by
   rw[hwx]
   exact(((((Kept.setCell _ _ _ (by simp)).trans (Kept.setCell _ _ _ (by simp))).trans (Kept.setCell _ _ _ (by simp))).trans (Kept.setCell _ _ _ (by simp))).trans (Kept.setCell _ _ _ (by simp))).trans (Kept.setCell _ _ _ (by simp))
  clear h0
  have HKX:Hid (Kept [] w wx):=HK2.out.above hkx (by simp;omega)
  have HEX:=hh hEX
  have hzx:w2.heap.size≤wx.heap.size:=hkx.size
  have HW0:Hid (Q3 E none 0 []=E):=by rw[Hid,←hE2];rfl
  clear hwx hEX hkx hE2 HE c2 c4 c5 c10 c20 f2 f4 f5 f10 f20 cB2 HX2 HK2 HK1
  go_wp2_with fail
  go_loopw [34] (fun s34 wr=>∃(k:Nat) (pa:Option Addr) (pc:Nat),s34= .int .i64 k∧k≤xs.length∧wr.ownsRow wx.heap.size 98 13 (.slice pa k pc) k (((xs.take k).map Yc).map Zd.cells).flatten∧wr.heap[X]? =some (.cells (Q3 E pa pc ((xs.take k).map Yc)).cells.toArray 95 (0,0))∧Kept [X] wx wr) (fun s34 _=>xs.length - (intOf s34).toNat)
  case atStart=>exact⟨0,none,0,rfl,Nat.zero_le _,World.ownsRow_nil _ _ _ _,by show wx.heap[X]? =some (.cells (Q3 E none 0 []).cells.toArray 95 (0,0));rw[HW0.out];exact HEX.out,Kept.refl _ _⟩
  case round=>
   obtain⟨k,pa,pc,rfl,hk,ho,hb,hkr⟩:=hrel
   have HO:=hh ho
   have HBX:=hh hb
   have HKR:=hh hkr
   have HKW:Hid (Kept [] w wr):=HKX.out.above hkr (by simp;omega)
   have hltX:X < wr.heap.size:=(Array.getElem?_eq_some_iff.1 hb).1
   have htk:((xs.take k).map Yc).length=k:=by rw[List.length_map,List.length_take];omega
   clear ho hb hkr
   by_cases hlt:k < xs.length
   ·obtain⟨p,hp⟩:∃p,xs[k]? =some p:=⟨_,List.getElem?_eq_getElem hlt⟩
    obtain⟨b,o,rfl,hc⟩:∃b o,A=some ⟨b,o,none⟩∧w.cell? ⟨b,o+k,none⟩=some (.int .i64 p):=by
     rcases HXS.out with h0 | ⟨b,o,h1,h2⟩
     ·rw[h0]at hlt;simp at hlt
     ·exact⟨b,o,h1,h2 k p hp⟩
    have cP:wr.cell? ⟨b,o+k,none⟩=some (.int .i64 p):=HKW.out.cell hc (by simp)
    have cX:wr.cell? ⟨X,6,none⟩=some (.slice pa k pc):=by
     have h1:=Zz (x:=Q3 E pa pc ((xs.take k).map Yc)) HBX.out 6 rfl
     rw[h1]
     show some (Value.slice pa ((xs.take k).map Yc).length pc)=_
     rw[htk]
    have htk2:(((xs.take (k+1)).map Yc).map Zd.cells).flatten=(((xs.take k).map Yc).map Zd.cells).flatten++(Yc p).cells:=by
     obtain⟨h1,rfl⟩:=List.getElem?_eq_some_iff.1 hp
     rw[List.take_succ_eq_append_getElem h1,List.map_append,List.map_append,List.flatten_append]
     simp only[List.map_cons,List.map_nil,List.flatten_cons,List.flatten_nil,List.append_nil]
    have HTK2:=hh htk2
    have hlt':(k:Int) < (xs.length:Int):=by omega
    have hsrc:∀kb,kb=wr.heap.size→YG (wr.alloc (.cells ([Yc p].map Zd.cells).flatten.toArray 98)) 13 (some ⟨kb,0,none⟩) 1 (Yc p).cells:=by
     rintro kb rfl
     refine⟨rfl,fun _=>⟨_,rfl,fun j u hu=>?_⟩⟩
     rw[Addr.add_mid,Nat.zero_add,cell_of_row _ _ _ _ _ _ (heap_alloc_new _ _)]
     simpa using hu
    have HSRC:=hh hsrc
    have hA:k+1≤maxLen:=by unfold maxLen;omega
    have hBy:(k+1)*144≤140737488355328:=by omega
    have hC:Hid (wx.heap.size≤(wr.alloc (.cells ([Yc p].map Zd.cells).flatten.toArray 98)).heap.size):=by have:=HKR.out.size;simp[Hid];omega
    have H1C:Hid (∀u∈(Yc p).cells,u.oneCell'=true):=by have:=(Yc p).one;simpa [Hid]using this
    clear hsrc htk2 hc
    go_wp2_with (first
     | (
      refine ZC Zd.cells 13 Zd.len (by decide) [Yc p] rfl 91 98 1 #[(0,.tmp 41)] rfl i1 underlying91 hi1 (by rw[hy0];rfl) hy1 rfl (by decide) (by decide) rfl ?_
      intro kb hkb)
     | (
      at_builtin
      go_loud (refine Zt _ rfl (.tmp 39) (.tmp 42) 91 rfl wx.heap.size 98 i1 (.agg Ztq.cells.toArray) 13 144 underlying91 hi1 hy0 hy1 hy2 rfl (by decide) (.slice pa k pc) k (((xs.take k).map Yc).map Zd.cells).flatten rfl (HO.out.alloc _) (some ⟨kb,0,none⟩) 1 1 (Yc p).cells rfl (HSRC.out kb hkb) H1C.out hA hBy hC.out ?_)
      intro vb wb hob hgb hbb
      obtain⟨Ab,cb,rfl⟩:=Zq hob
      have hXb:=Zai (HO.out.alloc _) hgb ((Kept.alloc [] _ _).obj HBX.out (by simp)) (by decide)
      have HOB:=hh hob
      have HXB:=hh hXb
      have HGB:Hid (Kept [X] wx wb):=(HKR.out.trans (Kept.alloc _ _ _)).grownX hgb (fun g hg=>(HO.out.lt g hg).1)
      have cXb:wb.cell? ⟨X,6,none⟩=some (.slice pa k pc):=by
       have h1:=Zz (x:=Q3 E pa pc ((xs.take k).map Yc)) hXb 6 rfl
       rw[h1]
       show some (Value.slice pa ((xs.take k).map Yc).length pc)=_
       rw[htk]
      have fXb:=frozen_of_row _ _ 6 _ _ hXb
      clear hob hgb hbb hXb))
    go_roundw
    case rel=>
     refine⟨k+1,Ab,cb,by go_num,by omega,?_,?_,HGB.out.trans (Kept.setCell _ _ _ (by simp))⟩
     ·rw[HTK2.out]
      exact Zk HOB.out (Kept.setCell (X:=[X]) _ _ _ (by simp)) (fun g hg=>by
       obtain⟨c',hc'⟩:=Qj HOB.out hg
       simp
       rintro rfl
       have h2:=HXB.out
       rw[hc']at h2
       simp at h2)
     ·have h0:Y4 wb X 95 (Q3 E pa pc ((xs.take k).map Yc)).cells:=HXB.out
      have h1:=h0.set 6 (.slice Ab (k+1) cb)
      rw[ZeU E pa Ab pc cb ((xs.take k).map Yc) ((xs.take (k+1)).map Yc),List.length_map,List.length_take,Nat.min_eq_left (by omega)]
      exact h1
    case measure=>simp[intOf];omega
   ·obtain rfl:k=xs.length:=by omega
    have htl:(xs.take xs.length).map Yc=xs.map Yc:=by rw[List.take_length]
    rw[htl]at HBX HO
    have HTR:=hh (HB.out.kept HKW.out)
    have hPB:Ziv wr pa pc (xs.map Yc):=by
     have:=HO.out
     unfold Ziv
     rw[List.length_map]
     exact Z7 this (Nat.zero_le _)
    have HPB:=hh hPB
    generalize hY:Q3 E pa pc (xs.map Yc)=Y at*
    have HYE:=hh hY
    haveI iX:YO wr X 0 Y:=⟨Zx.range HBX.out⟩
    haveI bB:Zc wr B 30 #[.slice v.ta t.types.length v.tc,.slice v.sa t.subs.length v.sc,.slice v.ea t.ents.length v.ec,.slice v.ga v.gn v.gc,.slice v.ia v.im v.ic]:=⟨HTR.out.box⟩
    have hsrc:∀kb,kb=wr.heap.size→YG (wr.alloc (.cells ([Y].map Zx.cells).flatten.toArray 95)) 22 (some ⟨kb,0,none⟩) 1 Y.cells:=by
     rintro kb rfl
     refine⟨rfl,fun _=>⟨_,rfl,fun j u hu=>?_⟩⟩
     rw[Addr.add_mid,Nat.zero_add,cell_of_row _ _ _ _ _ _ (heap_alloc_new _ _)]
     simpa using hu
    have HSRC:=hh hsrc
    have hA:t.ents.length+1≤maxLen:=by unfold maxLen;omega
    have hBy:(t.ents.length+1)*176≤140737488355328:=by omega
    have hC:Hid (n≤(wr.alloc (.cells ([Y].map Zx.cells).flatten.toArray 95)).heap.size):=by have:=HKW.out.size;simp[Hid];omega
    have H1C:Hid (∀u∈Y.cells,u.oneCell'=true):=by have:=Zx.one Y;simpa [Hid]using this
    clear hsrc hY hPB htl htk HEX
    go_wp2_with (first
     | (
      refine ZC Zx.cells 22 Zx.len (by decide) [Y] rfl 26 95 1 #[(0,.tmp 48)] rfl i0 underlying26 hi0 (by rw[hz0];rfl) hz1 rfl (by decide) (by decide) rfl ?_
      intro kb hkb)
     | (
      at_builtin
      go_loud (refine Zt _ rfl (.tmp 47) (.tmp 49) 26 rfl n 95 i0 (.agg Yu.cells.toArray) 22 176 underlying26 hi0 hz0 hz1 hz2 rfl (by decide) (.slice v.ea t.ents.length v.ec) t.ents.length (t.ents.map Zx.cells).flatten rfl (HTR.out.oe.alloc _) (some ⟨kb,0,none⟩) 1 1 Y.cells rfl (HSRC.out kb hkb) H1C.out hA hBy hC.out ?_)
      intro vb wb hob hgb hbb
      obtain⟨Ac,cc,rfl⟩:=Zq hob
      have HNX:=hh ((HTR.out.kept (Kept.alloc _ _ _)).ents hob hgb)
      have hBb:=Zai (HTR.out.oe.alloc _) hgb ((HTR.out.kept (Kept.alloc _ _ _)).box) (by decide)
      have cBb:wb.cell? ⟨B,2,none⟩=some (.slice v.ea t.ents.length v.ec):=(cell_of_row _ _ _ _ _ _ hBb).trans rfl
      have fBb:=frozen_of_row _ _ 2 _ _ hBb
      clear hob hgb hbb hBb))
    refine bodyPost_ret (results_none rfl _ _ _) rfl ⟨rfl,{v with ea:=Ac,ec:=cc},pa,pc,?_,HPB.out.kpt ((KpT.of_kept (Kept.alloc _ _ _)).trans HNX.out.2),((KpT.of_kept HKW.out).trans (KpT.of_kept (Kept.alloc _ _ _))).trans HNX.out.2⟩
    rw[HYE.out]
    exact HNX.out.1
 ·have ho':((t.ents.length:Int) == 15)=false:=by simp;omega
  have hE2:J1 k name 15 ty sub val=E:=by have:=HE.out;rwa [if_neg ho]at this
  go_upto_region 4 with(fail)
  refine Zm ?_
  intro wx hwx
  have h0:Y4 w2 X 95 (ZK k name).cells:=HX2.out
  have hEX:Y4 wx X 95 E.cells:=by
   rw[hwx,←hE2]
   exact((((h0.set 2 (.int .i64 15)).set 4 (.int .i64 ty)).set 5 (.int .i64 sub)).set 10 (.int .i64 val)).set 20 (.int .i64 0)
  have hkx:Kept [X] w2 wx:=by
   rw[hwx]
   exact((((Kept.setCell _ _ _ (by simp)).trans (Kept.setCell _ _ _ (by simp))).trans (Kept.setCell _ _ _ (by simp))).trans (Kept.setCell _ _ _ (by simp))).trans (Kept.setCell _ _ _ (by simp))
  clear h0
  have HKX:Hid (Kept [] w wx):=HK2.out.above hkx (by simp;omega)
  have HEX:=hh hEX
  have hzx:w2.heap.size≤wx.heap.size:=hkx.size
  have HW0:Hid (Q3 E none 0 []=E):=by rw[Hid,←hE2];rfl
  clear hwx hEX hkx hE2 HE c2 c4 c5 c10 c20 f2 f4 f5 f10 f20 cB2 HX2 HK2 HK1
  go_wp2_with fail
  go_loopw [34] (fun s34 wr=>∃(k:Nat) (pa:Option Addr) (pc:Nat),s34= .int .i64 k∧k≤xs.length∧wr.ownsRow wx.heap.size 98 13 (.slice pa k pc) k (((xs.take k).map Yc).map Zd.cells).flatten∧wr.heap[X]? =some (.cells (Q3 E pa pc ((xs.take k).map Yc)).cells.toArray 95 (0,0))∧Kept [X] wx wr) (fun s34 _=>xs.length - (intOf s34).toNat)
  case atStart=>exact⟨0,none,0,rfl,Nat.zero_le _,World.ownsRow_nil _ _ _ _,by show wx.heap[X]? =some (.cells (Q3 E none 0 []).cells.toArray 95 (0,0));rw[HW0.out];exact HEX.out,Kept.refl _ _⟩
  case round=>
   obtain⟨k,pa,pc,rfl,hk,ho,hb,hkr⟩:=hrel
   have HO:=hh ho
   have HBX:=hh hb
   have HKR:=hh hkr
   have HKW:Hid (Kept [] w wr):=HKX.out.above hkr (by simp;omega)
   have hltX:X < wr.heap.size:=(Array.getElem?_eq_some_iff.1 hb).1
   have htk:((xs.take k).map Yc).length=k:=by rw[List.length_map,List.length_take];omega
   clear ho hb hkr
   by_cases hlt:k < xs.length
   ·obtain⟨p,hp⟩:∃p,xs[k]? =some p:=⟨_,List.getElem?_eq_getElem hlt⟩
    obtain⟨b,o,rfl,hc⟩:∃b o,A=some ⟨b,o,none⟩∧w.cell? ⟨b,o+k,none⟩=some (.int .i64 p):=by
     rcases HXS.out with h0 | ⟨b,o,h1,h2⟩
     ·rw[h0]at hlt;simp at hlt
     ·exact⟨b,o,h1,h2 k p hp⟩
    have cP:wr.cell? ⟨b,o+k,none⟩=some (.int .i64 p):=HKW.out.cell hc (by simp)
    have cX:wr.cell? ⟨X,6,none⟩=some (.slice pa k pc):=by
     have h1:=Zz (x:=Q3 E pa pc ((xs.take k).map Yc)) HBX.out 6 rfl
     rw[h1]
     show some (Value.slice pa ((xs.take k).map Yc).length pc)=_
     rw[htk]
    have htk2:(((xs.take (k+1)).map Yc).map Zd.cells).flatten=(((xs.take k).map Yc).map Zd.cells).flatten++(Yc p).cells:=by
     obtain⟨h1,rfl⟩:=List.getElem?_eq_some_iff.1 hp
     rw[List.take_succ_eq_append_getElem h1,List.map_append,List.map_append,List.flatten_append]
     simp only[List.map_cons,List.map_nil,List.flatten_cons,List.flatten_nil,List.append_nil]
    have HTK2:=hh htk2
    have hlt':(k:Int) < (xs.length:Int):=by omega
    have hsrc:∀kb,kb=wr.heap.size→YG (wr.alloc (.cells ([Yc p].map Zd.cells).flatten.toArray 98)) 13 (some ⟨kb,0,none⟩) 1 (Yc p).cells:=by
     rintro kb rfl
     refine⟨rfl,fun _=>⟨_,rfl,fun j u hu=>?_⟩⟩
     rw[Addr.add_mid,Nat.zero_add,cell_of_row _ _ _ _ _ _ (heap_alloc_new _ _)]
     simpa using hu
    have HSRC:=hh hsrc
    have hA:k+1≤maxLen:=by unfold maxLen;omega
    have hBy:(k+1)*144≤140737488355328:=by omega
    have hC:Hid (wx.heap.size≤(wr.alloc (.cells ([Yc p].map Zd.cells).flatten.toArray 98)).heap.size):=by have:=HKR.out.size;simp[Hid];omega
    have H1C:Hid (∀u∈(Yc p).cells,u.oneCell'=true):=by have:=(Yc p).one;simpa [Hid]using this
    clear hsrc htk2 hc
    go_wp2_with (first
     | (
      refine ZC Zd.cells 13 Zd.len (by decide) [Yc p] rfl 91 98 1 #[(0,.tmp 41)] rfl i1 underlying91 hi1 (by rw[hy0];rfl) hy1 rfl (by decide) (by decide) rfl ?_
      intro kb hkb)
     | (
      at_builtin
      go_loud (refine Zt _ rfl (.tmp 39) (.tmp 42) 91 rfl wx.heap.size 98 i1 (.agg Ztq.cells.toArray) 13 144 underlying91 hi1 hy0 hy1 hy2 rfl (by decide) (.slice pa k pc) k (((xs.take k).map Yc).map Zd.cells).flatten rfl (HO.out.alloc _) (some ⟨kb,0,none⟩) 1 1 (Yc p).cells rfl (HSRC.out kb hkb) H1C.out hA hBy hC.out ?_)
      intro vb wb hob hgb hbb
      obtain⟨Ab,cb,rfl⟩:=Zq hob
      have hXb:=Zai (HO.out.alloc _) hgb ((Kept.alloc [] _ _).obj HBX.out (by simp)) (by decide)
      have HOB:=hh hob
      have HXB:=hh hXb
      have HGB:Hid (Kept [X] wx wb):=(HKR.out.trans (Kept.alloc _ _ _)).grownX hgb (fun g hg=>(HO.out.lt g hg).1)
      have cXb:wb.cell? ⟨X,6,none⟩=some (.slice pa k pc):=by
       have h1:=Zz (x:=Q3 E pa pc ((xs.take k).map Yc)) hXb 6 rfl
       rw[h1]
       show some (Value.slice pa ((xs.take k).map Yc).length pc)=_
       rw[htk]
      have fXb:=frozen_of_row _ _ 6 _ _ hXb
      clear hob hgb hbb hXb))
    go_roundw
    case rel=>
     refine⟨k+1,Ab,cb,by go_num,by omega,?_,?_,HGB.out.trans (Kept.setCell _ _ _ (by simp))⟩
     ·rw[HTK2.out]
      exact Zk HOB.out (Kept.setCell (X:=[X]) _ _ _ (by simp)) (fun g hg=>by
       obtain⟨c',hc'⟩:=Qj HOB.out hg
       simp
       rintro rfl
       have h2:=HXB.out
       rw[hc']at h2
       simp at h2)
     ·have h0:Y4 wb X 95 (Q3 E pa pc ((xs.take k).map Yc)).cells:=HXB.out
      have h1:=h0.set 6 (.slice Ab (k+1) cb)
      rw[ZeU E pa Ab pc cb ((xs.take k).map Yc) ((xs.take (k+1)).map Yc),List.length_map,List.length_take,Nat.min_eq_left (by omega)]
      exact h1
    case measure=>simp[intOf];omega
   ·obtain rfl:k=xs.length:=by omega
    have htl:(xs.take xs.length).map Yc=xs.map Yc:=by rw[List.take_length]
    rw[htl]at HBX HO
    have HTR:=hh (HB.out.kept HKW.out)
    have hPB:Ziv wr pa pc (xs.map Yc):=by
     have:=HO.out
     unfold Ziv
     rw[List.length_map]
     exact Z7 this (Nat.zero_le _)
    have HPB:=hh hPB
    generalize hY:Q3 E pa pc (xs.map Yc)=Y at*
    have HYE:=hh hY
    haveI iX:YO wr X 0 Y:=⟨Zx.range HBX.out⟩
    haveI bB:Zc wr B 30 #[.slice v.ta t.types.length v.tc,.slice v.sa t.subs.length v.sc,.slice v.ea t.ents.length v.ec,.slice v.ga v.gn v.gc,.slice v.ia v.im v.ic]:=⟨HTR.out.box⟩
    have hsrc:∀kb,kb=wr.heap.size→YG (wr.alloc (.cells ([Y].map Zx.cells).flatten.toArray 95)) 22 (some ⟨kb,0,none⟩) 1 Y.cells:=by
     rintro kb rfl
     refine⟨rfl,fun _=>⟨_,rfl,fun j u hu=>?_⟩⟩
     rw[Addr.add_mid,Nat.zero_add,cell_of_row _ _ _ _ _ _ (heap_alloc_new _ _)]
     simpa using hu
    have HSRC:=hh hsrc
    have hA:t.ents.length+1≤maxLen:=by unfold maxLen;omega
    have hBy:(t.ents.length+1)*176≤140737488355328:=by omega
    have hC:Hid (n≤(wr.alloc (.cells ([Y].map Zx.cells).flatten.toArray 95)).heap.size):=by have:=HKW.out.size;simp[Hid];omega
    have H1C:Hid (∀u∈Y.cells,u.oneCell'=true):=by have:=Zx.one Y;simpa [Hid]using this
    clear hsrc hY hPB htl htk HEX
    go_wp2_with (first
     | (
      refine ZC Zx.cells 22 Zx.len (by decide) [Y] rfl 26 95 1 #[(0,.tmp 48)] rfl i0 underlying26 hi0 (by rw[hz0];rfl) hz1 rfl (by decide) (by decide) rfl ?_
      intro kb hkb)
     | (
      at_builtin
      go_loud (refine Zt _ rfl (.tmp 47) (.tmp 49) 26 rfl n 95 i0 (.agg Yu.cells.toArray) 22 176 underlying26 hi0 hz0 hz1 hz2 rfl (by decide) (.slice v.ea t.ents.length v.ec) t.ents.length (t.ents.map Zx.cells).flatten rfl (HTR.out.oe.alloc _) (some ⟨kb,0,none⟩) 1 1 Y.cells rfl (HSRC.out kb hkb) H1C.out hA hBy hC.out ?_)
      intro vb wb hob hgb hbb
      obtain⟨Ac,cc,rfl⟩:=Zq hob
      have HNX:=hh ((HTR.out.kept (Kept.alloc _ _ _)).ents hob hgb)
      have hBb:=Zai (HTR.out.oe.alloc _) hgb ((HTR.out.kept (Kept.alloc _ _ _)).box) (by decide)
      have cBb:wb.cell? ⟨B,2,none⟩=some (.slice v.ea t.ents.length v.ec):=(cell_of_row _ _ _ _ _ _ hBb).trans rfl
      have fBb:=frozen_of_row _ _ 2 _ _ hBb
      clear hob hgb hbb hBb))
    refine bodyPost_ret (results_none rfl _ _ _) rfl ⟨rfl,{v with ea:=Ac,ec:=cc},pa,pc,?_,HPB.out.kpt ((KpT.of_kept (Kept.alloc _ _ _)).trans HNX.out.2),((KpT.of_kept HKW.out).trans (KpT.of_kept (Kept.alloc _ _ _))).trans HNX.out.2⟩
    rw[HYE.out]
    exact HNX.out.1
end
end Go.Proofs.YtfaecpkocgcofaaGreatDoor
