/- Lemmas for ResolveSettles, printed small: CB8 CB9 CB10 CB11. -/
import Derived.Test.YtfaecpkocgcofaaGreatDoorZ19
set_option linter.all false
set_option maxRecDepth 100000
set_option maxHeartbeats 8000000
open Go.Proofs.Tryz
namespace Go.Proofs.YtfaecpkocgcofaaGreatDoor
section
open Go.RowKit Go.Shelf
theorem ZJ {P:Program} {ops:Array Oper} {C:World→Prop} {Q:Act→Prop} {rest:List Oper} {op:Oper} {a:Act} (ty:TypeId) (x:Operand) (ho:op.op= .load ty x)
 (hw:Region.wanted op (yielded ops a.tmps)=true) (b o:Nat) (hx:a.eval x= .pointer (some ⟨b,o,none⟩)) (cs:List Value) (d:TypeDesc) (hc:∀w,C w→w.rangeAt b o cs)
 (hu:P.underlying ty=some d) (hd:d.isRow=true) (hi:(P.info? ty).map (·.size)=some cs.length)
 (h:wpQuiet P ops C Q rest (a.put op.dst (.agg cs.toArray))):wpQuiet P ops C Q (op::rest) a:=
 BigFrame.wpQuiet_want hw fun K hK=>⟨.agg cs.toArray,fun w hw=>by
  unfold Oper.quietAt execOp
  simp only[ho,hx,Instr.loadAt,Instr.sureAddr,Sem.run_bind,Sem.run_pure,Result.andThen_ok,run_loadVar_mid w b o ty cs d (hc w hw) hu hd hi,Oper.quietUpon]
  exact⟨trivial,trivial⟩,hK _ h⟩
def Znp (t:Tab) (x y:Zx):Bool:=((y.owner != x.owner) && Zmr t x y) && !(ovl x && ovl y)
theorem Ziy (w:World) (F Bf Bx:Nat) (v:Zp) (t:Tab) (h:WhV) (name:ByteArray) (all:List Int) (k:Nat) (x y:Zx) (hy:t.ents[k]? =some y) (hF:ZX w F v t h name all) (hEX:ZcL w x)
 (hBf:w.cell? ⟨Bf,0,none⟩=some (.pointer (some ⟨F,0,none⟩))) (hBx:w.heap[Bx]? =some (.cells x.cells.toArray 95 (0,0))):
 Calls prog 232 #[.int .i64 k,.pointer (some ⟨Bf,0,none⟩),.pointer (some ⟨Bx,0,none⟩)] w (J0 (Znp t x y) w):=by
 have HF:=hh hF
 have HEX:=hh hEX
 have HEY:=hh (hF.tab.ent (List.mem_of_getElem? hy))
 have q1:=hF.tab.elc
 have q2:=hF.tab.em
 have hyl:=(List.getElem?_eq_some_iff.1 hy).1
 obtain⟨b,o,hea,hr⟩:=hF.tab.es.some_ hy
 have HRY:=hh (hr k y hy)
 obtain⟨a',c',_,_,_,f0,f1,f2,f3,f4,_⟩:=hF.cells
 have f2':=f2
 rw[hea]at f2'
 have j3:(0:Int)≤(k:Int):=by omega
 have j4:(k:Int) < (t.ents.length:Int):=by omega
 have HBX:=hh hBx
 have HR:Hid (Znp t x y=(((y.owner != x.owner) && Zmr t x y) && !(ovl x && ovl y))):=rfl
 have HVT:Hid (v.cells t= #[.slice v.ta t.types.length v.tc,.slice v.sa t.subs.length v.sc,.slice (some ⟨b,o,none⟩) t.ents.length v.ec,.slice v.ga v.gn v.gc,.slice v.ia v.im v.ic]):=by rw[Hid,←hea];rfl
 have HF2:=hh f2'
 have hlx:=(Array.getElem?_eq_some_iff.1 hBx).1
 clear hy hF hr hea f2 hEX hBx
 replace f2:=f2'
 clear f2'
 go_enter func232,ntmps232
 go_upto_region 2 with(refine wpList_load_mid rfl 95 (.tmp 13) rfl b (o+k*22) rfl y.cells _ HRY.out underlying95 rfl (Tryz.infoEnt y) ?_;simp only[Act.put,List.setIfInBounds_toArray,List.set_cons_zero,List.set_cons_succ])
 refine Zm ?_
 intro w0 hw0
 have hk0:Kept [] w w0:=by rw[hw0];exact Kept.alloc _ _ _
 have by0:w0.heap[w.heap.size]? =some (.cells y.cells.toArray 95 (0,0)):=by rw[hw0];exact heap_alloc_new _ _
 have bx0:=hk0.obj HBX.out (by simp)
 have HK0:=hh hk0
 have g0:=Qr.cell (hk0.cell hBf (by simp))
 have e0:=Qr.cell (hk0.cell f0 (by simp))
 have e1:=Qr.cell (hk0.cell f1 (by simp))
 have e2:=Qr.cell (hk0.cell HF2.out (by simp))
 have e3:=Qr.cell (hk0.cell f3 (by simp))
 have e4:=Qr.cell (hk0.cell f4 (by simp))
 have ex:=Qr.cell (Zz (x:=x) bx0 2 rfl)
 have ey:=Qr.cell (Zz (x:=y) by0 2 rfl)
 have HRX:Hid (∀W,(∃z:Qr w0,W=z.1)→W.rangeAt Bx 0 x.cells):=fun W ⟨z,e⟩=>by subst e;exact Zx.range (z.2.obj bx0 (by simp))
 have HRYY:Hid (∀W,(∃z:Qr w0,W=z.1)→W.rangeAt w.heap.size 0 y.cells):=fun W ⟨z,e⟩=>by subst e;exact Zx.range (z.2.obj by0 (by simp))
 have HCH:Hid (∀z:Qr w0,Calls prog 233 #[.agg #[.slice v.ta t.types.length v.tc,.slice v.sa t.subs.length v.sc,.slice (some ⟨b,o,none⟩) t.ents.length v.ec,.slice v.ga v.gn v.gc,.slice v.ia v.im v.ic],.agg x.cells.toArray,.agg y.cells.toArray] z.1 (J0 (Zmr t x y) z.1)):=fun z=>by
  rw[←HVT.out]
  exact J9 z.1 v t x y (HF.out.tab.kept (HK0.out.trans z.2)) (HEX.out.kept (HK0.out.trans z.2)) (HEY.out.kept (HK0.out.trans z.2))
 have HCX:Hid (∀z:Qr w0,Calls prog 234 #[.agg x.cells.toArray] z.1 (J0 (ovl x) z.1)):=fun z=>Qn z.1 x
 have HCY:Hid (∀z:Qr w0,Calls prog 234 #[.agg y.cells.toArray] z.1 (J0 (ovl y) z.1)):=fun z=>Qn z.1 y
 generalize hY:w.heap.size=Y at*
 clear hw0 hk0 by0 bx0 hBf f0 f1 f2 f3 f4 HBX HRY hY
 cases h1:(y.owner != x.owner)
 ·rw[h1]at HR
  refine Z4 (by kernel_rfl) (by kernel_rfl) ?_
  repeat(go_big_quiet_step (fail))
  refine wpQuiet_nil ?_
  rintro w' ⟨z,rfl⟩
  obtain⟨w1,hk1⟩:=z
  go_wp2_with fail
  go_ret
  exact⟨by rw[HR.out];rfl,HK0.out.trans hk1⟩
 ·rw[h1]at HR
  cases h2:Zmr t x y
  ·rw[h2]at HR HCH
   clear h2
   refine Z4 (by kernel_rfl) (by kernel_rfl) ?_
   iterate 10 (go_big_quiet_step (fail))
   refine ZJ 95 (.tmp 2) rfl (by kernel_rfl) Bx 0 rfl x.cells _ HRX.out underlying95 rfl (Tryz.infoEnt x) ?_
   simp only[Act.put,List.setIfInBounds_toArray,List.set_cons_zero,List.set_cons_succ]
   refine ZJ 95 (.tmp 5) rfl (by kernel_rfl) Y 0 rfl y.cells _ HRYY.out underlying95 rfl (Tryz.infoEnt y) ?_
   simp only[Act.put,List.setIfInBounds_toArray,List.set_cons_zero,List.set_cons_succ]
   go_big_quiet_step (exact Calls.after_b (HCH.out _))
   repeat(go_big_quiet_step (fail))
   refine wpQuiet_nil ?_
   rintro w' ⟨z,rfl⟩
   obtain⟨w1,hk1⟩:=z
   go_wp2_with fail
   go_ret
   exact⟨by rw[HR.out];rfl,HK0.out.trans hk1⟩
  ·rw[h2]at HR HCH
   clear h2
   cases h3:ovl x
   ·rw[h3]at HR HCX
    clear h3
    refine Z4 (by kernel_rfl) (by kernel_rfl) ?_
    iterate 10 (go_big_quiet_step (fail))
    refine ZJ 95 (.tmp 2) rfl (by kernel_rfl) Bx 0 rfl x.cells _ HRX.out underlying95 rfl (Tryz.infoEnt x) ?_
    simp only[Act.put,List.setIfInBounds_toArray,List.set_cons_zero,List.set_cons_succ]
    refine ZJ 95 (.tmp 5) rfl (by kernel_rfl) Y 0 rfl y.cells _ HRYY.out underlying95 rfl (Tryz.infoEnt y) ?_
    simp only[Act.put,List.setIfInBounds_toArray,List.set_cons_zero,List.set_cons_succ]
    go_big_quiet_step (exact Calls.after_b (HCH.out _))
    iterate 2 (go_big_quiet_step (fail))
    refine ZJ 95 (.tmp 2) rfl (by kernel_rfl) Bx 0 rfl x.cells _ HRX.out underlying95 rfl (Tryz.infoEnt x) ?_
    simp only[Act.put,List.setIfInBounds_toArray,List.set_cons_zero,List.set_cons_succ]
    go_big_quiet_step (exact Calls.after_b (HCX.out _))
    repeat(go_big_quiet_step (fail))
    refine wpQuiet_nil ?_
    rintro w' ⟨z,rfl⟩
    obtain⟨w1,hk1⟩:=z
    go_wp2_with fail
    go_ret
    exact⟨by rw[HR.out];rfl,HK0.out.trans hk1⟩
   ·rw[h3]at HR HCX
    clear h3
    refine Z4 (by kernel_rfl) (by kernel_rfl) ?_
    iterate 10 (go_big_quiet_step (fail))
    refine ZJ 95 (.tmp 2) rfl (by kernel_rfl) Bx 0 rfl x.cells _ HRX.out underlying95 rfl (Tryz.infoEnt x) ?_
    simp only[Act.put,List.setIfInBounds_toArray,List.set_cons_zero,List.set_cons_succ]
    refine ZJ 95 (.tmp 5) rfl (by kernel_rfl) Y 0 rfl y.cells _ HRYY.out underlying95 rfl (Tryz.infoEnt y) ?_
    simp only[Act.put,List.setIfInBounds_toArray,List.set_cons_zero,List.set_cons_succ]
    go_big_quiet_step (exact Calls.after_b (HCH.out _))
    iterate 2 (go_big_quiet_step (fail))
    refine ZJ 95 (.tmp 2) rfl (by kernel_rfl) Bx 0 rfl x.cells _ HRX.out underlying95 rfl (Tryz.infoEnt x) ?_
    simp only[Act.put,List.setIfInBounds_toArray,List.set_cons_zero,List.set_cons_succ]
    go_big_quiet_step (exact Calls.after_b (HCX.out _))
    go_big_quiet_step (fail)
    refine ZJ 95 (.tmp 5) rfl (by kernel_rfl) Y 0 rfl y.cells _ HRYY.out underlying95 rfl (Tryz.infoEnt y) ?_
    simp only[Act.put,List.setIfInBounds_toArray,List.set_cons_zero,List.set_cons_succ]
    go_big_quiet_step (exact Calls.after_b (HCY.out _))
    repeat(go_big_quiet_step (fail))
    refine wpQuiet_nil ?_
    rintro w' ⟨z,rfl⟩
    obtain⟨w1,hk1⟩:=z
    go_wp2_with fail
    go_ret
    exact⟨by rw[HR.out];rfl,HK0.out.trans hk1⟩
def ZnQ (t:Tab) (l:List Int) (x:Zx):Bool:=!(l.any fun e=>Znp t x (JJ t e))
theorem Zod:∀args w,(callFunc 232 args).run prog w= .ok (.enter 232 args) w:=Go.Proofs.enters_of func232 (by kernel_rfl) rfl
theorem ZjP (w:World) (F Bf Bl:Nat) (v:Zp) (t:Tab) (h:WhV) (name:ByteArray) (all:List Int) (k:Nat) (x:Zx) (hx:t.ents[k]? =some x) (hF:ZX w F v t h name all)
 (hBf:w.cell? ⟨Bf,0,none⟩=some (.pointer (some ⟨F,0,none⟩)))
 (a:Option Addr) (c:Nat) (l:List Int) (hBl:w.cell? ⟨Bl,0,none⟩=some (.slice a l.length c)) (hc:l.length≤c) (hm:c≤9223372036854775807) (hI:ZM w a l) (hl:∀e,e∈l→(Y9 t e).isSome=true):
 Calls prog 230 #[.int .i64 k,.pointer (some ⟨Bf,0,none⟩),.pointer (some ⟨Bl,0,none⟩)] w (J0 (ZnQ t l x) w):=by
 have HF:=hh hF
 have HI:=hh hI
 have HL:=hh hl
 have HEX:=hh (hF.tab.ent (List.mem_of_getElem? hx))
 have q1:=hF.tab.elc
 have q2:=hF.tab.em
 have hxl:=(List.getElem?_eq_some_iff.1 hx).1
 obtain⟨b,o,hea,hr⟩:=hF.tab.es.some_ hx
 have HRX:=hh (hr k x hx)
 obtain⟨a',c',_,_,_,f0,f1,f2,f3,f4,_⟩:=hF.cells
 rw[hea]at f2
 have j3:(0:Int)≤(k:Int):=by omega
 have j4:(k:Int) < (t.ents.length:Int):=by omega
 have HBF:=hh hBf
 clear hx hF hr hea hI hl
 go_enter func230,ntmps230
 go_upto_region 2 with(refine wpList_load_mid rfl 95 (.tmp 13) rfl b (o+k*22) rfl x.cells _ HRX.out underlying95 rfl (Tryz.infoEnt x) ?_)
 refine Zm ?_
 intro w0 hw0
 have hk0:Kept [] w w0:=by rw[hw0];exact Kept.alloc _ _ _
 have bx0:w0.heap[w.heap.size]? =some (.cells x.cells.toArray 95 (0,0)):=by rw[hw0];exact heap_alloc_new _ _
 have HK0:=hh hk0
 have cl0:=hk0.cell hBl (by simp)
 have HC:=hh (ZaR w0 a c l hc hm (HI.out.kept hk0) 232 #[.pointer (some ⟨Bf,0,none⟩),.pointer (some ⟨w.heap.size,0,none⟩)] (fun e=>Znp t x (JJ t e)) Zod (fun W e hk he=>by
  obtain⟨i,y,rfl,hy,hye⟩:=Zag (HL.out e he)
  rw[hye]
  exact Ziy W F Bf w.heap.size v t h name all i x y hy (HF.out.kept (hk0.trans hk)) (HEX.out.kept (hk0.trans hk)) ((hk0.trans hk).cell HBF.out (by simp)) (hk.obj bx0 (by simp))))
 clear hw0 hk0 bx0 hBf hBl f0 f1 f2 f3 f4
 go_wp2_with fail
 refine HC.out.mono ?_
 rintro e w1 ⟨rfl,hk1⟩
 have HK1:=hh (HK0.out.trans hk1)
 clear hk1 HC
 go_wp2_with fail
 go_ret
 exact⟨rfl,HK1.out⟩
abbrev BM:=Zga prog 3 4
theorem ZlY {w:World} {b n:Nat} {M:Int→Option Bool} (h:BM w b n M) {x:Int} (hx:(Lit.int .i64 x).wf=true):(Instr.lookup 297 (.map (some b)) (.int .i64 x) false).run prog w= .ok (.bool ((M x).getD false)) w:=
 h.lookup underlying3 underlying4 underlying297 Tryz.zeroValue4 hx
def ZaF (t:Tab) (M:Int→Option Bool) (l:List Int) (x:Zx):Bool:=((M x.owner).getD false && (x.part == 0)) && !Zrs t l x
theorem ZjQ (w:World) (F Bf Bm Bl bm nm:Nat) (M:Int→Option Bool) (v:Zp) (t:Tab) (h:WhV) (name:ByteArray) (all:List Int) (k:Nat) (x:Zx) (hx:t.ents[k]? =some x) (hF:ZX w F v t h name all) (hwf:(Lit.int .i64 x.owner).wf=true)
 (hBf:w.cell? ⟨Bf,0,none⟩=some (.pointer (some ⟨F,0,none⟩))) (hBm:w.cell? ⟨Bm,0,none⟩=some (.map (some bm))) (hM:BM w bm nm M)
 (a:Option Addr) (c:Nat) (l:List Int) (hBl:w.cell? ⟨Bl,0,none⟩=some (.slice a l.length c)) (hc:l.length≤c) (hm:c≤9223372036854775807) (hI:ZM w a l) (hl:∀e,e∈l→(Y9 t e).isSome=true):
 Calls prog 229 #[.int .i64 k,.pointer (some ⟨Bf,0,none⟩),.pointer (some ⟨Bm,0,none⟩),.pointer (some ⟨Bl,0,none⟩)] w (J0 (ZaF t M l x) w):=by
 have HF:=hh hF
 have HI:=hh hI
 have HL:=hh hl
 have HX:=hh hx
 have q1:=hF.tab.elc
 have q2:=hF.tab.em
 have hxl:=(List.getElem?_eq_some_iff.1 hx).1
 obtain⟨b,o,hea,hr⟩:=hF.tab.es.some_ hx
 have HRX:=hh (hr k x hx)
 obtain⟨a',c',_,_,_,f0,f1,f2,f3,f4,_⟩:=hF.cells
 rw[hea]at f2
 have j3:(0:Int)≤(k:Int):=by omega
 have j4:(k:Int) < (t.ents.length:Int):=by omega
 have HBF:=hh hBf
 have HR:Hid (ZaF t M l x=(((M x.owner).getD false && (x.part == 0)) && !Zrs t l x)):=rfl
 clear hx hF hr hea hI hl
 go_enter func229,ntmps229
 go_upto_region 2 with(refine wpList_load_mid rfl 95 (.tmp 14) rfl b (o+k*22) rfl x.cells _ HRX.out underlying95 rfl (Tryz.infoEnt x) ?_)
 refine Zm ?_
 intro w0 hw0
 have hk0:Kept [] w w0:=by rw[hw0];exact Kept.alloc _ _ _
 have bx0:w0.heap[w.heap.size]? =some (.cells x.cells.toArray 95 (0,0)):=by rw[hw0];exact heap_alloc_new _ _
 have HK0:=hh hk0
 have cl0:=hk0.cell hBl (by simp)
 have cm0:=hk0.cell hBm (by simp)
 have cf0:=hk0.cell hBf (by simp)
 have c2:=Zz (x:=x) bx0 2 rfl
 have c3:=Zz (x:=x) bx0 3 rfl
 have hM0:BM w0 bm nm M:=hM.block (hk0.block bm hM.lt (by simp))
 have lk:=ZlY hM0 hwf
 have HC:=hh (Zdo w0 F v t h name all k x HX.out (HF.out.kept hk0) a c l hc hm (HI.out.kept hk0) HL.out)
 clear hw0 hk0 bx0 hBf hBl hBm hM hM0 f0 f1 f2 f3 f4
 cases h1:(M x.owner).getD false
 ·rw[h1]at HR lk
  go_wp2_with fail
  go_ret
  exact⟨by rw[HR.out];rfl,HK0.out⟩
 ·rw[h1]at HR lk
  cases h2:(x.part == 0)
  ·rw[h2]at HR
   have h2':x.part≠0:=by simpa using h2
   go_wp2_with fail
   go_ret
   exact⟨by rw[HR.out];rfl,HK0.out⟩
  ·rw[h2]at HR
   have h2':x.part=0:=by simpa using h2
   rw[h2']at c3
   go_wp2_with fail
   refine HC.out.mono ?_
   rintro e w1 ⟨rfl,hk1⟩
   have HK1:=hh (HK0.out.trans hk1)
   clear hk1 HC
   go_wp2_with fail
   go_ret
   exact⟨by rw[HR.out];rfl,HK1.out⟩
theorem ZlX {w:World} {b n:Nat} {M:Int→Option Bool} (h:BM w b n M) (hn:n < maxLen) {x:Int} (hx:(Lit.int .i64 x).wf=true) (v:Bool):
 ∃w',(Instr.mapUpdate 297 (.map (some b)) (.int .i64 x) (.bool v)).run prog w= .ok () w'∧BM w' b (n+1) (ZrC M x v)∧w.grownBy w' (some b)∧w'.heap.size=w.heap.size:=
 h.update underlying3 underlying4 underlying297 hn hx v
theorem Zox {t:Tab}:∀(m n:Nat),n < t.ents.length→J2 t m n < t.ents.length:=by
 intro m
 induction m with
 | zero=>intro n h;exact h
 | succ m ih=>
  intro n h
  unfold J2
  rw[List.getElem?_eq_getElem h]
  simp only
  split
  ·rename_i hr
   unfold Zmp at hr
   simp only[Bool.and_eq_true,decide_eq_true_eq]at hr
   exact ih _ (by omega)
  ·exact h
theorem Zf3 (t:Tab) (u:Int):Yt t u= -1∨∃(n:Nat) (x:Zx),Yt t u=(n:Int)∧t.ents[n]? =some x∧JJ t (Yt t u)=x:=by
 unfold Yt
 cases h:(Y9 t u).isSome
 ·left;simp
 ·right
  obtain⟨n,x,rfl,hx,_⟩:=Zag h
  have hl:=Zox n n (List.getElem?_eq_some_iff.1 hx).1
  refine⟨J2 t n n,_,by simp,List.getElem?_eq_getElem hl,?_⟩
  simp only[if_true,Int.toNat_natCast]
  unfold JJ Y9
  rw[if_neg (by omega)]
  simp[List.getElem?_eq_getElem hl]
theorem Zof:∀args w,(callFunc 229 args).run prog w= .ok (.enter 229 args) w:=Go.Proofs.enters_of func229 (by kernel_rfl) rfl
theorem Zoe:∀args w,(callFunc 230 args).run prog w= .ok (.enter 230 args) w:=Go.Proofs.enters_of func230 (by kernel_rfl) rfl
def ZjI (t:Tab) (u:Int):Bool:=decide (0≤Yt t u) && ((JJ t (Yt t u)).kind == 2)
def ZjJ (t:Tab) (M:Int→Option Bool) (u:Int):Int→Option Bool:=if ZjI t u then ZrC M (Yt t u) true else M
def Zat (t:Tab) (us:List Int):Int→Option Bool:=us.foldl (ZjJ t) (fun _=>none)
theorem ZaZ (t:Tab) (us:List Int) (u:Int):Zat t (us++ [u])=ZjJ t (Zat t us) u:=by simp[Zat]
def ZcQ (t:Tab) (h:WhV) (all found:List Int):List Int:=
 let f1:=all.filter fun e=>ZaF t (Zat t h.uses) found (JJ t e)
 f1.filter fun e=>ZnQ t f1 (JJ t e)
theorem Zj9 (w:World) (F:Nat) (v:Zp) (t:Tab) (h:WhV) (name:ByteArray) (all:List Int) (hF:ZX w F v t h name all) (hl:∀e,e∈all→(Y9 t e).isSome=true) (hs:all.length≤5000) (hus:h.uses.length≤100000)
 (hwf:∀x,x∈t.ents→(Lit.int .i64 x.owner).wf=true)
 (a:Option Addr) (c:Nat) (l:List Int) (hc:l.length≤c) (hm:c≤9223372036854775807) (hI:ZM w a l) (hll:∀e,e∈l→(Y9 t e).isSome=true):
 Calls prog 157 #[.pointer (some ⟨F,0,none⟩),.slice a l.length c] w (Ztl (ZcQ t h all l) w):=by
 have HF:=hh hF
 have HI:=hh hI
 have HL:=hh hl
 have HLL:=hh hll
 have HWF:=hh hwf
 have q1:=hF.tab.elc
 have q2:=hF.tab.em
 have s1:=hF.wh.s1
 have s2:=hF.wh.s2
 obtain⟨a',c',_,_,_,f0,f1,f2,f3,f4,_,_,_,f8,_⟩:=hF.cells
 clear hF hI hl hll hwf
 have hmm:=@run_makeMap prog
 go_enter func157,ntmps157
 go_upto_region 2 with(fail)
 refine Zm ?_
 intro w1 hw1
 have HK1:Hid (Kept [] w w1):=by rw[Hid,hw1];exact(((Kept.alloc _ _ _).trans (Kept.alloc _ _ _)).trans (Kept.alloc _ _ _)).trans (Kept.alloc _ _ _)
 have b0:w1.heap[w.heap.size]? =some (.cells #[.pointer (some ⟨F,0,none⟩)] 229 (0,0)):=by rw[hw1];exact Zr (Zr (Zr (Zf rfl) (by simp)) (by simp;omega)) (by simp;omega)
 have b1:w1.heap[w.heap.size+1]? =some (.cells #[.slice a l.length c] 31 (0,0)):=by rw[hw1];exact Zr (Zr (Zf (by simp)) (by simp <;> omega)) (by simp <;> omega)
 have HM1:Hid (BM w1 (w.heap.size+1+1) 0 (fun _=>none)):=by
  rw[Hid,hw1]
  have h0:BM (((w.alloc (.cells #[.pointer (some ⟨F,0,none⟩)] 229)).alloc (.cells #[.slice a l.length c] 31)).alloc (.map #[] 0)) (w.heap.size+1+1) 0 (fun _=>none):=by
   have:=Zga.made prog 3 4 ((w.alloc (.cells #[.pointer (some ⟨F,0,none⟩)] 229)).alloc (.cells #[.slice a l.length c] 31))
   simpa using this
  exact h0.block (Below.heap_alloc _ _ _ (by simp))
 have b3:w1.heap[w.heap.size+1+1+1]? =some (.cells #[.map (some (w.heap.size+1+1))] 297 (0,0)):=by rw[hw1];exact Zf (by simp)
 have hsz:w1.heap.size=w.heap.size+4:=by rw[hw1];simp
 have HB0:=hh b0
 have HB1:=hh b1
 have HB3:=hh b3
 have HSZ:=hh hsz
 have g0:=(ZB b0).1
 have k8:=HK1.out.cell f8 (by simp)
 have HL0:Hid (BM w1 (w.heap.size+1+1) 0 (Zat t (h.uses.take 0))∧Kept [w.heap.size+1+1] w1 w1):=⟨HM1.out,Kept.refl _ _⟩
 clear hw1 b0 b1 b3 hsz hmm f0 f1 f2 f3 f4 f8
 go_wp2_with fail
 clear g0 k8
 go_loopw [17] (fun i wr=>∃k:Nat,k≤h.uses.length∧i= .int .i64 k∧BM wr (w.heap.size+1+1) k (Zat t (h.uses.take k))∧Kept [w.heap.size+1+1] w1 wr) (fun i _=>h.uses.length - (intOf i).toNat)
 case atStart=>exact⟨0,Nat.zero_le _,rfl,HL0.out.1,HL0.out.2⟩
 case round=>
  obtain⟨k,hk,rfl,hbm,hkr⟩:=hrel
  have HBM:=hh hbm
  have HKR:=hh hkr
  have HKW:Hid (Kept [] w wr):=HK1.out.above hkr (fun z hz=>by simp at hz;omega)
  have HFR:=hh (HF.out.kept HKW.out)
  have g0:wr.cell? ⟨w.heap.size,0,none⟩=_:=hkr.cell (ZB HB0.out).1 (by simp;omega)
  have g3:wr.cell? ⟨w.heap.size+1+1+1,0,none⟩=_:=hkr.cell (ZB HB3.out).1 (by simp)
  obtain⟨a2,c2,_,hall1,hall2,f0,f1,f2,f3,f4,_,_,_,f8,_,f10⟩:=HFR.out.cells
  obtain⟨w2,rfl⟩:∃w2:World,w2=wr:=⟨_,rfl⟩
  by_cases hlt:k < h.uses.length
  ·obtain⟨u,hu⟩:∃u,h.uses[k]? =some u:=⟨_,List.getElem?_eq_getElem hlt⟩
   have HTK:Hid (h.uses.take (k+1)=h.uses.take k++ [u]):=by
    rw[Hid,List.take_add_one,hu];rfl
   rcases HFR.out.wh.s with he | ⟨bs,os,hsa,hcs⟩
   ·rw[he]at hlt;simp at hlt
   have hcu:=hcs k u hu
   rw[hsa]
   have HC:=hh (Zip w2 v t u HFR.out.tab)
   unfold Zp.cells at HC
   clear hbm hkr hu hcs hsa f8 f10
   go_upto_region 6 with(fail)
   refine HC.out.mono ?_
   rintro e w3 ⟨rfl,hk3⟩
   have HK3:=hh hk3
   have g0':=hk3.cell g0 (by simp)
   have g3':=hk3.cell g3 (by simp)
   have e0:=hk3.cell f0 (by simp)
   have e2:=hk3.cell f2 (by simp)
   have hbm3:BM w3 (w.heap.size+1+1) k (Zat t (h.uses.take k)):=HBM.out.block (hk3.block _ HBM.out.lt (by simp))
   have HBM3:=hh hbm3
   have HKR3:Hid (Kept [w.heap.size+1+1] w1 w3):=HKR.out.trans (hk3.mono (by simp))
   clear HC hk3 g0 g3 f0 f1 f2 f3 f4 hbm3 hcu
   rcases Zf3 t u with hb | ⟨n,x,hb,hx,hrx⟩
   ·have HN:Hid (BM w3 (w.heap.size+1+1) (k+1) (Zat t (h.uses.take (k+1)))):=by
     have hw:ZjI t u=false:=by unfold ZjI;rw[hb];simp
     rw[Hid,HTK.out,ZaZ,ZjJ,hw]
     exact HBM3.out.mono (by omega)
    rw[hb]
    go_wp2_with fail
    go_roundw
    case rel=>exact⟨k+1,by omega,by go_num,HN.out,HKR3.out⟩
    case measure=>simp[intOf];omega
   ·have hnl:=(List.getElem?_eq_some_iff.1 hx).1
    obtain⟨b,o,hea,hr⟩:=((HFR.out.tab).kept HK3.out).es.some_ hx
    have hkd:w3.cell? ⟨b,o+n*22,none⟩=some (.int .u8 x.kind):=hr n x hx 0 _ rfl
    have hown:(Lit.int .i64 (n:Int)).wf=true:=WalkArith.wf_i64 (by omega)
    rw[hea]at e2
    have j1:(0:Int)≤(n:Int):=by omega
    have j2:(n:Int) < (t.ents.length:Int):=by omega
    have HW:Hid (ZjI t u=(x.kind == 2)):=by
     rw[Hid,ZjI,hrx,hb]
     simp
    have HWB:Hid (Yt t u=(n:Int)):=hb
    rw[hb]
    clear hx hr hrx hb hea
    cases h2:(x.kind == 2)
    ·have h2':x.kind≠2:=by simpa using h2
     have HN:Hid (BM w3 (w.heap.size+1+1) (k+1) (Zat t (h.uses.take (k+1)))):=by
      rw[Hid,HTK.out,ZaZ,ZjJ,HW.out,h2]
      exact HBM3.out.mono (by omega)
     go_wp2_with fail
     go_roundw
     case rel=>exact⟨k+1,by omega,by go_num,HN.out,HKR3.out⟩
     case measure=>simp[intOf];omega
    ·have h2':x.kind=2:=by simpa using h2
     rw[h2']at hkd
     obtain⟨w5,hup,hm5,hg5,_⟩:=ZlX HBM3.out (by unfold maxLen;omega) hown true
     have HN:Hid (BM w5 (w.heap.size+1+1) (k+1) (Zat t (h.uses.take (k+1)))):=by
      rw[Hid,HTK.out,ZaZ,ZjJ,HW.out,h2,if_pos rfl,HWB.out]
      exact hm5
     have HK5:Hid (Kept [w.heap.size+1+1] w1 w5):=HKR3.out.trans ⟨hg5.os,hg5.tape,hg5.output,hg5.size,fun z hz hzx=>hg5.block z hz (fun e=>hzx (by injection e with e;simp[e]))⟩
     clear hm5 hg5
     go_wp2_with fail
     go_roundw
     case rel=>exact⟨k+1,by omega,by go_num,HN.out,HK5.out⟩
     case measure=>simp[intOf];omega
  ·obtain rfl:k=h.uses.length:=by omega
   have HIA:Hid (ZM w2 a2 all):=by assumption
   have HM2:Hid (BM w2 (w.heap.size+1+1) h.uses.length (Zat t h.uses)):=by
    have:=HBM.out
    rwa [List.take_length]at this
   have HBL2:Hid (w2.heap[w.heap.size+1]? =some (.cells #[.slice a l.length c] 31 (0,0))):=hkr.obj HB1.out (by simp)
   have HG0:=hh g0
   have HG3:=hh g3
   have HU:Hid (ZcQ t h all l=(all.filter fun e=>ZaF t (Zat t h.uses) l (JJ t e)).filter fun e=>ZnQ t (all.filter fun e=>ZaF t (Zat t h.uses) l (JJ t e)) (JJ t e)):=rfl
   obtain⟨M,hM⟩:∃M,Zat t h.uses=M:=⟨_,rfl⟩
   rw[hM]at HM2 HU
   have HC:=hh (Zb6 w2 a2 c2 all hall1 hall2 HIA.out (by omega) 229 #[.pointer (some ⟨w.heap.size,0,none⟩),.pointer (some ⟨w.heap.size+1+1+1,0,none⟩),.pointer (some ⟨w.heap.size+1,0,none⟩)] (fun e=>ZaF t M l (JJ t e)) Zof (fun W e hk he=>by
    obtain⟨i,x,rfl,hx,hxe⟩:=Zag (HL.out e he)
    rw[hxe]
    exact ZjQ W F w.heap.size (w.heap.size+1+1+1) (w.heap.size+1) (w.heap.size+1+1) h.uses.length M v t h name all i x hx (HFR.out.kept hk) (HWF.out x (List.mem_of_getElem? hx)) (hk.cell HG0.out (by simp)) (hk.cell HG3.out (by simp)) (HM2.out.block (hk.block _ HM2.out.lt (by simp))) a c l (hk.cell (ZB HBL2.out).1 (by simp)) hc hm (HI.out.kept (HKW.out.trans hk)) HLL.out))
   clear hbm hkr hM f8 f0 f1 f2 f3 f4
   go_wp2_with fail
   refine HC.out.mono ?_
   rintro e w3 ⟨v3,rfl,ho3,hk3⟩
   obtain⟨A3,c3,rfl⟩:=Zq ho3
   have HK3:=hh hk3
   have HO3:=hh ho3
   have HF1:Hid (∀e,e∈(all.filter fun e=>ZaF t M l (JJ t e))→(Y9 t e).isSome=true):=fun e he=>HL.out e (List.mem_filter.1 he).1
   have hfl:=List.length_filter_le (fun e=>ZaF t M l (JJ t e)) all
   generalize (all.filter fun e=>ZaF t M l (JJ t e))=f1 at*
   obtain⟨_,hin3,h31,h32,_⟩:=(Yb.of_owns HO3.out).at_
   have HIN3:=hh hin3
   have g0':=hk3.cell g0 (by simp)
   clear HC hk3 ho3 g0 g3 f10 hin3
   go_upto_region 10 with(fail)
   refine Zm ?_
   intro w4 hw4
   have hk4:Kept [] w3 w4:=by rw[hw4];exact Kept.alloc _ _ _
   have b9:w4.heap[w3.heap.size]? =some (.cells #[.slice A3 f1.length c3] 31 (0,0)):=by rw[hw4];exact heap_alloc_new _ _
   have g9:=(ZB b9).1
   have HK24:Hid (Kept [] w2 w4):=HK3.out.trans hk4
   have HB9:=hh b9
   have HG4:Hid (w4.cell? ⟨w.heap.size,0,none⟩=some (.pointer (some ⟨F,0,none⟩))):=hk4.cell g0' (by simp)
   have HC:=hh (Zb6 w4 A3 c3 f1 h31 h32 (HIN3.out.kept hk4) (by omega) 230 #[.pointer (some ⟨w.heap.size,0,none⟩),.pointer (some ⟨w3.heap.size,0,none⟩)] (fun e=>ZnQ t f1 (JJ t e)) Zoe (fun W e hk he=>by
    obtain⟨i,x,rfl,hx,hxe⟩:=Zag (HF1.out e he)
    rw[hxe]
    exact ZjP W F w.heap.size w3.heap.size v t h name all i x hx (HFR.out.kept (HK24.out.trans hk)) (hk.cell HG4.out (by simp)) A3 c3 f1 (hk.cell (ZB HB9.out).1 (by simp)) h31 h32 (HIN3.out.kept (hk4.trans hk)) HF1.out))
   clear hw4 hk4 b9 g0'
   go_wp2_with fail
   refine HC.out.mono ?_
   rintro e w5 ⟨v5,rfl,ho5,hk5⟩
   have HR:Hid (Yb w5 v5 (ZcQ t h all l)):=by
    rw[Hid,HU.out]
    exact Yb.of_owns ho5
   have HK5:Hid (Kept [] w w5):=HKW.out.trans (HK24.out.trans hk5)
   clear ho5 hk5 HC g9
   go_wp2_with fail
   go_ret
   exact⟨_,rfl,HR.out,HK5.out⟩
end
end Go.Proofs.YtfaecpkocgcofaaGreatDoor
