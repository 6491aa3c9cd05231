/- Lemmas for ResolveSettles, printed small: N3 N4 N5 N6 N7. -/
import Derived.Test.YtfaecpkocgcofaaGreatDoorZ24
import Derived.OwnWalk
import Derived.Laws.OwnMore
set_option linter.all false
set_option maxRecDepth 100000
set_option maxHeartbeats 8000000
open Go.Proofs.Tryz
namespace Go.Proofs.YtfaecpkocgcofaaGreatDoor
section
open Go.RowKit
theorem Zhj:(prog.info? 41).map (fun i=>(i.zero,i.size,i.bytes))=some (some (.agg Zg.cells.toArray),9,104):=by kernel_rfl
def evN (G:NdV→Int×ExV) (ds:List NdV):Int:=ds.foldl (fun n d=>n*(G d).1) 1
def evL (G:NdV→Int×ExV) (ds:List NdV):List ExV:=ds.map (fun d=>(G d).2)
theorem Zn8 {G:NdV→Int×ExV} {ds:List NdV} {k:Nat} {d:NdV} (h:ds[k]? =some d):evN G (ds.take (k+1))=evN G (ds.take k)*(G d).1:=by
 obtain⟨hk,rfl⟩:=List.getElem?_eq_some_iff.1 h
 unfold evN
 rw[List.take_succ_eq_append_getElem hk,List.foldl_append]
 rfl
theorem Zoa {G:NdV→Int×ExV} {ds:List NdV} {k:Nat} {d:NdV} (h:ds[k]? =some d):evL G (ds.take (k+1))=evL G (ds.take k)++ [(G d).2]:=by
 obtain⟨hk,rfl⟩:=List.getElem?_eq_some_iff.1 h
 unfold evL
 rw[List.take_succ_eq_append_getElem hk,List.map_append]
 rfl
theorem Zpr (G:NdV→Int×ExV):∀(ds:List NdV) (acc:Int),(∀d,d∈ds→0≤(G d).1∧(G d).1≤2)→0≤acc→0≤ds.foldl (fun n d=>n*(G d).1) acc∧ds.foldl (fun n d=>n*(G d).1) acc≤acc*2 ^ ds.length
 | [],acc,_,h0=>by simp;exact h0
 | d::ds,acc,h,h0=>by
  rw[List.foldl_cons]
  obtain⟨h1,h2⟩:=h d (by simp)
  have hm:0≤acc*(G d).1:=Int.mul_nonneg h0 h1
  have hm2:acc*(G d).1≤acc*2:=Int.mul_le_mul_of_nonneg_left h2 h0
  obtain⟨h3,h4⟩:=Zpr G ds (acc*(G d).1) (fun x hx=>h x (by simp[hx])) hm
  refine⟨h3,Int.le_trans h4 ?_⟩
  rw[List.length_cons,Int.pow_succ,show acc*(2 ^ ds.length*2)=acc*2*2 ^ ds.length by rw[Int.mul_comm (2 ^ ds.length) 2,Int.mul_assoc]]
  exact Int.mul_le_mul_of_nonneg_right hm2 (Int.pow_nonneg (by decide))
theorem Zsr {G:NdV→Int×ExV} {ds:List NdV} (hl:ds.length≤61) (h:∀d,d∈ds→0≤(G d).1∧(G d).1≤2) (k:Nat):0≤evN G (ds.take k)∧evN G (ds.take k)≤2305843009213693952:=by
 obtain⟨h1,h2⟩:=Zpr G (ds.take k) 1 (fun x hx=>h x (List.mem_of_mem_take hx)) (by decide)
 refine⟨h1,Int.le_trans h2 ?_⟩
 rw[Int.one_mul]
 have h3:(2:Int) ^ (ds.take k).length≤2 ^ 61:=by
  have:(2:Nat) ^ (ds.take k).length≤2 ^ 61:=Nat.pow_le_pow_right (by decide) (by rw[List.length_take];omega)
  exact_mod_cast this
 exact h3
def ZsW (X:List Nat) (n:Int) (es:List ExV) (w:World) (e:Ending) (w':World):Prop:=
 ∃v zs,e= .returned (.tuple #[.int .i64 n,v])∧Jy w' w.heap.size v zs∧zs.map ExV.er=es∧(∀z,z∈zs→ExD (Qd v X) w' z)∧Kept [] w w'
theorem ZlA (X:List Nat) (w:World) (R:Nat) (ty:Int) (A:Option Addr) (c:Nat) (ds:List NdV) (G:NdV→Int×ExV) (hp:Ji w A (ds.map NdV.p)) (hl:ds.length≤61) (hG:∀d,d∈ds→0≤(G d).1∧(G d).1≤2) (hX:∀q,q∈X→q < w.heap.size)
 (hW:∀d W Y,d∈ds→Kept [] w W→(∀q,q∈Y→q∈X∨w.heap.size≤q)→(∀q,q∈Y→q < W.heap.size)→
  Calls prog 32 #[.pointer (some ⟨R,0,none⟩),.pointer (some ⟨d.p,0,none⟩),.int .i64 ty,.bool false] W (Zjn Y (G d) W)):
 Calls prog 43 #[.pointer (some ⟨R,0,none⟩),.slice A ds.length c,.int .i64 ty] w (ZsW X (evN G ds) (evL G ds) w):=by
 have HP:=hh hp
 have HX:=hh hX
 have HW:=hh hW
 have HG:=hh hG
 have HBD:=hh (fun k=>Zsr hl hG k)
 obtain⟨i0,hi,hz0,hz1,hz2⟩:=info_parts Zhj
 clear hp hX hW hG
 go_enter func43,ntmps43
 go_wp2_with fail
 go_loopw [6,7,14] (fun s6 s7 s14 wr=>∃(k:Nat) (v:Value) (zs:List ExV),s14= .int .i64 k∧k≤ds.length∧s6= .int .i64 (evN G (ds.take k))∧s7=v∧Jy wr w.heap.size v zs∧zs.map ExV.er=evL G (ds.take k)∧(∀z,z∈zs→ExD (Qd v X) wr z)∧Kept [] w wr) (fun _ _ s14 _=>ds.length - (intOf s14).toNat)
 case atStart=>exact⟨0,_,[],rfl,Nat.zero_le _,rfl,rfl,Jy.nil _ _,rfl,fun z hz=>by simp at hz,Kept.refl _ _⟩
 case round=>
  obtain⟨k,s7,zs,rfl,hk,rfl,hv,ho,he,hd,hkr⟩:=hrel
  replace hv:=hv.symm
  subst hv
  have HO:=hh ho
  have HE:=hh he
  have HD:=hh hd
  have HKR:=hh hkr
  have hzl:zs.length≤61:=by
   have h1:=congrArg List.length he
   rw[List.length_map,evL,List.length_map,List.length_take]at h1
   omega
  obtain⟨w1,rfl⟩:∃w1:World,w1=wr:=⟨_,rfl⟩
  haveI p_w1:Zb w1 w:=⟨hkr⟩
  clear ho he hd hkr
  by_cases hlt:k < ds.length
  ·obtain⟨d,hdk⟩:∃d,ds[k]? =some d:=⟨_,List.getElem?_eq_getElem hlt⟩
   have HSN:Hid (evN G (ds.take (k+1))=evN G (ds.take k)*(G d).1):=Zn8 hdk
   have HSL:Hid (evL G (ds.take (k+1))=evL G (ds.take k)++ [(G d).2]):=Zoa hdk
   have hb:=HBD.out k
   have hb1:=HBD.out (k+1)
   rw[HSN.out]at hb1
   have hg:=HG.out d (List.mem_of_getElem? hdk)
   have HC:=hh (HW.out d w1 (Qd s7 X) (List.mem_of_getElem? hdk) HKR.out (fun q hq=>(Zl.1 hq).elim (fun h=> .inr (HO.out.lt q h).1) .inl) (fun q hq=>(Zl.1 hq).elim (fun h=>(HO.out.lt q h).2) (fun h=>Nat.lt_of_lt_of_le (HX.out q h) HKR.out.size)))
   rcases HP.out with h0 | ⟨b,o,rfl,hc⟩
   ·have:=congrArg List.length h0
    simp at this
    rw[this]at hlt
    simp at hlt
   have qp:=HKR.out.cell (hc k d.p (by rw[List.getElem?_map,hdk];rfl)) (by simp)
   clear hc hdk
   generalize evN G (ds.take k)=n at*
   generalize evL G (ds.take k)=es at*
   generalize hgd:G d=g at*
   obtain⟨g1,g2⟩:=g
   clear hgd
   go_wp2_with fail
   refine HC.out.mono ?_
   rintro e w2 ⟨z,rfl,hze,hzd,hk2⟩
   have HO2:=hh (HO.out.keep (X:=[]) hk2 (fun _ _=>by simp))
   have HZE:=hh hze
   have HZD:=hh hzd
   have HK2:=hh hk2
   haveI p_w2:Zb w2 w:=⟨HKR.out.trans hk2⟩
   clear hze hzd hk2 HC HO
   have hA:zs.length+1≤maxLen:=by unfold maxLen;omega
   have hB:(zs.length+1)*104≤140737488355328:=by omega
   have hC:w.heap.size≤((w2.alloc (.cells z.cells.toArray 41)).alloc (.cells z.cells.toArray 41)).heap.size:=Kept.size (X:=[]) kp
   have hcell:∀j u,z.cells[j]? =some u→((w2.alloc (.cells z.cells.toArray 41)).alloc (.cells z.cells.toArray 41)).cell? ((⟨w2.heap.size+1,0,none⟩:Addr).add j)=some u:=Zhk Zc.has
   go_wp2_with (at_builtin;refine wpList_append_own_at _ rfl (.tmp 28) (.tmp 30) 38 rfl w.heap.size 41 i0 (.agg Zg.cells.toArray) 9 104 underlying38 hi hz0 hz1 hz2 rfl (by decide) s7 zs.length (flX zs) rfl ((HO2.out.alloc _).alloc _) ⟨w2.heap.size+1,0,none⟩ 1 1 z.cells rfl rfl hcell (Qg z) hA hB hC ?_;intro v6 w6 ho6 hg6 _ hat6;have HO6:=hh ho6;have HG6:=hh hg6;have HA6:=hh hat6;clear ho6 hg6 hat6)
   have HG3:Hid (w2.grownBy w6 s7.ownBlock):=Kept.grownBy' (a:=w2) kp HG6.out
   have HA3:Hid (v6.ownBlock=s7.ownBlock∨∃b,v6.ownBlock=some b∧w2.heap.size≤b):=HA6.out.imp (fun h=>h) (fun h=>⟨_,h,Kept.size (X:=[]) (w:=w2) kp⟩)
   have HK6:Hid (Kept [] w w6):=Kept.grown (a:=w) (b:=w2) kp HG3.out (fun q hq=>(HO2.out.lt q hq).1)
   have HO7:Hid (Jy w6 w.heap.size v6 (zs++ [z])):=by
    have:=HO6.out
    rw[Hid]
    unfold Jy
    rw[Zbe,List.length_append,show flX [z]=z.cells by simp[flX]]
    exact this
   have HE7:Hid ((zs++ [z]).map ExV.er=evL G (ds.take (k+1))):=by rw[Hid,List.map_append,HE.out,HSL.out,←HZE.out];rfl
   have HD7:Hid (∀y,y∈zs++ [z]→ExD (Qd v6 X) w6 y):=by
    intro y hy
    rcases List.mem_append.1 hy with h1 | h1
    ·exact((HD.out y h1).kept HK2.out).grow HG3.out HA3.out
    ·obtain rfl:y=z:=by simpa using h1
     exact HZD.out.grow HG3.out HA3.out
   clear HO6 HG6 HA6 hcell
   go_roundw
   case rel=>exact⟨k+1,v6,zs++ [z],by go_num,by omega,by rw[HSN.out],rfl,HO7.out,HE7.out,HD7.out,HK6.out⟩
   case measure=>simp[intOf];omega
  ·obtain rfl:k=ds.length:=by omega
   have HT:Hid (ds.take ds.length=ds):=List.take_length
   rw[HT.out]at HE⊢
   clear HW HP
   go_wp2_with fail
   refine bodyPost_ret (v:= .tuple #[.int .i64 (evN G ds),s7]) (Qm results43 (Zh rfl) (Zh rfl)) rfl ?_
   exact⟨s7,zs,rfl,HO.out,HE.out,HD.out,HKR.out⟩
theorem Zpa (x:Zd):x.cells.toArray.all (·.oneCell')=true:=x.one
theorem Zpb (x:ChV):(ChV.cells x).toArray.all (·.oneCell')=true:=by simp[ChV.cells,Value.oneCell']
def ZeS:ChV:=(0,none,0,[])
theorem Tryz.infoPrm (x:Zd):(prog.info? 98).map (·.size)=some (Zd.cells x).length:=by
 show _=some 13
 kernel_rfl
@[go_sem] theorem ZuX (x:Zd):(Zd.cells x).length=13:=rfl
class Ye (w:World) (b o:Nat) (x:outParam Zd):Prop where
 range:w.rangeAt b o (Zd.cells x)
theorem Ye.kept {w w':World} {b o:Nat} {x:Zd} (h:Ye w b o x) (hk:Kept [] w w'):Ye w' b o x:=⟨fun j u hu=>hk.cell (h.range j u hu) (by simp)⟩
instance (w:World) (b o:Nat) (x:Zd) (ob:Obj) [h:Ye w b o x]:Ye (w.alloc ob) b o x:=⟨World.rangeAt_alloc h.range ob⟩
instance (w:World) (b o:Nat) (x:Zd) [h:Ye w b o x]:Ye w.drew b o x:=⟨by simpa using h.range⟩
instance (w:World) (b o:Nat) (x:Zd) (z:Qr w) [h:Ye w b o x]:Ye z.1 b o x:=h.kept z.2
instance (w:World) (U:World→Prop) (b o:Nat) (x:Zd) (z:Zs w U) [h:Ye w b o x]:Ye z.1 b o x:=h.kept z.2.1
instance (w' w:World) (b o:Nat) (x:Zd) [p:Zb w' w] [h:Ye w b o x]:Ye w' b o x:=h.kept p.kept
instance (w:World) (b o D:Nat) (x:Zd) (cs:Array Value) [h:Ye w b o x] [a:Qf D b]:Ye (w.setRow D cs) b o x:=⟨QB h.range D cs a.ne⟩
instance (w:World) (B:Nat) (x:Zd) [h:Zc w B 98 (Zd.cells x).toArray]:Ye w B 0 x:=⟨ZR h.has⟩
instance (w:World) (B:Nat) [h:Zc w B 98 #[.string ⟨#[]⟩,.int .u8 0,.int .i64 0,.int .u8 0,.int .u8 0,.int .i64 0,.string ⟨#[]⟩,.slice none 0 0,.slice none 0 0,.int .i64 0,.int .i64 0,.int .i64 0,.int .i64 0]]:Ye w B 0 ZjB:=⟨ZR (l:=Zd.cells ZjB) h.has⟩
def ZgZ (v:Value):Sem Next:=do return .value (←Instr.loadAt 98 v)
@[go_sem ↓] theorem Zmu (ρ:Operand→Value) (dst:Option Tmp) (x:Operand) (ty:TypeId) (pos:String) (after:Array Edge) (guard:Option (Nat×Bool)):
 execOp ρ {dst,op:= .load 98 x,type:=ty,pos,after,guard}=ZgZ (ρ x):=rfl
@[go_sem] theorem ZpS (w:World) (b o:Nat) (x:Zd) [h:Ye w b o x]:Sem.run prog (ZgZ (.pointer (some ⟨b,o,none⟩))) w= .ok (.value (.agg (Zd.cells x).toArray)) w:=by
 simp only[ZgZ,Instr.loadAt,Instr.sureAddr,Sem.run_bind,Sem.run_pure,Result.andThen_ok,run_loadVar_mid w b o 98 (Zd.cells x) _ h.range underlying98 rfl (Tryz.infoPrm x)]
instance (w:World) (B o:Nat) (x:Zd) [h:Ye w B o x]:Ya w 98 ⟨B,o,none⟩ (.agg (Zd.cells x).toArray):=⟨run_loadVar_mid w B o 98 (Zd.cells x) _ h.range underlying98 rfl (Tryz.infoPrm x)⟩
@[go_sem high] theorem Tryz.storePrm (x:Zd) (w:World) (k:Nat) (hk:k=w.heap.size):Sem.run prog (storeCells ⟨k,0,none⟩ (Zd.cells x))
 (w.alloc (.cells #[.string ⟨#[]⟩,.int .u8 0,.int .i64 0,.int .u8 0,.int .u8 0,.int .i64 0,.string ⟨#[]⟩,.slice none 0 0,.slice none 0 0,.int .i64 0,.int .i64 0,.int .i64 0,.int .i64 0] 98))= .ok () (w.alloc (.cells (Zd.cells x).toArray 98)):=by
 subst hk
 exact run_storeCells_new w 98 _ (Zd.cells x).toArray (by simpa using Tryz.infoPrm x) rfl (Zpa x)
@[go_sem high] theorem Tryz.storePrmd (x:Zd) (w:World) (k:Nat) (hk:k=w.heap.size):Sem.run prog (storeCells ⟨k,0,none⟩ (Zd.cells x))
 (w.alloc (.cells #[.string ⟨#[]⟩,.int .u8 0,.int .i64 0,.int .u8 0,.int .u8 0,.int .i64 0,.string ⟨#[]⟩,.slice none 0 0,.slice none 0 0,.int .i64 0,.int .i64 0,.int .i64 0,.int .i64 0] 98)).drew= .ok () (w.alloc (.cells (Zd.cells x).toArray 98)).drew:=
 Tryz.storePrm x w.drew k (by simpa using hk)
instance (w:World) (B:Nat) (x:Zd) [h:Zc w B 98 (Zd.cells x).toArray]:QW 98 13 w B:=⟨⟨_,h.has,rfl⟩⟩
instance (w:World) (B:Nat) (a0 a1 a2 a3 a4 a5 a6 a7 a8 a9 a10 a11 a12:Value) [h:Zc w B 98 #[a0,a1,a2,a3,a4,a5,a6,a7,a8,a9,a10,a11,a12]]:QW 98 13 w B:=⟨⟨_,h.has,rfl⟩⟩
@[go_sem] theorem Tryz.storePrmBox (x:Zd) (w:World) (B:Nat) [h:QW 98 13 w B]:Sem.run prog (storeCells ⟨B,0,none⟩ (Zd.cells x)) w= .ok () (w.setRow B (Zd.cells x).toArray):=by
 obtain⟨c,hc,hs⟩:=h.has
 have:=run_storeVar_row (P:=prog) w B 98 98 c (Zd.cells x).toArray hc (by simpa using Tryz.infoPrm x) (by rw[hs];rfl) (Zpa x)
 cases hq:prog.info? 98 with
 | none=>have h1:=Tryz.infoPrm x;rw[hq]at h1;cases h1
 | some i=>
  have hsz:(Zd.cells x).toArray.size=i.size:=by have:=Tryz.infoPrm x;simp[hq]at this;simp;omega
  simpa [storeVar,sizeOf,typeInfo,hq,Value.cells,hsz]using this
theorem Tryz.infoCho (x:ChV):(prog.info? 60).map (·.size)=some (ChV.cells x).length:=by
 show _=some 2
 kernel_rfl
@[go_sem] theorem ZuY (x:ChV):(ChV.cells x).length=2:=rfl
class YP (w:World) (b o:Nat) (x:outParam ChV):Prop where
 range:w.rangeAt b o (ChV.cells x)
theorem YP.kept {w w':World} {b o:Nat} {x:ChV} (h:YP w b o x) (hk:Kept [] w w'):YP w' b o x:=⟨fun j u hu=>hk.cell (h.range j u hu) (by simp)⟩
instance (w:World) (b o:Nat) (x:ChV) (ob:Obj) [h:YP w b o x]:YP (w.alloc ob) b o x:=⟨World.rangeAt_alloc h.range ob⟩
instance (w:World) (b o:Nat) (x:ChV) [h:YP w b o x]:YP w.drew b o x:=⟨by simpa using h.range⟩
instance (w:World) (b o:Nat) (x:ChV) (z:Qr w) [h:YP w b o x]:YP z.1 b o x:=h.kept z.2
instance (w:World) (U:World→Prop) (b o:Nat) (x:ChV) (z:Zs w U) [h:YP w b o x]:YP z.1 b o x:=h.kept z.2.1
instance (w' w:World) (b o:Nat) (x:ChV) [p:Zb w' w] [h:YP w b o x]:YP w' b o x:=h.kept p.kept
instance (w:World) (b o D:Nat) (x:ChV) (cs:Array Value) [h:YP w b o x] [a:Qf D b]:YP (w.setRow D cs) b o x:=⟨QB h.range D cs a.ne⟩
instance (w:World) (B:Nat) (x:ChV) [h:Zc w B 60 (ChV.cells x).toArray]:YP w B 0 x:=⟨ZR h.has⟩
instance (w:World) (B:Nat) [h:Zc w B 60 #[.int .u8 0,.slice none 0 0]]:YP w B 0 ZeS:=⟨ZR (l:=ChV.cells ZeS) h.has⟩
def Zg1 (v:Value):Sem Next:=do return .value (←Instr.loadAt 60 v)
@[go_sem ↓] theorem Zmw (ρ:Operand→Value) (dst:Option Tmp) (x:Operand) (ty:TypeId) (pos:String) (after:Array Edge) (guard:Option (Nat×Bool)):
 execOp ρ {dst,op:= .load 60 x,type:=ty,pos,after,guard}=Zg1 (ρ x):=rfl
@[go_sem] theorem ZpU (w:World) (b o:Nat) (x:ChV) [h:YP w b o x]:Sem.run prog (Zg1 (.pointer (some ⟨b,o,none⟩))) w= .ok (.value (.agg (ChV.cells x).toArray)) w:=by
 simp only[Zg1,Instr.loadAt,Instr.sureAddr,Sem.run_bind,Sem.run_pure,Result.andThen_ok,run_loadVar_mid w b o 60 (ChV.cells x) _ h.range underlying60 rfl (Tryz.infoCho x)]
instance (w:World) (B o:Nat) (x:ChV) [h:YP w B o x]:Ya w 60 ⟨B,o,none⟩ (.agg (ChV.cells x).toArray):=⟨run_loadVar_mid w B o 60 (ChV.cells x) _ h.range underlying60 rfl (Tryz.infoCho x)⟩
@[go_sem high] theorem Tryz.storeCho (x:ChV) (w:World) (k:Nat) (hk:k=w.heap.size):Sem.run prog (storeCells ⟨k,0,none⟩ (ChV.cells x))
 (w.alloc (.cells #[.int .u8 0,.slice none 0 0] 60))= .ok () (w.alloc (.cells (ChV.cells x).toArray 60)):=by
 subst hk
 exact run_storeCells_new w 60 _ (ChV.cells x).toArray (by simpa using Tryz.infoCho x) rfl (Zpb x)
@[go_sem high] theorem Tryz.storeChod (x:ChV) (w:World) (k:Nat) (hk:k=w.heap.size):Sem.run prog (storeCells ⟨k,0,none⟩ (ChV.cells x))
 (w.alloc (.cells #[.int .u8 0,.slice none 0 0] 60)).drew= .ok () (w.alloc (.cells (ChV.cells x).toArray 60)).drew:=
 Tryz.storeCho x w.drew k (by simpa using hk)
instance (w:World) (B:Nat) (x:ChV) [h:Zc w B 60 (ChV.cells x).toArray]:QW 60 2 w B:=⟨⟨_,h.has,rfl⟩⟩
instance (w:World) (B:Nat) (a0 a1:Value) [h:Zc w B 60 #[a0,a1]]:QW 60 2 w B:=⟨⟨_,h.has,rfl⟩⟩
@[go_sem] theorem Tryz.storeChoBox (x:ChV) (w:World) (B:Nat) [h:QW 60 2 w B]:Sem.run prog (storeCells ⟨B,0,none⟩ (ChV.cells x)) w= .ok () (w.setRow B (ChV.cells x).toArray):=by
 obtain⟨c,hc,hs⟩:=h.has
 have:=run_storeVar_row (P:=prog) w B 60 60 c (ChV.cells x).toArray hc (by simpa using Tryz.infoCho x) (by rw[hs];rfl) (Zpb x)
 cases hq:prog.info? 60 with
 | none=>have h1:=Tryz.infoCho x;rw[hq]at h1;cases h1
 | some i=>
  have hsz:(ChV.cells x).toArray.size=i.size:=by have:=Tryz.infoCho x;simp[hq]at this;simp;omega
  simpa [storeVar,sizeOf,typeInfo,hq,Value.cells,hsz]using this
@[go_sem] theorem Zd.c0 (y:Zd) (h:0 < y.cells.length):y.cells[0]'h=(.string y.name):=rfl
@[go_sem] theorem Zd.c1 (y:Zd) (h:1 < y.cells.length):y.cells[1]'h=(.int .u8 y.mode):=rfl
@[go_sem] theorem Zd.c2 (y:Zd) (h:2 < y.cells.length):y.cells[2]'h=(.int .i64 y.sub):=rfl
@[go_sem] theorem Zd.c3 (y:Zd) (h:3 < y.cells.length):y.cells[3]'h=(.int .u8 y.d.kind):=rfl
@[go_sem] theorem ChV.c0 (y:ChV) (h:0 < (ChV.cells y).length):(ChV.cells y)[0]'h=(.int .u8 y.1):=rfl
@[go_sem] theorem ChV.c1 (y:ChV) (h:1 < (ChV.cells y).length):(ChV.cells y)[1]'h=(.slice y.2.1 y.2.2.2.length y.2.2.1):=rfl
@[go_sem] theorem AsV.c0 (y:AsV) (h:0 < (AsV.cells y).length):(AsV.cells y)[0]'h=(.slice y.1 y.2.1.length y.2.2.1):=rfl
instance (w:World) (B o:Nat) (x:AsV) [h:QH w B o x]:Q1 w B (o+1) x.2.2.2:=⟨fun j u hu=>by
 have:=h.range (j+1) u (by simpa [AsV.cells]using hu)
 rwa [show o+(j+1)=o+1+j by omega]at this⟩
instance (w:World) (B o:Nat) (x:Zd) [h:Ye w B o x]:Q1 w B (o+3) x.d:=⟨fun j u hu=>by
 have hj:j < 9:=(List.getElem?_eq_some_iff.1 hu).1
 have:=h.range (j+3) u (by
  match j,hj with
  | 0,_=>exact hu
  | 1,_=>exact hu
  | 2,_=>exact hu
  | 3,_=>exact hu
  | 4,_=>exact hu
  | 5,_=>exact hu
  | 6,_=>exact hu
  | 7,_=>exact hu
  | 8,_=>exact hu)
 rwa [show o+(j+3)=o+3+j by omega]at this⟩
@[go_sem low] theorem Zvm (w:World) (b o:Nat) (x:ExV) [h:Q1 w b o x]:w.cell? ⟨b,o,none⟩=some (.int .u8 x.kind):=h.range 0 _ rfl
@[go_sem] theorem Zvk (w:World) (b o:Nat) (x:ExV) [h:Q1 w b o x]:w.cell? ⟨b,o+3,none⟩=some (.string x.s):=h.range 3 _ rfl
def ZcX (a:AsV) (s:ByteArray):Bool:=
 match a.2.1 with
 | []=>false
 | c::_=>match c.2.2.2 with
  | [x]=>c.1 == 1 && (x.kind == 3 && x.s.toList == s.toList)
  | _=>false
def Zs1 (w:World) (a:AsV):Prop:=Zo ChV 2 ChV.cells w a.1 a.2.1∧a.2.1.length≤140737488355328∧∀c,c∈a.2.1→Zo ExV 9 ExV.cells w c.2.1 c.2.2.2∧c.2.2.2.length≤140737488355328
theorem Zs1.kept {w w':World} {a:AsV} (h:Zs1 w a) (hk:Kept [] w w'):Zs1 w' a:=⟨h.1.kept hk,h.2.1,fun c hc=>⟨(h.2.2 c hc).1.kept hk,(h.2.2 c hc).2⟩⟩
theorem Qe.asIn {w:World} {n:Nat} {x:ExV} (h:Qe w (n+1) x) {a:AsV} (ha:a∈x.al):Zs1 w a:=by
 have:=h.2.2.2.2.2.2.2.2 a ha
 exact⟨this.1,this.2.1,fun c hc=>⟨(this.2.2 c hc).1,(this.2.2 c hc).2.1⟩⟩
theorem ZkE (w:World) (a:AsV) (s:ByteArray) (ha:Zs1 w a):Calls prog 92 #[.agg (AsV.cells a).toArray,.string s] w (ZE (.bool (ZcX a s)) w):=by
 obtain⟨aa,l,ac,x⟩:=a
 obtain⟨h1,h2,h3⟩:=ha
 cases l with
 | nil=>
  have HV:Hid (ZcX (aa,[],ac,x) s=false):=rfl
  clear h1 h2 h3
  go_enter func92,ntmps92
  go_wp2_with fail
  rw[HV.out]
  exact Za rfl (Zj results92 (Zh rfl)) kp
 | cons c l=>
  obtain⟨b,o,rfl,hr⟩:=h1.some_ (j:=0) (x:=c) rfl
  haveI ic:YP w b o c:=⟨by have:=hr 0 c rfl;simpa using this⟩
  have hc:=h3 c (by simp)
  have hll:1+l.length≤140737488355328:=by simp at h2;omega
  have hl0:(((c::l).length:Int) == 0)=false:=by simp;omega
  have hl1:0 < (c::l).length:=by simp
  have h2':(c::l).length≤140737488355328:=h2
  clear hr h3
  have HV:Hid (ZcX (some ⟨b,o,none⟩,c::l,ac,x) s=match c.2.2.2 with | [x]=>c.1 == 1 && (x.kind == 3 && x.s.toList == s.toList) | _=>false):=rfl
  obtain⟨ck,ca,cc,ls⟩:=c
  obtain⟨h4,h5⟩:=hc
  simp only at h4 h5 HV
  clear hl0 hl1 h2 h2'
  cases hk:(ck == 1)
  ·have HF:Hid (ZcX (some ⟨b,o,none⟩,(ck,ca,cc,ls)::l,ac,x) s=false):=by
    rw[Hid,HV.out,hk];split <;> rfl
   clear HV
   go_enter func92,ntmps92
   go_wp2_with fail
   rw[HF.out]
   exact Za rfl (Zj results92 (Zh rfl)) kp
  ·match ls,h4,h5,HV,h1,ic with
   | [],h4,h5,HV,h1,ic=>
    clear h4 h5 h1
    go_enter func92,ntmps92
    go_wp2_with fail
    rw[HV.out]
    exact Za rfl (Zj results92 (Zh rfl)) kp
   | y::z::r,h4,h5,HV,h1,ic=>
    have hn:((r.length:Int)+1+1 == 1)=false:=by simp;omega
    have h6:r.length+2≤140737488355328:=h5
    clear h4 h5 h1
    go_enter func92,ntmps92
    go_wp2_with fail
    rw[HV.out]
    exact Za rfl (Zj results92 (Zh rfl)) kp
   | [y],h4,h5,HV,h1,ic=>
    obtain⟨b2,o2,rfl,hr⟩:=h4.some_ (j:=0) (x:=y) rfl
    haveI ie:Q1 w b2 o2 y:=⟨by have:=hr 0 y rfl;simpa using this⟩
    have HV2:Hid (ZcX (some ⟨b,o,none⟩,(ck,some ⟨b2,o2,none⟩,cc,[y])::l,ac,x) s=(y.kind == 3 && y.s.toList == s.toList)):=by rw[Hid,HV.out,hk];rfl
    clear hr h4 h5 h1 HV
    cases h7:(y.kind == 3)
    ·rw[h7]at HV2
     go_enter func92,ntmps92
     go_wp2_with fail
     rw[HV2.out]
     exact Za rfl (Zj results92 (Zh rfl)) kp
    ·rw[h7]at HV2
     cases h8:(y.s.toList == s.toList)
     ·rw[h8]at HV2
      go_enter func92,ntmps92
      go_wp2_with fail
      rw[HV2.out]
      exact Za rfl (Zj results92 (Zh rfl)) kp
     ·rw[h8]at HV2
      go_enter func92,ntmps92
      go_wp2_with fail
      rw[HV2.out]
      exact Za rfl (Zj results92 (Zh rfl)) kp
def Zal {α:Type} (p:α→Bool):List α→Int
 | []=>-1
 | x::l=>if p x then 0 else if Zal p l < 0 then -1 else Zal p l+1
theorem Zco {α:Type} {p:α→Bool}:∀{l:List α},l.any p=false→Zal p l= -1
 | [],_=>rfl
 | x::l,h=>by
  rw[List.any_cons,Bool.or_eq_false_iff]at h
  rw[Zal,h.1,Zco h.2]
  rfl
theorem Zcp {α:Type} {p:α→Bool}:∀{l:List α} {k:Nat} {x:α},(l.take k).any p=false→l[k]? =some x→p x=true→Zal p l=k
 | [],_,_,_,hx,_=>by simp at hx
 | y::l,0,x,_,hx,hp=>by
  obtain rfl:y=x:=by simpa using hx
  rw[Zal,hp];rfl
 | y::l,k+1,x,h,hx,hp=>by
  rw[List.take_succ_cons,List.any_cons,Bool.or_eq_false_iff]at h
  have:=Zcp (l:=l) (k:=k) h.2 (by simpa using hx) hp
  rw[Zal,h.1,this]
  simp only[Bool.false_eq_true,if_false]
  rw[if_neg (by omega)]
  omega
theorem Zk5 {α:Type} {p:α→Bool}:∀(l:List α),-1≤Zal p l∧Zal p l < l.length
 | []=>by simp[Zal]
 | x::l=>by
  have:=Zk5 (p:=p) l
  rw[Zal,List.length_cons]
  split
  ·omega
  split <;> omega
theorem ZfF (w:World) (a:Option Addr) (c:Nat) (xs:List Zd) (hm:xs.length≤140737488355328) (hI:Zo Zd 13 Zd.cells w a xs) (K:Nat) (caps:Array Value) (p:Zd→Bool) (eg:∀args w,(callFunc K args).run prog w= .ok (.enter K args) w)
 (hp:∀W x,Kept [] w W→x∈xs→Calls prog K (#[.agg x.cells.toArray]++caps) W (J0 (p x) W)):
 Calls prog 90 #[.slice a xs.length c,.func (.func K) #[] caps] w (ZE (.int .i64 (Zal p xs)) w):=by
 have HI:=hh hI
 have HP:=hh hp
 clear hI hp
 go_enter func90,ntmps90
 go_wp2_with fail
 go_loopw [8] (fun i wr=>∃k:Nat,k≤xs.length∧i= .int .i64 k∧(xs.take k).any p=false∧Kept [] w wr) (fun i _=>xs.length - (intOf i).toNat)
 case atStart=>exact⟨0,Nat.zero_le _,rfl,rfl,Kept.refl _ _⟩
 case round=>
  obtain⟨k,hk,rfl,hn,hkr⟩:=hrel
  have HN:=hh hn
  have HK:=hh hkr
  clear hn hkr
  obtain⟨wo,rfl⟩:∃wo:World,wo=wr:=⟨_,rfl⟩
  by_cases hlt:k < xs.length
  ·obtain⟨x,hx⟩:∃x,xs[k]? =some x:=⟨_,List.getElem?_eq_getElem hlt⟩
   have HX:=hh hx
   rcases HI.out with h0 | ⟨b,o,rfl,hcx⟩
   ·rw[h0]at hlt;simp at hlt
   ·haveI ie:Ye wo b (o+k*13) x:=⟨fun j u hu=>HK.out.cell (hcx k x hx j u hu) (by simp)⟩
    clear hcx hx
    go_wp2_with fail
    refine(HP.out _ _ HK.out (List.mem_of_getElem? HX.out)).mono ?_
    rintro e w2 ⟨rfl,hk2⟩
    have HK2:=hh (HK.out.trans hk2)
    have HS:Hid ((xs.take (k+1)).any p=p x):=by
     obtain⟨hk',e⟩:=List.getElem?_eq_some_iff.1 HX.out
     rw[Hid,List.take_succ_eq_append_getElem hk',e,List.any_append,HN.out]
     simp
    have HA:Hid (p x=true→Zal p xs=k):=fun h=>Zcp HN.out HX.out h
    clear hk2 HK ie
    cases hpx:p x
    ·rw[hpx]at HS
     clear hpx HA
     go_wp2_with fail
     go_roundw
     case rel=>exact⟨k+1,by omega,by go_num,HS.out,HK2.out⟩
     case measure=>simp[intOf];omega
    ·have HA2:=hh (HA.out hpx)
     clear hpx HA HS
     go_wp2_with fail
     go_ret
     exact⟨by rw[HA2.out];rfl,HK2.out⟩
  ·obtain rfl:k=xs.length:=by omega
   have HN2:Hid (Zal p xs= -1):=Zco (by have:=HN.out;rw[List.take_length]at this;exact this)
   clear HN
   go_wp2_with fail
   go_ret
   exact⟨by rw[HN2.out];rfl,HK.out⟩
theorem Tryz.entersAct1:∀args w,(callFunc 91 args).run prog w= .ok (.enter 91 args) w:=Go.Proofs.enters_of func91 (by kernel_rfl) rfl
theorem ZoE (w:World) (B C:Nat) (d:NdV) (a:AsV) (i:Nat) (q:Zd) [hB:Zc w B 105 #[.pointer (some ⟨d.p,0,none⟩)]] [hC:Zc w C 3 #[.int .i64 i]] (n:Nat) (hd:Zgl w (n+1) d) (ha:d.x.al[i]? =some a):
 Calls prog 91 (#[.agg q.cells.toArray]++ #[.pointer (some ⟨B,0,none⟩),.pointer (some ⟨C,0,none⟩)]) w (J0 (ZcX a q.name) w):=by
 haveI bd:=hd.is
 have hx:=hd.2.1
 cases n with
 | zero=>exact hx.elim
 | succ n=>
 have HN:=hh (fun w' (hk:Kept [] w w')=>ZkE w' a q.name ((hx.asIn (List.mem_of_getElem? ha)).kept hk))
 have h1:=hx.2.2.1
 have h2:=hx.2.2.2.2.2.1
 obtain⟨hil,_⟩:=List.getElem?_eq_some_iff.1 ha
 obtain⟨b,o,hq,hr⟩:=h1.some_ ha
 haveI ia:QH w b (o+i*10) a:=⟨hr i a ha⟩
 clear hr h1 hx hd ha
 show Calls prog 91 #[.agg q.cells.toArray,.pointer (some ⟨B,0,none⟩),.pointer (some ⟨C,0,none⟩)] w _
 go_enter func91,ntmps91
 go_wp2_with fail
 refine Ze 12 0 (fun _=> .cells #[] 0) (by kernel_rfl) (by kernel_rfl) (fun i o h1 h2=>by omega) (fun _ _ _ _ _ h=>h) ?_;apply Exists.intro;refine⟨fun U hU hN=>?_,?_⟩;simp only[List.take_succ_cons,List.take_zero]
 ·repeat(go_big_quiet_step (exact Calls.headV hU (HN.out _ (Kept.trans kp (Zs.prop _)))))
  refine wpQuiet_nil ?_
  exact rfl
 simp only[List.drop_succ_cons,List.drop_zero,List.take_succ_cons,List.take_zero]
 intro w2 hk_w2 _
 haveI p_w2:Zb w2 _:=⟨hk_w2⟩
 clear hk_w2
 go_wp2_with fail
 go_ret
 exact⟨rfl,kp⟩
theorem ZfA (z:List Value):∀n:Nat,(madeCells z.toArray (n*z.length)).toList=(List.replicate n z).flatten:=by
 intro n
 unfold madeCells
 rw[Array.toList_map,Array.toList_range]
 induction n with
 | zero=>simp
 | succ n ih=>
  rw[Nat.succ_mul,List.range_add,List.map_append,ih,List.replicate_succ',List.flatten_append]
  congr 1
  rw[List.map_map]
  simp only[List.flatten_cons,List.flatten_nil,List.append_nil]
  apply List.ext_getElem
  ·simp
  ·intro i h1 h2
   simp only[List.getElem_map,List.getElem_range,Function.comp]
   rw[List.size_toArray,show(n*z.length+i) % z.length=i by rw[Nat.mul_comm,Nat.mul_add_mod,Nat.mod_eq_of_lt h2]]
   simp[h2]
def asE (z:ExV):AsV:=(none,[],0,z)
def flE (zs:List ExV):List Value:=((zs.map asE).map AsV.cells).flatten
theorem ZeD (z:ExV):(AsV.cells (asE z)).length=10:=rfl
theorem Zhf (l:List ExV):(flE l).length=l.length*10:=by
 induction l with
 | nil=>rfl
 | cons a l ih=>
  have e:flE (a::l)=AsV.cells (asE a)++flE l:=by simp[flE]
  rw[e,List.length_append,ih,List.length_cons,ZeD]
  omega
theorem Zhg (l k:List ExV):flE (l++k)=flE l++flE k:=by simp[flE]
theorem ZbM (z:ExV) (l:List ExV):flE (z::l)=AsV.cells (asE z)++flE l:=by simp[flE]
theorem ZnS (l:List ExV):∀i,(flE l).take (i*10)=flE (l.take i):=by
 induction l with
 | nil=>intro i;simp[flE]
 | cons a l ih=>
  intro i
  cases i with
  | zero=>simp[flE]
  | succ i=>
   rw[ZbM,List.take_succ_cons,ZbM,List.take_append,List.take_of_length_le (by rw[ZeD];omega),ZeD,show(i+1)*10 - 10=i*10 by omega,ih]
theorem ZnT (l:List ExV) (i:Nat):(flE l).drop (i*10)=flE (l.drop i):=by
 have h1:=List.take_append_drop (i*10) (flE l)
 have h2:flE (l.take i)++flE (l.drop i)=flE l:=by rw[←Zhg,List.take_append_drop]
 rw[ZnS]at h1
 exact List.append_cancel_left (h1.trans h2.symm)
theorem Zh9 (n:Nat):(madeCells (Value.agg (AsV.cells (asE Zg)).toArray).cells (n*10)).toList=flE (List.replicate n Zg):=by
 rw[show(Value.agg (AsV.cells (asE Zg)).toArray).cells=(AsV.cells (asE Zg)).toArray from rfl,←ZeD Zg,ZfA]
 unfold flE
 rw[List.map_replicate,List.map_replicate]
theorem Zhv:(prog.info? 63).map (fun i=>(i.zero,i.size,i.bytes))=some (some (.agg (AsV.cells (asE Zg)).toArray),10,128):=by kernel_rfl
theorem Zf2:(prog.info? 4).map (fun i=>(i.zero,i.size,i.bytes))=some (some (.bool false),1,1):=by kernel_rfl
def Zgj (w:World) (base:Nat) (v:Value) (zs:List ExV):Prop:=w.ownsRow base 63 10 v zs.length (flE zs)
theorem Zgj.keep {w w':World} {base:Nat} {v:Value} {l:List ExV} {X:List Nat} (h:Zgj w base v l) (hk:Kept X w w') (hx:∀k,v.ownBlock=some k→k∉X):Zgj w' base v l:=Zk h hk hx
theorem Zgj.rows {w:World} {base:Nat} {v:Value} {l:List ExV} (h:Zgj w base v l):∃A c,v= .slice A l.length c∧l.length≤c∧c≤9223372036854775807∧(A=none→c=0)∧Zo AsV 10 AsV.cells w A (l.map asE):=by
 have h':w.ownsRow base 63 10 v l.length ((l.map asE).map AsV.cells).flatten:=h
 obtain⟨A,c,rfl,h1,h2,h3,h4⟩:=YF (cells:=AsV.cells) h' (fun m=>rfl) (by simp)
 exact⟨A,c,rfl,h1,h2,h3,h4⟩
theorem Zgj.rowsA {X:List Nat} {w:World} {base:Nat} {v:Value} {l:List ExV} (h:Zgj w base v l) (hX:∀q,q∈X→q < base):∃A c,v= .slice A l.length c∧St X w (fun w'=>Zo AsV 10 AsV.cells w' A (l.map asE)):=by
 obtain⟨A,c,rfl,_,_,_,_⟩:=h.rows
 refine⟨A,c,rfl,fun w' hk=>?_⟩
 obtain⟨A',c',e,_,_,_,hr⟩:=(h.keep hk (fun k hk2 hm=>by have:=hX k hm;have:=(h.lt k hk2).1;omega)).rows
 cases e
 exact hr
theorem ZqH (l:List ExV) (i:Nat) (z:ExV) (hi:i < l.length):flE (l.set i z)=(flE l).take (i*10+1)++z.cells++(flE l).drop (i*10+10):=by
 have e:l.set i z=l.take i++z::l.drop (i+1):=by rw[List.set_eq_take_append_cons_drop,if_pos hi]
 have e2:flE l=flE (l.take i)++(AsV.cells (asE l[i])++flE (l.drop (i+1))):=by
  have h1:=congrArg flE (List.take_append_drop i l)
  rw[Zhg,List.drop_eq_getElem_cons hi,ZbM]at h1
  exact h1.symm
 have hl:(flE (l.take i)).length=i*10:=by rw[Zhf,List.length_take,Nat.min_eq_left (by omega)]
 have e3:(flE l).take (i*10+1)=flE (l.take i)++ [.slice none 0 0]:=by
  rw[e2,List.take_append,List.take_of_length_le (by omega),hl,show i*10+1 - i*10=1 by omega]
  rfl
 rw[e,Zhg,ZbM,e3,show i*10+10=(i+1)*10 by omega,ZnT]
 show flE (l.take i)++(([.slice none 0 0]++z.cells)++_)=_
 simp only[List.append_assoc]
theorem Z6 {ops:Array Oper} {rest:List Oper} {op:Oper} {a:Act} {w:World} {Q:Exit→Act→World→Prop} (hgd:op.guard=none) (x y:Operand) (ho:op.op= .store 41 x y)
 (base:Nat) (v:Value) (l:List ExV) (hO:Zgj w base v l) (i:Nat) (hi:i < l.length) (g:Nat) (hv:v.ownBlock=some g) (m:ExV) (hx:a.eval x= .pointer (some ⟨g,i*10+1,none⟩)) (hy:a.eval y= .agg m.cells.toArray)
 (h:∀w',Zgj w' base v (l.set i m)→w.grownBy w' (some g)→wpList prog ops Q rest (a.put op.dst undef) w'):wpList prog ops Q (op::rest) a w:=by
 refine wpList_plain hgd fun K hK=>?_
 rcases hO.2 with⟨rfl,hn⟩ | ⟨g',cap,cur,rfl,hbg,hg,hnc,hcm,hcs,htk⟩
 ·cases hv
 obtain rfl:g'=g:=by simpa [Value.ownBlock]using hv
 have hfit:i*10+1+m.cells.length≤cur.size:=by rw[ExV.len,hcs];omega
 have hst:=run_storeCells_at prog g' (i*10+1) 63 m.cells 0 cur w hg (by simpa using hfit) (Qg m)
 simp only[Nat.add_zero]at hst
 have hrun:(storeVar 41 ⟨g',i*10+1,none⟩ (.agg m.cells.toArray)).run prog w= .ok () (w.setRow g' (cur.toList.take (i*10+1)++m.cells++cur.toList.drop (i*10+1+m.cells.length)).toArray):=by
  cases hq:prog.info? 41 with
  | none=>have h1:=Tryz.infoEx m;rw[hq]at h1;cases h1
  | some i0=>
   have hsz:m.cells.toArray.size=i0.size:=by have:=Tryz.infoEx m;simp[hq]at this;simp;omega
   simpa [storeVar,sizeOf,typeInfo,hq,Value.cells,hsz]using hst
 unfold Oper.wp execOp
 simp only[ho,hx,hy,Instr.storeAt,Instr.sureAddr,Sem.run_bind,Sem.run_pure,Result.andThen_ok,hrun]
 refine hK _ _ (h _ ⟨by rw[Zhf],.inr ⟨g',cap,_,by rw[List.length_set],hbg,setRow_heap w g' cur _ _ _ hg,by rw[List.length_set];exact hnc,hcm,?_,?_⟩⟩ ⟨rfl,rfl,rfl,by simp[World.setRow],fun q hq hne=>setRow_other w g' q _ (fun e=>hne (by rw[e]))⟩)
 ·have:=congrArg List.length htk
  rw[List.length_take,Zhf,Array.length_toList]at this
  rw[List.size_toArray,List.length_append,List.length_append,List.length_take,List.length_drop,Array.length_toList,ExV.len]
  omega
 ·have hcl:cur.toList.length=cap*10:=by rw[Array.length_toList,hcs]
  have hsplit:=ZqH l i m hi
  have e1:(flE l).take (i*10+1)=cur.toList.take (i*10+1):=by rw[←htk,List.take_take,Nat.min_eq_left (by omega)]
  have e2:(flE l).drop (i*10+10)=(cur.toList.drop (i*10+10)).take (l.length*10 - (i*10+10)):=by rw[←htk,List.drop_take]
  rw[hsplit,e1,e2,List.length_set,ExV.len,show i*10+1+9=i*10+10 by omega,List.take_append,List.length_append,List.length_take,ExV.len,Nat.min_eq_left (by omega)]
  rw[List.take_of_length_le (by rw[List.length_append,List.length_take,ExV.len];omega)]
def Ziu (params:List Zd) (a:AsV) (i:Nat):Int:=if a.2.1= []then i else Zal (fun q=>ZcX a q.name) params
abbrev Zjr:=Int×List ExV×List Bool
def Zad (t:Tab) (params:List Zd) (has:List Bool) (k:Int):Bool:=decide (k < 0) || (decide ((params.length:Int)≤k) || (has.getD k.toNat false || decide (ofP t (params.getD k.toNat default).sub < 0)))
def ZsP (t:Tab) (params:List Zd) (g:Int→Bool→Int×ExV) (k:Int):Int×ExV:=
 g (ofP t (params.getD k.toNat default).sub) ((params.getD k.toNat default).mode == 2 || (params.getD k.toNat default).mode == 3)
def Zhy (t:Tab) (params:List Zd) (a:AsV) (g:Int→Bool→Int×ExV) (i:Nat) (s:Zjr):Option Zjr:=
 if Zad t params s.2.2 (Ziu params a i)then none else
  some (min 2 (s.1*(ZsP t params g (Ziu params a i)).1),s.2.1.set (Ziu params a i).toNat (ZsP t params g (Ziu params a i)).2,s.2.2.set (Ziu params a i).toNat true)
def Zbs (t:Tab) (params:List Zd) (al:List AsV) (gs:List (Int→Bool→Int×ExV)):Nat→Option Zjr
 | 0=>some (1,List.replicate params.length Zg,List.replicate params.length false)
 | i+1=>match Zbs t params al gs i with
  | none=>none
  | some s=>Zhy t params (al.getD i default) (gs.getD i default) i s
def Zap (t:Tab) (params:List Zd) (al:List AsV) (gs:List (Int→Bool→Int×ExV)):Int×List AsV:=
 match Zbs t params al gs gs.length with
 | none=>(0,[])
 | some s=>if s.2.2.all id then(s.1,s.2.1.map asE)else(0,[])
theorem ZeK {t:Tab} {params:List Zd} {al:List AsV} {gs:List (Int→Bool→Int×ExV)}:∀{i:Nat} {s:Zjr},Zbs t params al gs i=some s→s.2.1.length=params.length∧s.2.2.length=params.length
 | 0,s,h=>by
  unfold Zbs at h
  cases h
  simp
 | i+1,s,h=>by
  unfold Zbs at h
  split at h
  ·cases h
  ·rename_i s0 h0
   have h1:=ZeK h0
   unfold Zhy at h
   split at h
   ·cases h
   ·cases h
    simpa using h1
theorem Zme {t:Tab} {params:List Zd} {al:List AsV} {gs:List (Int→Bool→Int×ExV)} {i:Nat} (h:Zbs t params al gs i=none):∀k,i≤k→Zbs t params al gs k=none:=by
 intro k
 induction k with
 | zero=>
  intro hk
  have e:i=0:=by omega
  rw[e]at h
  exact h
 | succ k ih=>
  intro hk
  by_cases e:i=k+1
  ·subst e;exact h
  ·unfold Zbs
   rw[ih (by omega)]
def Zas (X:List Nat) (r:Int×List AsV) (w:World) (e:Ending) (w':World):Prop:=
 ∃(A:Option Addr) (c:Nat) (zs:List ExV),e= .returned (.tuple #[.int .i64 r.1,.slice A (zs.map asE).length c])∧(zs.map asE).map AsV.er=r.2∧St X w' (fun w''=>Zo AsV 10 AsV.cells w'' A (zs.map asE))∧(∀z,z∈zs→ExD X w' z)∧Kept [] w w'
@[go_sem low] theorem Zu3 (w:World) (b o:Nat) (x:AsV) [h:QH w b o x]:w.cell? ⟨b,o,none⟩=some (.slice x.1 x.2.1.length x.2.2.1):=h.range 0 _ rfl
@[go_sem] theorem ZuR (w:World) (b o:Nat) (x:Zd) [h:Ye w b o x]:w.cell? ⟨b,o+1,none⟩=some (.int .u8 x.mode):=h.range 1 _ rfl
@[go_sem] theorem ZuQ (w:World) (b o:Nat) (x:Zd) [h:Ye w b o x]:w.cell? ⟨b,o+2,none⟩=some (.int .i64 x.sub):=h.range 2 _ rfl
theorem Zas.no (X:List Nat) {w w':World} (hk:Kept [] w w'):Zas X (0,[]) w (.returned (.tuple #[.int .i64 0,.slice none 0 0])) w':=
 ⟨none,0,[],rfl,rfl,fun _ _=> .inl rfl,fun z hz=>by simp at hz,hk⟩
theorem Zf7 (X:List Nat) (w:World) (R:Nat) (t:Tab) (A:Option Addr) (c:Nat) (params:List Zd) (hP:Zo Zd 13 Zd.cells w A params) (hl:params.length≤5000) (hdef:∀q,q∈params→q.d.kind=0) (hX:∀q,q∈X→q < w.heap.size):
 Calls prog 48 #[.pointer (some ⟨R,0,none⟩),.slice A params.length c,.pointer none] w (Zas X (Zap t params [] []) w):=by
 have HP:=hh hP
 have HD:=hh hdef
 have HX:=hh hX
 obtain⟨ia,ha0,ha1,ha2,ha3⟩:=info_parts Zhv
 obtain⟨ib,hb0,hb1,hb2,hb3⟩:=info_parts Zf2
 have HV:Hid (Zap t params [] []=if params= []then(1,[])else(0,[])):=by
  rw[Hid]
  cases params <;> rfl
 have hma:ia.bytes*params.length≤281474976710656:=by rw[ha3];omega
 have hmb:ib.bytes*params.length≤281474976710656:=by rw[hb3];omega
 have hml:params.length≤maxLen:=by unfold maxLen;omega
 clear hP hdef hX
 go_enter func48,ntmps48
 go_upto_region 2 with(at_make;refine wpList_make_full _ rfl _ _ 39 rfl (w.heap.size+1) 63 ia _ 10 underlying39 ha0 ha1 ha2 .i64 .i64 _ _ params.length rfl rfl rfl rfl hma hml (by simp) ?_;intro w1 hown1 hgr1)
 have hk1:Kept [] w w1:=Kept.grown (a:=w) (b:=w.alloc (.cells #[.pointer none] 105)) kp hgr1 (fun _ h=>by cases h)
 have HO1:Hid (Zgj w1 (w.heap.size+1) (.slice (some ⟨w.heap.size+1,0,none⟩) params.length params.length) (List.replicate params.length Zg)):=by
  have h:=hown1
  rw[show(w.alloc (.cells #[.pointer none] 105)).heap.size=w.heap.size+1 by simp]at h
  rw[Zh9]at h
  rw[Hid]
  unfold Zgj
  rw[List.length_replicate]
  exact h
 haveI p_w1:Zb w1 w:=⟨hk1⟩
 haveI bp:Zc w1 w.heap.size 105 #[.pointer none]:=⟨(Kept.of_grown hgr1 (X:=[]) (fun _ h=>by cases h)).obj (Zf rfl) (by simp)⟩
 have hlt1:=(HO1.out.lt _ rfl).2
 clear hown1 hgr1 hk1 hma
 go_upto_region 3 with(at_make;refine wpList_make_full _ rfl _ _ 162 rfl w1.heap.size 4 ib _ 1 underlying162 hb0 hb1 hb2 .i64 .i64 _ _ params.length rfl rfl rfl rfl hmb hml (Nat.le_refl _) ?_;intro w2 hown2 hgr2)
 have HO2:Hid (w2.ownsRow w1.heap.size 4 1 (.slice (some ⟨w1.heap.size,0,none⟩) params.length params.length) params.length ((List.replicate params.length false).map Value.bool)):=by
  have h:=hown2
  rw[Nat.mul_one,show(Value.bool false).cells= #[.bool false]from rfl,toList_madeCells_one]at h
  rw[Hid,List.map_replicate]
  exact h
 have hk2:Kept [] w1 w2:=Kept.of_grown hgr2 (fun _ h=>by cases h)
 have HO1':=hh (HO1.out.keep hk2 (fun _ _=>by simp))
 haveI p_w2:Zb w2 w1:=⟨hk2⟩
 clear hown2 hgr2 hk2 hmb hml HO1
 by_cases hz:params= []
 ·subst hz
  have HW:Hid (Zap t [] [] []=(1,[])):=rfl
  simp only[List.length_nil,List.replicate_zero]at HO1' HO2⊢
  go_wp2_with fail
  go_loopw [115,6,7] (fun s115 s6 s7 wr=>s115= .int .i64 0∧s6= .int .i64 1∧s7= .slice (some ⟨w.heap.size+1,0,none⟩) 0 0∧Kept [] w2 wr) (fun _ _ _ _=>0)
  case atStart=>exact⟨rfl,rfl,rfl,Kept.refl _ _⟩
  case round=>
   obtain⟨rfl,rfl,rfl,hkr⟩:=hrel
   haveI p_wr:Zb wr w2:=⟨hkr⟩
   have HKR:=hh hkr
   clear hkr
   go_wp2_with fail
   refine bodyPost_ret (v:= .tuple #[.int .i64 1,.slice (some ⟨w.heap.size+1,0,none⟩) 0 0]) (Qm results48 (Zh rfl) (Zh rfl)) rfl ?_
   rw[HW.out]
   exact⟨some ⟨w.heap.size+1,0,none⟩,0,[],rfl,rfl,fun _ _=> .inl rfl,fun z hz=>by simp at hz,kp⟩
 ·have HW:Hid (Zap t params [] []=(0,[])):=by rw[Hid,HV.out,if_neg hz]
  obtain⟨q,r,rfl⟩:∃q r,params=q::r:=by
   cases params with
   | nil=>exact absurd rfl hz
   | cons q r=>exact⟨q,r,rfl⟩
  obtain⟨b,o,rfl,hr⟩:=HP.out.some_ (j:=0) (x:=q) rfl
  haveI iq:Ye w b o q:=⟨by have:=hr 0 q rfl;simpa using this⟩
  have hqd:=HD.out q (by simp)
  obtain⟨qb,qf⟩:=Ym (g:=w1.heap.size) (k:=0) (u:= .bool false) HO2.out rfl (by simp)
  clear hr HV hz HP HD
  have hn0:(0:Int) < ((q::r).length:Int):=by simp
  have hn1:0 < (q::r).length:=by simp
  generalize (q::r).length=N at*
  go_wp2_with fail
  go_loopw [115,6,7] (fun s115 _ _ wr=>s115= .int .i64 0∧Kept [] w2 wr) (fun _ _ _ _=>0)
  case atStart=>exact⟨rfl,Kept.refl _ _⟩
  case round=>
   obtain⟨rfl,hkr⟩:=hrel
   haveI p_wr:Zb wr w2:=⟨hkr⟩
   have qb2:∀ob,(wr.alloc ob).cell? ⟨w1.heap.size,0,none⟩=some (.bool false):=fun ob=>(Kept.alloc [] wr ob).cell (hkr.cell qb (by simp)) (by simp)
   clear hkr
   go_wp2_with fail
   refine bodyPost_ret (v:= .tuple #[.int .i64 0,.slice none 0 0]) (Qm results48 (Zh rfl) (Zh rfl)) rfl ?_
   rw[HW.out]
   exact Zas.no X kp
end
end Go.Proofs.YtfaecpkocgcofaaGreatDoor
