/- Lemmas for ResolveSettles, printed small: L10. -/
import Derived.Test.YtfaecpkocgcofaaGreatDoorZ42
set_option linter.all false
set_option maxRecDepth 100000
set_option maxHeartbeats 8000000
open Go.Proofs.Tryz
namespace Go.Proofs.YtfaecpkocgcofaaGreatDoor
section
open Go.RowKit
inductive ZcN (X:List Nat) (w:World):Nat→List ExV→Prop
 | nil:ZcN X w 0 []
 | snoc (k s:Nat) (zs:List ExV) (z e:ExV):ZcN X w k zs→Uni s z.er e→ExK X w s z→ZcN X w (k+s) (zs++ [z])
theorem ZcN.later {X Y:List Nat} {w w':World} {k:Nat} {zs:List ExV} (h:ZcN X w k zs) (hk:Kept [] w w') (hY:∀q,q∈Y→q∈X∨w.heap.size≤q):ZcN Y w' k zs:=by
 induction h with
 | nil=>exact .nil
 | snoc k s zs z e _ h2 h3 ih=>exact .snoc k s zs z e ih h2 (h3.later hk hY)
theorem ZcN.less {X Y:List Nat} {w w':World} {k:Nat} {zs:List ExV} (h:ZcN X w k zs) (hk:Kept Y w w') (hY:∀q,q∈Y→q∈X):ZcN X w' k zs:=by
 induction h with
 | nil=>exact .nil
 | snoc k s zs z e _ h2 h3 ih=>exact .snoc k s zs z e ih h2 (h3.less hk hY)
theorem ZcN.pop {X:List Nat} {w:World} {k:Nat} {l:List ExV} {z:ExV} (h:ZcN X w k (l++ [z])):∃j s e,k=j+s∧ZcN X w j l∧Uni s z.er e∧ExK X w s z:=by
 generalize hl:l++ [z]=m at h
 cases h with
 | nil=>simp at hl
 | snoc j s zs y e h1 h2 h3=>
  obtain⟨rfl,h4⟩:=List.append_inj' hl rfl
  obtain rfl:z=y:=by simpa using h4
  exact⟨j,s,e,rfl,h1,h2,h3⟩
theorem ZcN.len {X:List Nat} {w:World} {k:Nat} {zs:List ExV} (h:ZcN X w k zs):zs.length≤k:=by
 induction h with
 | nil=>exact Nat.le_refl _
 | snoc k s zs z e _ h2 _ ih=>have:=h2.pos;rw[List.length_append];show zs.length+1≤k+s;omega
def Zjq (w:World) (A:Option Addr) (xs:List Int):Prop:=(xs= []∨∃b o,A=some ⟨b,o,none⟩∧∀(j:Nat) (x:Int),xs[j]? =some x→w.cell? ⟨b,o+j,none⟩=some (.int .i32 x))∧∀x,x∈xs→ -2147483648≤x∧x≤2147483647
def Zut (X:List Nat) (n:Nat) (w:World) (e:Ending) (w':World):Prop:=∃(z u:ExV) (s:Nat),e= .returned (.agg z.cells.toArray)∧Uni s z.er u∧s≤max 1 n∧ExK X w' s z∧Kept [] w w'
theorem Jy.take {w:World} {base:Nat} {A:Option Addr} {n m c:Nat} {zs:List ExV} (h:Jy w base (.slice A n c) zs) (hn:zs.length=n) (hm:m≤n):Jy w base (.slice A m c) (zs.take m):=by
 rcases h.2 with⟨h1,h2⟩ | ⟨g,cap,cur,h1,hb,hg,hnc,hcm,hcs,htk⟩
 ·have h3:zs= []:=List.eq_nil_of_length_eq_zero (by omega)
  subst h3
  injection h1 with e1 e2 e3
  subst e1 e3
  obtain rfl:m=0:=by simp at hn;omega
  exact Jy.nil _ _
 ·injection h1 with e1 e2 e3
  subst e1 e3
  have hl:(zs.take m).length=m:=by rw[List.length_take];omega
  refine⟨by rw[Zhe],.inr ⟨g,c,cur,by rw[hl],hb,hg,by rw[hl];omega,hcm,hcs,?_⟩⟩
  rw[hl,←Zd6,←htk,List.take_take,Nat.min_eq_left (by omega)]
def Zet (v0 v1 v2 v3 v4 v5:Value):Sem Next:=do return .value (←Instr.buildSlice 100 6 #[(0,v0),(1,v1),(2,v2),(3,v3),(4,v4),(5,v5)])
@[go_sem ↓] theorem Zlp (ρ:Operand→Value) (dst:Option Tmp) (x0 x1 x2 x3 x4 x5:Operand) (ty:TypeId) (pos:String) (after:Array Edge) (guard:Option (Nat×Bool)):
 execOp ρ {dst,op:= .buildSlice 100 6 #[(0,x0),(1,x1),(2,x2),(3,x3),(4,x4),(5,x5)],type:=ty,pos,after,guard}=Zet (ρ x0) (ρ x1) (ρ x2) (ρ x3) (ρ x4) (ρ x5):=by simp[execOp,Zet]
@[go_sem] theorem Zo1 (w:World) (a b c d e f:Int):Sem.run prog (Zet (.int .u8 a) (.int .u8 b) (.int .u8 c) (.int .u8 d) (.int .u8 e) (.int .u8 f)) w= .ok (.value (.slice (some ⟨w.heap.size,0,none⟩) 6 6)) (w.alloc (.cells #[.int .u8 a,.int .u8 b,.int .u8 c,.int .u8 d,.int .u8 e,.int .u8 f] 37)):=by kernel_rfl
def cvU (v:Value):Sem Next:=do return .value (←convert 21 101 v)
@[go_sem ↓] theorem Zru (ρ:Operand→Value) (dst:Option Tmp) (x:Operand) (ty:TypeId) (pos:String) (after:Array Edge) (guard:Option (Nat×Bool)):
 execOp ρ {dst,op:= .convert 21 101 x,type:=ty,pos,after,guard}=cvU (ρ x):=by simp[execOp,cvU]
@[go_sem] theorem ZtE (w:World) (x:Int):Sem.run prog (cvU (.int .i32 x)) w= .ok (.value (.int .u32 (x % 4294967296))) w:=by kernel_rfl
def cvI (v:Value):Sem Next:=do return .value (←convert 101 3 v)
@[go_sem ↓] theorem Zrw (ρ:Operand→Value) (dst:Option Tmp) (x:Operand) (ty:TypeId) (pos:String) (after:Array Edge) (guard:Option (Nat×Bool)):
 execOp ρ {dst,op:= .convert 101 3 x,type:=ty,pos,after,guard}=cvI (ρ x):=by simp[execOp,cvI]
theorem ZpW (w:World) (x:Int) (h:0≤x∧x < 4294967296):Sem.run prog (cvI (.int .u32 x)) w= .ok (.value (.int .i64 x)) w:=by
 have e:Sem.run prog (cvI (.int .u32 x)) w= .ok (.value (.int .i64 (IntKind.wrap .i64 x))) w:=by kernel_rfl
 rw[e]
 have:IntKind.wrap .i64 x=x:=by
  show(let m:=x % (18446744073709551616:Int);if(true && decide (m≥(9223372036854775808:Int)))=true then m - 18446744073709551616 else m)=x
  have h1:x % (18446744073709551616:Int)=x:=by omega
  simp only[h1]
  rw[if_neg (by simp;omega)]
 rw[this]
@[go_sem] theorem ZrP (w:World) (x:Int):Sem.run prog (binOp .rem 101 (.int .u32 x) (.int .u32 6)) w= .ok (.int .u32 (x.tmod 6)) w:=by kernel_rfl
theorem ZtT (x:Int):0≤x % 4294967296 % 6∧x % 4294967296 % 6 < 6:=by omega
@[go_sem] theorem Zs5 (w:World) (x:Int):Sem.run prog (cvI (.int .u32 (x % 4294967296 % 6))) w= .ok (.value (.int .i64 (x % 4294967296 % 6))) w:=ZpW w _ (by have:=ZtT x;omega)
theorem ZpA (x:Int):0≤bits .and .i32 x 2147483647∧bits .and .i32 x 2147483647≤2147483647:=by
 have h1:(BitVec.ofInt 32 x &&& BitVec.ofInt 32 2147483647).toNat≤2147483647:=by
  rw[BitVec.toNat_and]
  exact Nat.le_trans Nat.and_le_right (by decide)
 have e:bits .and .i32 x 2147483647=IntKind.wrap .i32 ((BitVec.ofInt 32 x &&& BitVec.ofInt 32 2147483647).toNat:Int):=rfl
 generalize (BitVec.ofInt 32 x &&& BitVec.ofInt 32 2147483647).toNat=n at*
 have e2:IntKind.wrap .i32 (n:Int)=n:=by
  show(let m:=(n:Int) % (4294967296:Int);if(true && decide (m≥(2147483648:Int)))=true then m - 4294967296 else m)=n
  have h2:(n:Int) % (4294967296:Int)=n:=by omega
  simp only[h2]
  rw[if_neg (by simp;omega)]
 rw[e,e2]
 omega
def cvL (v:Value):Sem Next:=do return .value (←convert 21 2 v)
@[go_sem ↓] theorem Zrv (ρ:Operand→Value) (dst:Option Tmp) (x:Operand) (ty:TypeId) (pos:String) (after:Array Edge) (guard:Option (Nat×Bool)):
 execOp ρ {dst,op:= .convert 21 2 x,type:=ty,pos,after,guard}=cvL (ρ x):=by simp[execOp,cvL]
@[go_sem] theorem ZtF (w:World) (x:Int):Sem.run prog (cvL (.int .i32 (bits .and .i32 x 2147483647))) w= .ok (.value (.int .i64 (bits .and .i32 x 2147483647))) w:=by
 have h:=ZpA x
 generalize bits .and .i32 x 2147483647=n at*
 have e:Sem.run prog (cvL (.int .i32 n)) w= .ok (.value (.int .i64 (IntKind.wrap .i64 n))) w:=by kernel_rfl
 rw[e]
 have:IntKind.wrap .i64 n=n:=by
  show(let m:=n % (18446744073709551616:Int);if(true && decide (m≥(9223372036854775808:Int)))=true then m - 18446744073709551616 else m)=n
  have h1:n % (18446744073709551616:Int)=n:=by omega
  simp only[h1]
  rw[if_neg (by simp;omega)]
 rw[this]
theorem ExK.grow {X:List Nat} {w w':World} {v v':Value} {n:Nat} {x:ExV} (h:ExK (Qd v X) w n x) (hg:w.grownBy w' v.ownBlock) (ha:v'.ownBlock=v.ownBlock∨v'.ownBlock=some w.heap.size):ExK (Qd v' X) w' n x:=fun w'' hk=>h _ ⟨hk.os.trans hg.os,hk.tape.trans hg.tape,hk.output.trans hg.output,Nat.le_trans hg.size hk.size,fun i hi hx=>by
 have hx1:i∉X:=fun hm=>hx (Zl.2 (.inr hm))
 have hx2:v.ownBlock≠some i:=fun hm=>hx (Zl.2 (.inl hm))
 rw[hk.block i (Nat.lt_of_lt_of_le hi hg.size) (fun hm=>by
  rcases Zl.1 hm with h1 | h1
  ·rcases ha with h2 | h2
   ·exact hx2 (h2▸h1)
   ·rw[h2]at h1;injection h1 with h1;omega
  ·exact hx1 h1)]
 exact hg.block i hi (fun e=>hx2 e.symm)⟩
theorem ZcN.grow {X:List Nat} {w w':World} {v v':Value} {k:Nat} {zs:List ExV} (h:ZcN (Qd v X) w k zs) (hg:w.grownBy w' v.ownBlock) (ha:v'.ownBlock=v.ownBlock∨v'.ownBlock=some w.heap.size):ZcN (Qd v' X) w' k zs:=by
 induction h with
 | nil=>exact .nil
 | snoc k s zs z e _ h2 h3 ih=>exact .snoc k s zs z e ih h2 (h3.grow hg ha)
def SZ.b1 (cs:Array Value) (ty:TypeId):SZ:=⟨fun _ v w=>∃B,v= .slice (some ⟨B,0,none⟩) 1 1∧w.heap[B]? =some (.cells cs ty (0,0)),fun _ _ _ _ _ ⟨B,h1,h2⟩ hk _ _=>⟨B,h1,hk.obj h2 (by simp)⟩⟩
theorem w64 (n:Int) (h:0≤n∧n≤1000):wrap64 n=n:=by unfold wrap64;omega
theorem Kept.grownY {X:List Nat} {a b c:World} {row:Option Nat} (h:Kept X a b) (hg:b.grownBy c row) (hr:∀k,row=some k→a.heap.size≤k):Kept X a c:=
 ⟨hg.os.trans h.os,hg.tape.trans h.tape,hg.output.trans h.output,Nat.le_trans h.size hg.size,fun k hk hx=>(hg.block k (Nat.lt_of_lt_of_le hk h.size) (fun e=>by have:=hr k e.symm;omega)).trans (h.block k hk hx)⟩
theorem ZmO {α:Type} {l:List α} (h:1 < l.length):∃p a b,l=p++ [a]++ [b]:=by
 obtain⟨l1,e1,rfl⟩:∃l1 e1,l=l1++ [e1]:=⟨l.dropLast,l.getLast (by rintro rfl;simp at h),(List.dropLast_concat_getLast _).symm⟩
 obtain⟨l2,e2,rfl⟩:∃l2 e2,l1=l2++ [e2]:=⟨l1.dropLast,l1.getLast (by rintro rfl;simp at h),(List.dropLast_concat_getLast _).symm⟩
 exact⟨l2,e2,e1,rfl⟩
theorem ZhT {w:World} {base:Nat} {A:Option Addr} {n c:Nat} {zs:List ExV} (h:Jy w base (.slice A n c) zs) (hn:0 < zs.length):∃g,A=some ⟨g,0,none⟩∧base≤g∧g < w.heap.size∧Zo ExV 9 ExV.cells w (some ⟨g,0,none⟩) zs:=by
 obtain⟨A',c',e,_,_,_,hr⟩:=h.rows
 rcases h.2 with⟨h1,h2⟩ | ⟨g,cap,cur,h1,_⟩
 ·omega
 ·injection h1 with e1 _ _
  injection e with e2 _ _
  subst e1
  subst e2
  have:=h.lt g rfl
  exact⟨g,rfl,this.1,this.2,hr⟩
theorem Zkm {w:World} {g:Nat} {zs:List ExV} {i:Nat} {z:ExV} (h:Zo ExV 9 ExV.cells w (some ⟨g,0,none⟩) zs) (hz:zs[i]? =some z):Q1 w g (i*9) z:=by
 rcases h with h0 | ⟨b,o,h1,hc⟩
 ·rw[h0]at hz;simp at hz
 ·cases h1
  have h2:=hc i z hz
  rw[Nat.zero_add]at h2
  exact⟨h2⟩
theorem ZpM {w:World} {B:Nat} {z:ExV} (h:w.heap[B]? =some (.cells z.cells.toArray 41 (0,0))):YG w 9 (some ⟨B,0,none⟩) 1 z.cells:=⟨rfl,fun _=>⟨_,rfl,fun j u hu=>by
 rw[Addr.add_mid,Nat.zero_add,cell_of_row _ _ _ _ _ _ h]
 simpa using hu⟩⟩
theorem ZdD (X:List Nat) (w:World) (A:Option Addr) (c:Nat) (xs:List Int) (hI:Zjq w A xs) (hl:xs.length≤1000) (hX:∀q,q∈X→q < w.heap.size):
 Calls prog 9 #[.slice A xs.length c] w (Zut X xs.length w):=by
 have HI:=hh hI
 have HX:=hh hX
 clear hI hX
 go_enter func9,ntmps9
 go_upto_region 4 with fail
 refine Zm ?_
 intro w0 hw0
 haveI p_w0:Zb w0 w:=⟨by rw[hw0];exact kp⟩
 have HB0:Hid (w0.heap[w.heap.size]? =some (.cells Zg.cells.toArray 41 (0,0))):=by rw[Hid,hw0];exact Zc.has
 have HB1:Hid (w0.heap[w.heap.size+1]? =some (.cells #[.int .u8 1,.int .u8 2,.int .u8 3,.int .u8 4,.int .u8 5,.int .u8 6] 37 (0,0))):=by rw[Hid,hw0];exact Zc.has
 have hz0:w0.heap.size=w.heap.size+2:=by rw[hw0];simp
 clear hw0
 obtain⟨iE,hiE,hzE0,hzE1,hzE2⟩:=info_parts Zhj
 obtain⟨XB,hXB1,hXB2⟩:∃XB:List Nat,(∀q,q∈XB→q < w0.heap.size)∧(∀q,q∈w.heap.size::X→q∈XB):=⟨w.heap.size::X,fun q hq=>by rcases List.mem_cons.1 hq with rfl | h;omega;have:=HX.out q h;omega,fun q hq=>hq⟩
 have HXB:=hh hXB1
 clear hXB1
 go_loopw [3,12] (fun s3 s12 wr=>∃(k:Nat) (zs:List ExV),s12= .int .i64 k∧k≤xs.length∧Jy wr w0.heap.size s3 zs∧ZcN (Qd s3 XB) wr k zs∧Kept [] w0 wr) (fun _ s12 _=>xs.length - (intOf s12).toNat)
 case atStart=>exact⟨0,[],rfl,Nat.zero_le _,Jy.nil _ _,.nil,Kept.refl _ _⟩
 case round=>
  obtain⟨k,zs,rfl,hk,ho,hst,hkr⟩:=hrel
  have HO:=hh ho
  have HST:=hh hst
  have HKR:=hh hkr
  haveI p_wr:Zb wr w0:=⟨hkr⟩
  have hzr:=hkr.size
  obtain⟨A3,c3,rfl,hzc,_,_,_⟩:=ho.rows
  clear ho hst hkr
  by_cases hlt:k < xs.length
  ·obtain⟨x,hx⟩:∃x,xs[k]? =some x:=⟨_,List.getElem?_eq_getElem hlt⟩
   obtain⟨b,o,rfl,hc⟩:∃b o,A=some ⟨b,o,none⟩∧w.cell? ⟨b,o+k,none⟩=some (.int .i32 x):=by
    rcases HI.out.1 with h0 | ⟨b,o,h1,h2⟩
    ·rw[h0]at hlt;simp at hlt
    ·exact⟨b,o,h1,h2 k x hx⟩
   have cP:wr.cell? ⟨b,o+k,none⟩=some (.int .i32 x):=(p_w0.kept.trans p_wr.kept).cell hc (by simp)
   have hlt':(k:Int) < (xs.length:Int):=by omega
   clear hx hc
   by_cases hd:x < 0∧1 < zs.length
   ·obtain⟨hneg,h1⟩:=hd
    obtain⟨pre,a,b',rfl⟩:=ZmO h1
    have hlen:(pre++ [a]++ [b']).length=pre.length+2:=by simp
    have HPL:Hid ((pre++ [a]++ [b']).length=pre.length+2):=hlen
    obtain⟨j1,sb,eb,hk1,hs1,Ub,Kb⟩:=HST.out.pop
    obtain⟨j0,sa,ea,hk0,hs0,Ua,Ka⟩:=hs1.pop
    obtain⟨g,rfl,hg1,hg2,hrow⟩:=ZhT HO.out (by omega)
    haveI ia:Q1 wr g (pre.length*9) a:=Zkm hrow (by simp)
    haveI ib:Q1 wr g ((pre.length+1)*9) b':=Zkm hrow (by rw[List.getElem?_append_right (by simp),List.length_append];simp)
    obtain⟨jj,hj6,hj⟩:∃jj:Nat,jj < 6∧x % 4294967296 % 6=(jj:Int):=⟨(x % 4294967296 % 6).toNat,by have:=ZtT x;omega,by have:=ZtT x;omega⟩
    have HJ:=hh hj
    have HS0:=hh hs0
    have HKA:=hh Ka
    have HKB:=hh Kb
    have HUA:=hh Ua
    have HUB:=hh Ub
    have HKK:Hid (k=j0+sa+sb):=by rw[Hid];omega
    obtain⟨L,hL⟩:∃L,L=(pre++ [a]++ [b']).length:=⟨_,rfl⟩
    obtain⟨m,hm⟩:∃m,m=pre.length:=⟨_,rfl⟩
    obtain⟨p,hp⟩:∃p,p=m+1:=⟨_,rfl⟩
    have HL:Hid (L=(pre++ [a]++ [b']).length∧m=pre.length∧p=m+1):=⟨hL,hm,hp⟩
    have e2:(L:Int) - 2=(m:Int):=by omega
    have e1:(L:Int) - 1=(p:Int):=by omega
    have hL1:(1:Int) < (L:Int):=by omega
    have hmL:(m:Int) < (L:Int):=by omega
    have hpL:(p:Int) < (L:Int):=by omega
    have hmN:m≤L:=by omega
    have hmc:m≤c3:=by omega
    have hjI:(jj:Int) < 6:=by omega
    have hlk:=HST.out.len
    have hpb:p≤1000:=by omega
    have HW1:Hid (wrap64 (m:Int)=(m:Int)):=w64 _ (by omega)
    have HW2:Hid (wrap64 (p:Int)=(p:Int)):=w64 _ (by omega)
    clear hlk hpb
    rw[←hL]at HO HST⊢
    rw[←hm]at ia
    rw[←hm,←hp]at ib
    have HV2:=HO
    clear hlen hL hm hp hj hs0 hs1 Ka Kb Ua Ub hrow hk1 hk0 h1
    have cJ:w0.cell? ⟨w.heap.size+1,jj,none⟩=some (.int .u8 ((jj:Int)+1)):=by
     rw[cell_of_row _ _ _ _ _ _ HB1.out]
     obtain rfl | rfl | rfl | rfl | rfl | rfl:jj=0∨jj=1∨jj=2∨jj=3∨jj=4∨jj=5:=by omega
     all_goals rfl
    have HCJ:=hh cJ
    clear cJ
    go_wp2_with fail
    refine Zn [⟨25,[],false,.eq (.slice (some ⟨w.heap.size+1,0,none⟩) 6 6)⟩,⟨26,[],false,.eq (.int .i32 x)⟩,⟨27,[26],false,.eq (.int .u32 (x % 4294967296))⟩,⟨28,[27],false,.eq (.int .u32 (x % 4294967296 % 6))⟩,⟨29,[28],false,.eq (.int .i64 (jj:Int))⟩,⟨30,[25,29],false,.eq (.pointer (some ⟨w.heap.size+1,jj,none⟩))⟩,⟨31,[30],false,.eq (.int .u8 ((jj:Int)+1))⟩,⟨32,[],false,.eq (.slice (some ⟨g,0,none⟩) L c3)⟩,⟨33,[],false,.eq (.int .i64 (L:Int))⟩,⟨34,[33],false,.eq (.int .i64 (m:Int))⟩,⟨35,[32,34],false,.eq (.pointer (some ⟨g,m*9,none⟩))⟩,⟨36,[35],false,.eq (.agg a.cells.toArray)⟩,⟨37,[],false,.eq (.slice (some ⟨g,0,none⟩) L c3)⟩,⟨38,[],false,.eq (.int .i64 (L:Int))⟩,⟨39,[38],false,.eq (.int .i64 (p:Int))⟩,⟨40,[37,39],false,.eq (.pointer (some ⟨g,p*9,none⟩))⟩,⟨41,[40],false,.eq (.agg b'.cells.toArray)⟩,⟨42,[31,36,41],false,.kx (g::XB) (sa+sb+1) (QD ((jj:Int)+1) a.er b'.er)⟩,⟨8,[],true,.new Zg.cells.toArray 41⟩] (by kernel_rfl) (by kernel_rfl) ?_
    apply Exists.intro
    refine⟨fun vs=>?_,?_⟩
    ·simp only[List.map_cons,List.map_nil,PSz.toP,Jj,Act.put,List.setIfInBounds_toArray,List.set_cons_zero,List.set_cons_succ]
     exact rfl
    refine⟨⟨?_,?_,?_,?_,?_,?_,?_,?_,?_,?_,?_,?_,?_,?_,?_,?_,?_,?_,?_,trivial⟩,?_⟩<;>intro vs Z w4 hk hZ hg
    all_goals
     haveI p_w4:Zb w4 _:=⟨hk⟩
     have hz_w4:=hk.size
     have HZ:=hh hZ
     clear hk hZ
     (try simp only[ZG,Zi,Z8,SZ.eq_p,SZ.ex_p,SZ.wx_p,SZ.new_p,SZ.kx_p,Nat.reduceEqDiff,reduceIte,and_true]at hg)
    ·clear hg
     go_wp2_with fail
     exact⟨kp,rfl,Z,.inl ⟨rfl,rfl⟩,rfl⟩
    ·clear hg
     go_wp2_with fail
     exact⟨kp,rfl,Z,.inl ⟨rfl,rfl⟩,rfl⟩
    ·obtain e26:=hg
     (try simp only[e26])
     go_wp2_with fail
     exact⟨kp,rfl,Z,.inl ⟨rfl,rfl⟩,rfl⟩
    ·obtain e27:=hg
     (try simp only[e27])
     go_wp2_with fail
     exact⟨kp,rfl,Z,.inl ⟨rfl,rfl⟩,rfl⟩
    ·obtain e28:=hg
     (try simp only[e28])
     go_wp2_with fail
     exact⟨kp,rfl,Z,.inl ⟨rfl,rfl⟩,by show Value.int .i64 (x % 4294967296 % 6)=Value.int .i64 (jj:Int);rw[HJ.out]⟩
    ·obtain⟨e25,e29⟩:=hg
     (try simp only[e25,e29])
     go_wp2_with fail
     exact⟨kp,rfl,Z,.inl ⟨rfl,rfl⟩,rfl⟩
    ·obtain e30:=hg
     (try simp only[e30])
     have cJ4:w4.cell? ⟨w.heap.size+1,jj,none⟩=some (.int .u8 ((jj:Int)+1)):=(p_wr.kept.trans kp).cell HCJ.out (by simp)
     go_wp2_with fail
     exact⟨kp,rfl,Z,.inl ⟨rfl,rfl⟩,rfl⟩
    ·clear hg
     go_wp2_with fail
     exact⟨kp,rfl,Z,.inl ⟨rfl,rfl⟩,rfl⟩
    ·clear hg
     go_wp2_with fail
     exact⟨kp,rfl,Z,.inl ⟨rfl,rfl⟩,rfl⟩
    ·obtain e33:=hg
     (try simp only[e33])
     go_wp2_with fail
     exact⟨kp,rfl,Z,.inl ⟨rfl,rfl⟩,rfl⟩
    ·obtain⟨e32,e34⟩:=hg
     (try simp only[e32,e34])
     go_wp2_with fail
     exact⟨kp,rfl,Z,.inl ⟨rfl,rfl⟩,rfl⟩
    ·obtain e35:=hg
     (try simp only[e35])
     go_wp2_with fail
     exact⟨kp,rfl,Z,.inl ⟨rfl,rfl⟩,rfl⟩
    ·clear hg
     go_wp2_with fail
     exact⟨kp,rfl,Z,.inl ⟨rfl,rfl⟩,rfl⟩
    ·clear hg
     go_wp2_with fail
     exact⟨kp,rfl,Z,.inl ⟨rfl,rfl⟩,rfl⟩
    ·obtain e38:=hg
     (try simp only[e38])
     go_wp2_with fail
     exact⟨kp,rfl,Z,.inl ⟨rfl,rfl⟩,by show Value.int .i64 (wrap64 (p:Int))=Value.int .i64 (p:Int);rw[HW2.out]⟩
    ·obtain⟨e37,e39⟩:=hg
     (try simp only[e37,e39])
     go_wp2_with fail
     exact⟨kp,rfl,Z,.inl ⟨rfl,rfl⟩,rfl⟩
    ·obtain e40:=hg
     (try simp only[e40])
     go_wp2_with fail
     exact⟨kp,rfl,Z,.inl ⟨rfl,rfl⟩,rfl⟩
    ·obtain⟨e31,e36,e41⟩:=hg
     (try simp only[e31,e36,e41])
     have hk4:Kept [] wr w4:=kp
     have hZ2:∀q,q∈(g::XB)++Z→q < w4.heap.size:=fun q hq=>by
      have hks:=hk4.size
      rcases List.mem_append.1 hq with h1 | h1
      ·rcases List.mem_cons.1 h1 with rfl | h2
       ·omega
       ·have:=HXB.out q h2;omega
      ·exact(HZ.out q h1).2
     have hup:∀q,q∈(g::XB)++Z→q∈g::XB∨wr.heap.size≤q:=fun q hq=>(List.mem_append.1 hq).imp (fun h=>h) (fun h=>(HZ.out q h).1)
     go_wp2_with fail
     refine(ZdG ((g::XB)++Z) w4 ((jj:Int)+1) (sa+sb) a b' ((HKA.out.later hk4 hup).mono (by omega)) ((HKB.out.later hk4 hup).mono (by omega)) hZ2).mono ?_
     rintro e w8 ⟨z,rfl,hz1,hz2,hk8⟩
     go_wp2_with fail
     exact⟨hk8,rfl,Z,.inl ⟨rfl,rfl⟩,z,rfl,hz1,hz2⟩
    ·clear hg
     go_wp2_with fail
     exact⟨kp,rfl,_::Z,.inr ⟨rfl,_,rfl,rfl,Nat.le_refl _,by simp⟩,_,rfl,List.mem_cons_self,Zf rfl⟩
    obtain⟨e25,e26,e27,e28,e29,e30,e31,e32,e33,e34,e35,e36,e37,e38,e39,e40,e41,⟨z42,e42,f42,i42⟩,⟨B8,e8,b8,h8⟩⟩:=hg
    simp only[e25,e26,e27,e28,e29,e30,e31,e32,e33,e34,e35,e36,e37,e38,e39,e40,e41,e42,e8]
    clear e25 e26 e27 e28 e29 e30 e31 e32 e33 e34 e35 e36 e37 e38 e39 e40 e41 e42 e8
    haveI bB8:Zc w4 B8 41 Zg.cells.toArray:=⟨h8⟩
    have hB8:=HZ.out B8 b8
    have HK4:Hid (Kept [] wr w4):=kp
    have HF42:=hh f42
    have HI42:=hh i42
    clear f42 i42 ia ib h8
    go_wp2_with fail
    refine Zm ?_
    intro w5 hw5
    have hk45:Kept [B8] w4 w5:=by rw[hw5];exact Kept.setRow _ _ _ (by simp)
    have hK5:Kept [] wr w5:=HK4.out.above hk45 (by simp;omega)
    haveI p_w5:Zb w5 wr:=⟨hK5⟩
    haveI b85:Zc w5 B8 41 z42.cells.toArray:=by rw[hw5];infer_instance
    have HI5:Hid (ExK (g::XB) w5 (sa+sb+1) z42):=(HI42.out.less hk45 (fun q hq=>by obtain rfl:=List.mem_singleton.1 hq;exact List.mem_append.2 (.inr b8))).sub (fun q hq=>List.mem_append.2 (.inl hq))
    have HO5:=hh (HO.out.keep hK5 (fun _ _=>by simp))
    have HS5:Hid (ZcN (g::XB) w5 j0 pre):=HS0.out.later hK5 (fun q hq=> .inl hq)
    clear hw5 hk45 hK5 HK4 HI42 bB8 p_w4 HZ hB8 b8
    refine Q2 [(0,43,(.slice (some ⟨g,0,none⟩) L c3)),(1,44,(.int .i64 (L:Int)))] [(2,⟨45,[],false,.eq (.int .i64 (m:Int))⟩),(3,⟨46,[45],false,.eq (.slice (some ⟨g,0,none⟩) m c3)⟩),(4,⟨47,[],false,.eq (.agg z42.cells.toArray)⟩),(5,⟨48,[47],false,.b1 z42.cells.toArray 41⟩)] [6,7] (by kernel_rfl) (by kernel_rfl) ⟨rfl,by kernel_rfl⟩ (by kernel_rfl) (fun _ _ _ _ _ h=>h) (by repeat(first | exact trivial | refine And.intro rfl ?_)) ?_
    apply Exists.intro
    refine⟨fun vs=>?_,?_⟩
    ·simp only[List.map_cons,List.map_nil,Q5,Jj,Act.put,List.setIfInBounds_toArray,List.set_cons_zero,List.set_cons_succ]
     exact rfl
    refine⟨⟨?_,?_,?_,?_,trivial⟩,?_⟩<;>intro vs Z w6 hk hZ hg
    all_goals
     simp only[ZW,List.flatMap_cons,List.flatMap_nil,List.getElem?_cons_zero,List.getElem?_cons_succ,Option.toList_some,List.cons_append,List.nil_append]
     haveI p_w6:Zb w6 _:=⟨hk⟩
     have hz_w6:=hk.size
     have HZ:=hh hZ
     clear hk hZ
     (try simp only[List.map_cons,List.map_nil,ZG,Zi,Z8,SZ.eq_p,SZ.ex_p,SZ.wx_p,SZ.new_p,Nat.reduceEqDiff,reduceIte,and_true]at hg)
    ·clear hg
     go_wp2_with fail
     exact⟨kp,rfl,Z,.inl ⟨rfl,rfl⟩,rfl⟩
    ·obtain e45:=hg
     (try simp only[e45])
     go_wp2_with fail
     exact⟨kp,rfl,Z,.inl ⟨rfl,rfl⟩,rfl⟩
    ·clear hg
     go_wp2_with fail
     exact⟨kp,rfl,Z,.inl ⟨rfl,rfl⟩,rfl⟩
    ·obtain e47:=hg
     (try simp only[e47])
     go_wp2_with fail
     exact⟨kp,rfl,Z,.inl ⟨rfl,rfl⟩,_,rfl,Zf rfl⟩
    obtain⟨e45,e46,e47,⟨B48,e48,h48⟩⟩:=hg
    simp only[e45,e46,e47,e48]
    clear e45 e46 e47 e48
    have hK6:Kept [] w5 w6:=kp
    have HOT:Hid (Jy w6 w0.heap.size (.slice (some ⟨g,0,none⟩) m c3) pre):=by
     have h1:=(HO5.out.keep hK6 (fun _ _=>by simp)).take (m:=m) (by rw[HL.out.1]) (by omega)
     rw[HL.out.2.1,List.append_assoc,List.take_left]at h1
     rw[HL.out.2.1]
     exact h1
    have HSRC:=hh (ZpM h48)
    have HML:Hid (pre.length=m):=HL.out.2.1.symm
    have hml:m≤k:=by have h1:=HS0.out.len;have h2:=HKK.out;have h3:=HML.out;omega
    have hA:m+1≤maxLen:=by unfold maxLen;omega
    have hBy:(m+1)*104≤140737488355328:=by omega
    have hC:Hid (w0.heap.size≤w6.heap.size):=Nat.le_trans hzr (Nat.le_trans p_w5.kept.size hK6.size)
    have H1C:Hid (∀u∈z42.cells,u.oneCell'=true):=Qg z42
    have HS6:Hid (ZcN (Qd (.slice (some ⟨g,0,none⟩) m c3) XB) w6 j0 pre):=HS5.out.later hK6 (fun q hq=> .inl hq)
    have HI6:Hid (ExK (Qd (.slice (some ⟨g,0,none⟩) m c3) XB) w6 (sa+sb+1) z42):=HI5.out.later hK6 (fun q hq=> .inl hq)
    go_wp2_with (at_builtin;refine Zt _ rfl (.tmp 46) (.tmp 48) 38 rfl w0.heap.size 41 iE (.agg Zg.cells.toArray) 9 104 underlying38 hiE hzE0 hzE1 hzE2 rfl (by decide) (.slice (some ⟨g,0,none⟩) m c3) m (flX pre) rfl (by have:=HOT.out;unfold Jy at this;rw[HML.out]at this;exact this) (some ⟨B48,0,none⟩) 1 1 z42.cells rfl HSRC.out H1C.out hA hBy hC.out ?_;intro v7 w7 ho7 hg7 ha7;obtain⟨A7,c7,rfl⟩:=Zq ho7;have HO7:=hh ho7;have HG7:=hh hg7;have HA7:=hh ha7;clear ho7 hg7 ha7)
    refine⟨⟨k+1,pre++ [z42],by go_num,by omega,?_,?_,?_⟩,by simp[intOf];omega⟩
    ·have h1:=HO7.out
     unfold Jy
     rw[List.length_append,HML.out,Zbe]
     simpa [flX]using h1
    ·rw[show k+1=j0+(sa+sb+1) by have:=HKK.out;omega]
     exact .snoc j0 (sa+sb+1) pre z42 (YI ((jj:Int)+1) 0 ea eb) (HS6.out.grow HG7.out HA7.out) (by rw[HF42.out];exact .two _ _ _ _ _ _ _ (by omega) (by omega) HUA.out HUB.out) (HI6.out.grow HG7.out HA7.out)
    ·exact((HKR.out.trans p_w5.kept).trans hK6).grownY HG7.out (fun q hq=>by cases hq;exact hg1)
   ·have hlz:=HST.out.len
    have hb31:=ZpA x
    by_cases hneg:x < 0
    ·have hl1:¬(1:Int) < (zs.length:Int):=by omega
     go_wp2_with fail
     refine(YV (Qd (.slice A3 zs.length c3) XB) _ (bits .and .i32 x 2147483647) (by omega)).mono ?_
     rintro e w5 ⟨z,rfl,hz1,hz2,hk5⟩
     haveI p_w5:Zb w5 wr:=⟨hk5⟩
     have HZ1:=hh hz1
     have HZ2:=hh hz2
     have HO5:=hh (HO.out.keep hk5 (fun _ _=>by simp))
     have HS5:Hid (ZcN (Qd (.slice A3 zs.length c3) XB) (w5.alloc (.cells z.cells.toArray 41)) k zs):=(HST.out.later hk5 (fun q hq=> .inl hq)).later (Kept.alloc _ _ _) (fun q hq=> .inl hq)
     have HZ3:Hid (ExK (Qd (.slice A3 zs.length c3) XB) (w5.alloc (.cells z.cells.toArray 41)) 1 z):=HZ2.out.kept (Kept.alloc _ _ _)
     have hA:zs.length+1≤maxLen:=by unfold maxLen;omega
     have hBy:(zs.length+1)*104≤140737488355328:=by omega
     have hC:Hid (w0.heap.size≤(w5.alloc (.cells z.cells.toArray 41)).heap.size):=by rw[Hid];have:=hk5.size;simp;omega
     have H1C:Hid (∀u∈z.cells,u.oneCell'=true):=Qg z
     have HB31:=hh hb31
     clear hz1 hz2 hb31
     go_wp2_with (at_builtin;refine Zt _ rfl (.tmp 50) (.tmp 55) 38 rfl w0.heap.size 41 iE (.agg Zg.cells.toArray) 9 104 underlying38 hiE hzE0 hzE1 hzE2 rfl (by decide) (.slice A3 zs.length c3) zs.length (flX zs) rfl (HO5.out.alloc _) (some ⟨w5.heap.size,0,none⟩) 1 1 z.cells rfl (ZpM (Zf rfl)) H1C.out hA hBy hC.out ?_;intro v7 w7 ho7 hg7 ha7;obtain⟨A7,c7,rfl⟩:=Zq ho7;have HO7:=hh ho7;have HG7:=hh hg7;have HA7:=hh ha7;clear ho7 hg7 ha7)
     refine⟨⟨k+1,zs++ [z],by go_num,by omega,?_,?_,?_⟩,by simp[intOf];omega⟩
     ·have h1:=HO7.out
      unfold Jy
      rw[List.length_append,Zbe]
      simpa [flX]using h1
     ·exact .snoc k 1 zs z (Znw (bits .and .i32 x 2147483647)) (HS5.out.grow HG7.out HA7.out) (by rw[HZ1.out];exact .num _ HB31.out.1 HB31.out.2) (HZ3.out.grow HG7.out HA7.out)
     ·exact((HKR.out.trans hk5).trans (Kept.alloc _ _ _)).grownY HG7.out (fun q hq=>(HO.out.lt q hq).1)
    ·have hng:(decide (x < 0))=false:=decide_eq_false hneg
     go_wp2_with fail
     refine(YV (Qd (.slice A3 zs.length c3) XB) _ (bits .and .i32 x 2147483647) (by omega)).mono ?_
     rintro e w5 ⟨z,rfl,hz1,hz2,hk5⟩
     haveI p_w5:Zb w5 wr:=⟨hk5⟩
     have HZ1:=hh hz1
     have HZ2:=hh hz2
     have HO5:=hh (HO.out.keep hk5 (fun _ _=>by simp))
     have HS5:Hid (ZcN (Qd (.slice A3 zs.length c3) XB) (w5.alloc (.cells z.cells.toArray 41)) k zs):=(HST.out.later hk5 (fun q hq=> .inl hq)).later (Kept.alloc _ _ _) (fun q hq=> .inl hq)
     have HZ3:Hid (ExK (Qd (.slice A3 zs.length c3) XB) (w5.alloc (.cells z.cells.toArray 41)) 1 z):=HZ2.out.kept (Kept.alloc _ _ _)
     have hA:zs.length+1≤maxLen:=by unfold maxLen;omega
     have hBy:(zs.length+1)*104≤140737488355328:=by omega
     have hC:Hid (w0.heap.size≤(w5.alloc (.cells z.cells.toArray 41)).heap.size):=by rw[Hid];have:=hk5.size;simp;omega
     have H1C:Hid (∀u∈z.cells,u.oneCell'=true):=Qg z
     have HB31:=hh hb31
     clear hz1 hz2 hb31
     go_wp2_with (at_builtin;refine Zt _ rfl (.tmp 50) (.tmp 55) 38 rfl w0.heap.size 41 iE (.agg Zg.cells.toArray) 9 104 underlying38 hiE hzE0 hzE1 hzE2 rfl (by decide) (.slice A3 zs.length c3) zs.length (flX zs) rfl (HO5.out.alloc _) (some ⟨w5.heap.size,0,none⟩) 1 1 z.cells rfl (ZpM (Zf rfl)) H1C.out hA hBy hC.out ?_;intro v7 w7 ho7 hg7 ha7;obtain⟨A7,c7,rfl⟩:=Zq ho7;have HO7:=hh ho7;have HG7:=hh hg7;have HA7:=hh ha7;clear ho7 hg7 ha7)
     refine⟨⟨k+1,zs++ [z],by go_num,by omega,?_,?_,?_⟩,by simp[intOf];omega⟩
     ·have h1:=HO7.out
      unfold Jy
      rw[List.length_append,Zbe]
      simpa [flX]using h1
     ·exact .snoc k 1 zs z (Znw (bits .and .i32 x 2147483647)) (HS5.out.grow HG7.out HA7.out) (by rw[HZ1.out];exact .num _ HB31.out.1 HB31.out.2) (HZ3.out.grow HG7.out HA7.out)
     ·exact((HKR.out.trans hk5).trans (Kept.alloc _ _ _)).grownY HG7.out (fun q hq=>(HO.out.lt q hq).1)
  ·obtain rfl:k=xs.length:=by omega
   by_cases hz:zs.length=0
   ·have hz':((zs.length:Int) == 0)=true:=by simp[hz]
    clear hz
    go_wp2_with fail
    refine(YV (w.heap.size::X) _ 0 (by decide)).mono ?_
    rintro e w5 ⟨z,rfl,hz1,hz2,hk5⟩
    haveI p_w5:Zb w5 wr:=⟨hk5⟩
    haveI b2:Zc w0 w.heap.size 41 Zg.cells.toArray:=⟨HB0.out⟩
    have HZ1:=hh hz1
    have HZ2:=hh hz2
    clear hz1 hz2 hk5
    go_wp2_with fail
    exact bodyPost_ret (v:= .agg z.cells.toArray) (Zj results9 (Z0 rfl inferInstance)) rfl ⟨z,Znw 0,1,rfl,by rw[HZ1.out];exact .num 0 (by decide) (by decide),by omega,(HZ2.out.less (Y:=[w.heap.size]) (Kept.setRow _ _ _ (by simp)) (by simp)).sub (fun q hq=>by simp[hq]),kp⟩
   ·have hz':((zs.length:Int) == 0)=false:=beq_eq_false_iff_ne.2 (by omega)
    obtain⟨l,z,rfl⟩:∃l z,zs=l++ [z]:=⟨zs.dropLast,zs.getLast (by rintro rfl;simp at hz),(List.dropLast_concat_getLast _).symm⟩
    obtain⟨j1,s1,e1,hk1,_,U1,K1⟩:=HST.out.pop
    obtain⟨g,rfl,hg1,hg2,hrow⟩:=ZhT HO.out (by omega)
    haveI ia:Q1 wr g (l.length*9) z:=Zkm hrow (by simp)
    have hlen:(l++ [z]).length=l.length+1:=by simp
    obtain⟨L,hL⟩:∃L,L=(l++ [z]).length:=⟨_,rfl⟩
    obtain⟨m,hm⟩:∃m,m=l.length:=⟨_,rfl⟩
    have e2:(L:Int) - 1=(m:Int):=by omega
    have hmL:(m:Int) < (L:Int):=by omega
    have hmc:m≤c3:=by omega
    rw[←hL]at HO HST hz'⊢
    rw[←hm]at ia
    have HU1:=hh U1
    have HK1:=hh K1
    have HSL:Hid (s1≤max 1 xs.length):=by rw[Hid];omega
    haveI b2:Zc w0 w.heap.size 41 Zg.cells.toArray:=⟨HB0.out⟩
    clear hlen hL hm U1 K1 hrow hz hk1
    go_wp2_with fail
    exact bodyPost_ret (v:= .agg z.cells.toArray) (Zj results9 (Z0 rfl inferInstance)) rfl ⟨z,e1,s1,rfl,HU1.out,HSL.out,(HK1.out.less (Y:=[w.heap.size]) (Kept.setRow _ _ _ (by simp)) (fun q hq=>by obtain rfl:=List.mem_singleton.1 hq;exact Zl.2 (.inr (hXB2 _ (by simp))))).sub (fun q hq=>Zl.2 (.inr (hXB2 q (by simp[hq])))),kp⟩
end
end Go.Proofs.YtfaecpkocgcofaaGreatDoor
