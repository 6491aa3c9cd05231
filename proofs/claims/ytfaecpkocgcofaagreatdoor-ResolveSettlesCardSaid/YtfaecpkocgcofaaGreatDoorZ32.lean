/- Lemmas for ResolveSettles, printed small: N17 M1 M2 M3. -/
import Derived.Test.YtfaecpkocgcofaaGreatDoorZ31
import Derived.Laws.RangeString
import Derived.Laws.RangeAny
set_option linter.all false
set_option maxRecDepth 100000
set_option maxHeartbeats 8000000
open Go.Proofs.Tryz
namespace Go.Proofs.YtfaecpkocgcofaaGreatDoor
section
open Go.RowKit
def Zko (v:Zp) (t:Tab) (h:WhV) (m:Value):Array Value:=#[.slice v.ta t.types.length v.tc,.slice v.sa t.subs.length v.sc,.slice v.ea t.ents.length v.ec,.slice v.ga v.gn v.gc,.slice v.ia v.im v.ic,.int .i64 h.region,.int .i64 h.after,.slice h.ua h.units.length h.uc,.slice h.sa h.uses.length h.sc,m]
def Zhs (a b:Value):Sem Next:=do return .value (←Instr.build 131 #[(0,a),(1,b)])
@[go_sem ↓] theorem Zmy (ρ:Operand→Value) (dst:Option Tmp) (x y:Operand) (ty:TypeId) (pos:String) (after:Array Edge) (guard:Option (Nat×Bool)):
 execOp ρ {dst,op:= .build 131 #[(0,x),(1,y)],type:=ty,pos,after,guard}=Zhs (ρ x) (ρ y):=by simp[execOp,Zhs]
@[go_sem] theorem ZpX (w:World) (v:Zp) (t:Tab) (h:WhV):Sem.run prog (Zhs (.agg #[.slice v.ta t.types.length v.tc,.slice v.sa t.subs.length v.sc,.slice v.ea t.ents.length v.ec,.slice v.ga v.gn v.gc,.slice v.ia v.im v.ic]) (.agg #[.int .i64 h.region,.int .i64 h.after,.slice h.ua h.units.length h.uc,.slice h.sa h.uses.length h.sc])) w= .ok (.value (.agg (Zko v t h (.map none)))) w:=by kernel_rfl
def Zq0 (v:Value):Sem Next:=do return .value (←Instr.box 131 v)
@[go_sem ↓] theorem Zpl (ρ:Operand→Value) (dst:Option Tmp) (x:Operand) (ty:TypeId) (pos:String) (after:Array Edge) (guard:Option (Nat×Bool)):
 execOp ρ {dst,op:= .box 131 x,type:=ty,pos,after,guard}=Zq0 (ρ x):=by simp[execOp,Zq0]
@[go_sem] theorem ZrV (w:World) (v:Zp) (t:Tab) (h:WhV):Sem.run prog (Zq0 (.agg (Zko v t h (.map none)))) w= .ok (.value (.pointer (some ⟨w.heap.size,0,none⟩))) (w.alloc (.cells (Zko v t h (.map none)) 131)):=by kernel_rfl
def ZqB (m k x:Value):Sem Next:=do Instr.mapUpdate 129 m k x;pure .skip
@[go_sem ↓] theorem Zpj (ρ:Operand→Value) (dst:Option Tmp) (m k x:Operand) (ty:TypeId) (pos:String) (after:Array Edge) (guard:Option (Nat×Bool)):
 execOp ρ {dst,op:= .insert 129 m k x,type:=ty,pos,after,guard}=ZqB (ρ m) (ρ k) (ρ x):=rfl
@[go_sem] theorem ZrT (w:World) (r:Nat) (es:Array MapEntry) (c:Nat) (k:Int) (v:Value) [h:Y6 w r es c] (hf:ZaI k es=true):
 Sem.run prog (ZqB (.map (some r)) (.int .u8 k) v) w= .ok .skip (QY w r (.map (es.push {key:= .int .u8 k,val:=v,born:=c}) (c+1))):=by
 simp only[ZqB,Sem.run_bind,Jl w underlying129 underlying36 r es c h.has (.int .u8 k) v rfl (YX k _ 0 hf),Result.andThen_ok,Sem.run_pure]
@[go_sem] theorem Zta (v:Zp) (t:Tab) (h:WhV) (m u:Value):(Zko v t h m).setIfInBounds 9 u=Zko v t h u:=rfl
def Zuw (v:Zp) (t:Tab) (h:WhV) (w:World) (e:Ending) (w':World):Prop:=∃R mr,e= .returned (.pointer (some ⟨R,0,none⟩))∧Qo w' R mr v t h∧w.heap.size≤R∧Kept [] w w'
theorem ZsK (w:World) (v:Zp) (t:Tab) (h:WhV) (hT:Zw w v t) (hW:ZmB w h):
 Calls prog 29 #[.agg (v.cells t),.agg h.cells.toArray] w (Zuw v t h w):=by
 have HT:=hh hT
 have HW:=hh hW
 clear hT hW
 unfold Zp.cells WhV.cells
 go_enter func29,ntmps29
 go_wp2_with fail
 refine bodyPost_ret (Zj results29 (Zh rfl)) rfl ?_
 refine⟨w.heap.size+1+1,w.heap.size+1+1+1,rfl,⟨?_,?_,HT.out.kept kp,HW.out.kept kp⟩,by omega,kp⟩
 ·exact Zc.has
 ·exact(heap_setCell_other _ _ _ _ (by simp)).trans (Zb7 (by simp))
def ZmC (v:Value) (w:World) (e:Ending) (w':World):Prop:=e= .returned v∧w'=w
theorem ZS {P:Program} {fn:Func} {a:Act} {w:World} {v:Value} (hd:a.defers= []) (hr:(results fn a.tmps).run P w= .ok v w):bodyPost P fn (ZmC v w) .ret a w:=bodyPost_ret hr hd ⟨rfl,rfl⟩
def Yv (c:Int):Bool:=decide (97≤bits .or .u8 c 32) && decide (bits .or .u8 c 32≤122)
def Zbp (c:Int):Bool:=decide (48≤c) && decide (c≤57)
theorem Zdk (w:World) (c:Int):Calls prog 248 #[.int .u8 c] w (ZmC (.bool (Yv c)) w):=by
 by_cases h:97≤bits .or .u8 c 32
 ·have HW:Hid (Yv c=decide (bits .or .u8 c 32≤122)):=by rw[Hid,Yv,decide_eq_true h,Bool.true_and]
  go_enter func248,ntmps248
  go_wp2_with fail
  rw[HW.out]
  exact ZS rfl (Zj results248 (Zh rfl))
 ·have HW:Hid (Yv c=false):=by rw[Hid,Yv,decide_eq_false h,Bool.false_and]
  have h2:bits .or .u8 c 32 < 97:=by omega
  go_enter func248,ntmps248
  go_wp2_with fail
  rw[HW.out]
  exact ZS rfl (Zj results248 (Zh rfl))
theorem ZlJ (w:World) (c:Int):Calls prog 276 #[.int .u8 c] w (ZmC (.bool (Zbp c)) w):=by
 by_cases h:48≤c
 ·have HW:Hid (Zbp c=decide (c≤57)):=by rw[Hid,Zbp,decide_eq_true h,Bool.true_and]
  go_enter func276,ntmps276
  go_wp2_with fail
  rw[HW.out]
  exact ZS rfl (Zj results276 (Zh rfl))
 ·have HW:Hid (Zbp c=false):=by rw[Hid,Zbp,decide_eq_false h,Bool.false_and]
  have h2:c < 48:=by omega
  go_enter func276,ntmps276
  go_wp2_with fail
  rw[HW.out]
  exact ZS rfl (Zj results276 (Zh rfl))
def ZeT (b:Nat):Bool:=decide (b≤126) && (Yv b || (Zbp b || decide ((b:Int)=95)))
def Zbg (s:ByteArray):Bool:=s.data.toList.all fun b=>ZeT b.toNat
theorem ZpD {s:ByteArray} {pos:Nat} (hp:pos < s.size) (h:ZeT (s[pos]'hp).toNat=false):s.extract 0 pos=s↔Zbg s=true:=by
 constructor
 ·intro e
  have:=congrArg ByteArray.size e
  simp at this
  omega
 ·intro e
  have h1:=List.all_eq_true.1 e (s[pos]'hp) (by
   have:(s[pos]'hp)∈s.data:=Array.getElem_mem (xs:=s.data) hp
   simpa using this)
  rw[h]at h1
  cases h1
theorem ZmG {s:ByteArray} {pos:Nat} (hp:pos < s.size) (h:ZeT (s[pos]'hp).toNat=true) (hall:(s.data.toList.take pos).all (fun b=>ZeT b.toNat)=true):(s.data.toList.take (pos+1)).all (fun b=>ZeT b.toNat)=true:=by
 have hp2:pos < s.data.toList.length:=by simpa using hp
 rw[List.take_succ_eq_append_getElem hp2,List.all_append,hall,Bool.true_and]
 simp only[List.all_cons,List.all_nil,Bool.and_true]
 have e:s.data.toList[pos]=s[pos]'hp:=by simp;rfl
 rw[e]
 exact h
theorem ZmH (w:World) (s:ByteArray):Calls prog 249 #[.string s] w fun e w'=>∃r,e= .returned (.string r)∧(r=s↔Zbg s=true)∧Kept [] w w':=by
 have HL:=hh (fun w' c=>Zdk w' c)
 have HD:=hh (fun w' c=>ZlJ w' c)
 go_enter func249,ntmps249
 go_wp2_with fail
 go_loopw [3] (fun _ wr=>∃pos,wr=w.iter s pos∧pos≤s.size∧(s.data.toList.take pos).all (fun b=>ZeT b.toNat)=true) (fun _ wr=>s.size - wr.iterPos w.heap.size)
 case atStart=>exact⟨0,rfl,Nat.zero_le _,rfl⟩
 case round=>
  obtain⟨pos,rfl,hle,hall⟩:=hrel
  have HA:=hh hall
  clear hall
  by_cases hp:pos < s.size
  ·have hnx:∀ty,(Instr.next (.pointer (some ⟨w.heap.size,0,none⟩)) true ty).run prog (w.iter s pos)=_:=fun ty=>run_next_any w s pos ty hp
   have HNO:=hh (fun h=>ZpD (s:=s) (pos:=pos) hp h)
   by_cases ha:(s[pos]'hp).toNat < 128
   ·rw[decode_ascii s pos hp ha]at hnx
    have HYE:=hh (fun h=>ZmG (s:=s) (pos:=pos) hp h HA.out)
    have HW:Hid (ZeT (s[pos]'hp).toNat=(decide ((s[pos]'hp).toNat≤126) && (Yv (s[pos]'hp).toNat || (Zbp (s[pos]'hp).toNat || decide (((s[pos]'hp).toNat:Int)=95))))):=rfl
    generalize hb:(s[pos]'hp).toNat=b at*
    clear hb
    by_cases h126:126 < b
    ·replace HNO:Hid (_↔_):=HNO.out (by rw[HW.out,decide_eq_false (by omega)];rfl)
     clear HYE HW
     go_wp2_with fail
     refine bodyPost_ret (Zj results249 (Zh rfl)) rfl ⟨_,rfl,HNO.out,?_⟩
     exact Kept.alloc _ _ _
    ·have h126':b≤126:=by omega
     cases hl:Yv b
     ·cases hd:Zbp b
      ·by_cases h95:b=95
       ·replace HYE:Hid (_=true):=HYE.out (by rw[HW.out,hl,hd,decide_eq_true h126',h95];rfl)
        have h95':((b:Int) != 95)=false:=by simp;omega
        clear HNO HW h95
        go_wp2_with fail
        refine(HL.out _ _).mono ?_
        rintro e w1 ⟨rfl,hw1⟩
        obtain rfl:=hw1
        rw[hl]
        go_wp2_with fail
        refine(HD.out _ _).mono ?_
        rintro e w1 ⟨rfl,hw1⟩
        obtain rfl:=hw1
        rw[hd]
        go_wp2_with fail
        go_roundw
        case rel=>exact⟨pos+1,rfl,by omega,HYE.out⟩
        case measure=>simp;omega
       ·replace HNO:Hid (_↔_):=HNO.out (by rw[HW.out,hl,hd,decide_eq_false (show ¬(b:Int)=95 by omega)];simp)
        have h95':((b:Int) != 95)=true:=by simp;omega
        clear HYE HW
        go_wp2_with fail
        refine(HL.out _ _).mono ?_
        rintro e w1 ⟨rfl,hw1⟩
        obtain rfl:=hw1
        rw[hl]
        go_wp2_with fail
        refine(HD.out _ _).mono ?_
        rintro e w1 ⟨rfl,hw1⟩
        obtain rfl:=hw1
        rw[hd]
        go_wp2_with fail
        refine bodyPost_ret (Zj results249 (Zh rfl)) rfl ⟨_,rfl,HNO.out,?_⟩
        exact Kept.alloc _ _ _
      ·replace HYE:Hid (_=true):=HYE.out (by rw[HW.out,hl,hd,decide_eq_true h126'];rfl)
       clear HNO HW
       go_wp2_with fail
       refine(HL.out _ _).mono ?_
       rintro e w1 ⟨rfl,hw1⟩
       obtain rfl:=hw1
       rw[hl]
       go_wp2_with fail
       refine(HD.out _ _).mono ?_
       rintro e w1 ⟨rfl,hw1⟩
       obtain rfl:=hw1
       rw[hd]
       go_wp2_with fail
       go_roundw
       case rel=>exact⟨pos+1,rfl,by omega,HYE.out⟩
       case measure=>simp;omega
     ·replace HYE:Hid (_=true):=HYE.out (by rw[HW.out,hl,decide_eq_true h126'];rfl)
      clear HNO HW
      go_wp2_with fail
      refine(HL.out _ _).mono ?_
      rintro e w1 ⟨rfl,hw1⟩
      obtain rfl:=hw1
      rw[hl]
      go_wp2_with fail
      go_roundw
      case rel=>exact⟨pos+1,rfl,by omega,HYE.out⟩
      case measure=>simp;omega
   ·have hd:=decode_high s pos hp (by omega)
    have h1:126 < (Utf8.decode s pos).1:=by omega
    replace HNO:Hid (_↔_):=HNO.out (by unfold ZeT;rw[decide_eq_false (by omega)];rfl)
    generalize Utf8.decode s pos=dd at*
    go_wp2_with fail
    refine bodyPost_ret (Zj results249 (Zh rfl)) rfl ⟨_,rfl,HNO.out,?_⟩
    exact Kept.alloc _ _ _
  ·have hnx:∀ty,(Instr.next (.pointer (some ⟨w.heap.size,0,none⟩)) true ty).run prog (w.iter s pos)=_:=fun ty=>run_next_end w s pos ty hp
   have HW:Hid (Zbg s=true):=by
    have h1:=HA.out
    rw[List.take_of_length_le (by simp;omega)]at h1
    exact h1
   go_wp2_with fail
   refine bodyPost_ret (Zj results249 (Zh rfl)) rfl ⟨_,rfl,⟨fun _=>HW.out,fun _=>rfl⟩,?_⟩
   exact Kept.alloc _ _ _
def Zf8 (w:World):Prop:=Lib.TabIs prog w "strings.asciiSpace" .u8 Lib.asciiSpaceTab
theorem Zf8.kept {w w':World} (h:Zf8 w) (hk:Kept [] w w'):Zf8 w':=by
 unfold Zf8 Lib.TabIs World.var? at*
 cases hg:prog.globalNamed "strings.asciiSpace" with
 | none=>rw[hg]at h;cases h
 | some g=>
  rw[hg]at h
  simp only[Option.bind_some]at h⊢
  have hlt:g < w.heap.size:=by
   rcases Nat.lt_or_ge g w.heap.size with h1 | h1
   ·exact h1
   ·rw[Array.getElem?_eq_none h1]at h;cases h
  rw[hk.block g hlt (by simp)]
  exact h
def ZkV (a b:ByteArray):Bool:=Op.bytesLess a.toList b.toList
def Zio (l:List ByteArray) (m:ByteArray):Nat→Nat→Nat→Nat
 | 0,i,_=>i
 | k+1,i,j=>if i < j then(if ZkV (l.getD ((i+j) / 2) default) m then Zio l m k ((i+j) / 2+1) j else Zio l m k i ((i+j) / 2))else i
def Zow (l:List ByteArray) (m:ByteArray):Nat:=Zio l m l.length 0 l.length
def Zrz (l:List ByteArray) (m:ByteArray):Bool:=decide (Zow l m < l.length) && ((l.getD (Zow l m) default).toList == m.toList)
theorem ZqX {l:List ByteArray} {m:ByteArray} {k i j:Nat} (h:i < j) (hk:j - i≤k) (hc:ZkV (l.getD ((i+j) / 2) default) m=true):Zio l m k i j=Zio l m (k - 1) ((i+j) / 2+1) j:=by
 cases k with
 | zero=>omega
 | succ k=>rw[Zio,if_pos h,if_pos hc];rfl
theorem ZqY {l:List ByteArray} {m:ByteArray} {k i j:Nat} (h:i < j) (hk:j - i≤k) (hc:ZkV (l.getD ((i+j) / 2) default) m=false):Zio l m k i j=Zio l m (k - 1) i ((i+j) / 2):=by
 cases k with
 | zero=>omega
 | succ k=>rw[Zio,if_pos h,hc];rfl
theorem Zov {l:List ByteArray} {m:ByteArray} {k i:Nat}:Zio l m k i i=i:=by
 cases k with
 | zero=>rfl
 | succ k=>rw[Zio,if_neg (by omega)]
theorem Zny (w:World) (a:ByteArray):Calls prog 302 #[.string a] w (ZmC (.bool false) w):=by
 go_enter func302,ntmps302
 go_wp2_with fail
 exact ZS rfl (Zj results302 (Zh rfl))
theorem ZfD (w:World) (a b:ByteArray):Calls prog 290 #[.string a,.string b] w (ZmC (.bool (ZkV a b)) w):=by
 go_enter func290,ntmps290
 go_wp2_with fail
 refine(Zny _ _).mono ?_
 rintro e w1 ⟨rfl,hw1⟩
 obtain rfl:=hw1
 go_wp2_with fail
 exact ZS rfl (Zj results290 (Zh rfl))
theorem Zkg (w:World) (a:ByteArray):Calls prog 291 #[.string a] w (ZmC (.bool false) w):=by
 go_enter func291,ntmps291
 go_wp2_with fail
 exact ZS rfl (Zj results291 (Zh rfl))
def Zmi (w:World) (B:Nat) (l:List ByteArray):Prop:=∀(j:Nat) x,l[j]? =some x→w.cell? ⟨B,j,none⟩=some (.string x)
theorem ZgF (w:World) (B c:Nat) (l:List ByteArray) (m:ByteArray) (hm:l.length≤1000000000) (hI:Zmi w B l):
 Calls prog 277 #[.slice (some ⟨B,0,none⟩) l.length c,.string m] w (ZmC (.tuple #[.int .i64 (Zow l m:Nat),.bool (Zrz l m)]) w):=by
 have HI:=hh hI
 have HF:Hid (Zrz l m=(decide (Zow l m < l.length) && ((l.getD (Zow l m) default).toList == m.toList))):=rfl
 clear hI
 go_enter func277,ntmps277
 go_wp2_with fail
 go_loopw [7,8] (fun s7 s8 wr=>∃i j k:Nat,s7= .int .i64 i∧s8= .int .i64 j∧i≤j∧j≤l.length∧j - i≤k∧Zio l m k i j=Zow l m∧wr=w) (fun s7 s8 _=>((intOf s8) - (intOf s7)).toNat)
 case atStart=>exact⟨0,l.length,l.length,rfl,rfl,Nat.zero_le _,Nat.le_refl _,by omega,rfl,rfl⟩
 case round=>
  obtain⟨i,j,k,rfl,rfl,hij,hjl,hk,hb,rfl⟩:=hrel
  have HB:=hh hb
  clear hb
  by_cases hlt:i < j
  ·obtain⟨x,hx⟩:∃x,l[(i+j) / 2]? =some x:=⟨_,List.getElem?_eq_getElem (by omega)⟩
   have hxd:l.getD ((i+j) / 2) default=x:=by simp[List.getD_eq_getElem?_getD,hx]
   have qx:=HI.out _ x hx
   have H1:=hh (fun hc=>ZqX (l:=l) (m:=m) hlt hk hc)
   have H2:=hh (fun hc=>ZqY (l:=l) (m:=m) hlt hk hc)
   rw[hxd]at H1 H2
   clear hx hxd
   cases hc:ZkV x m
   ·have HN:Hid (Zio l m (k - 1) i ((i+j) / 2)=Zow l m):=by rw[Hid,←H2.out hc];exact HB.out
    clear H1 H2 HB
    go_wp2_with fail
    refine(ZfD _ _ _).mono ?_
    rintro e w1 ⟨rfl,hw1⟩
    obtain rfl:=hw1
    rw[hc]
    go_wp2_with fail
    go_roundw
    case rel=>exact⟨i,(i+j) / 2,k - 1,rfl,by rw[show((i:Int)+(j:Int)) / 2=(((i+j) / 2:Nat):Int) by omega],by omega,by omega,by omega,HN.out,trivial⟩
    case measure=>simp[intOf];omega
   ·have HN:Hid (Zio l m (k - 1) ((i+j) / 2+1) j=Zow l m):=by rw[Hid,←H1.out hc];exact HB.out
    clear H1 H2 HB
    go_wp2_with fail
    refine(ZfD _ _ _).mono ?_
    rintro e w1 ⟨rfl,hw1⟩
    obtain rfl:=hw1
    rw[hc]
    go_wp2_with fail
    go_roundw
    case rel=>exact⟨(i+j) / 2+1,j,k - 1,by rw[show((i:Int)+(j:Int)) / 2+1=(((i+j) / 2+1:Nat):Int) by omega],rfl,by omega,hjl,by omega,HN.out,trivial⟩
    case measure=>simp[intOf];omega
  ·obtain rfl:i=j:=by omega
   have HE:Hid (Zow l m=i):=by rw[Hid,←HB.out];exact Zov
   clear HB
   by_cases hn:i < l.length
   ·obtain⟨x,hx⟩:∃x,l[i]? =some x:=⟨_,List.getElem?_eq_getElem hn⟩
    have hxd:l.getD i default=x:=by simp[List.getD_eq_getElem?_getD,hx]
    have qx:=HI.out _ x hx
    have HF2:Hid (Zrz l m=(x.toList == m.toList)):=by rw[Hid,HF.out,HE.out,hxd,decide_eq_true hn,Bool.true_and]
    clear hx hxd HF
    cases hq:(x.toList == m.toList)
    ·rw[hq]at HF2
     go_wp2_with fail
     refine(Zkg _ _).mono ?_
     rintro e w1 ⟨rfl,hw1⟩
     obtain rfl:=hw1
     go_wp2_with fail
     rw[HE.out,HF2.out]
     exact ZS rfl (Qm results277 (Zh rfl) (Zh rfl))
    ·rw[hq]at HF2
     go_wp2_with fail
     rw[HE.out,HF2.out]
     exact ZS rfl (Qm results277 (Zh rfl) (Zh rfl))
   ·have HF2:Hid (Zrz l m=false):=by rw[Hid,HF.out,HE.out,decide_eq_false hn,Bool.false_and]
    have hn2:decide ((i:Int) < (l.length:Int))=false:=by simp;omega
    clear HF
    go_wp2_with fail
    rw[HE.out,HF2.out]
    exact ZS rfl (Qm results277 (Zh rfl) (Zh rfl))
def Zck:ByteArray:=⟨#[97,98,111,114,116,32,97,98,115,32,97,99,99,101,112,116,32,97,99,99,101,115,115,32,97,108,105,97,115,101,100,32,97,108,108,32,97,110,100,32,97,114,114,97,121,32,98,101,103,105,110,32,98,111,100,121,32,99,97,115,101,32,99,111,110,115,116,97,110,116,32,100,101,99,108,97,114,101,32,100,101,108,97,121,32,100,111,32,101,108,115,101,32,101,108,115,105,102,32,101,110,100,32,101,110,116,114,121,32,101,120,99,101,112,116,105,111,110,32,101,120,105,116,32,102,111,114,32,102,117,110,99,116,105,111,110,32,103,101,110,101,114,105,99,32,105,102,32,105,110,32,105,115,32,108,105,109,105,116,101,100,32,108,111,111,112,32,109,111,100,32,110,101,119,32,110,111,116,32,110,117,108,108,32,111,102,32,111,114,32,111,116,104,101,114,115,32,111,117,116,32,112,97,99,107,97,103,101,32,112,114,97,103,109,97,32,112,114,105,118,97,116,101,32,112,114,111,99,101,100,117,114,101,32,112,114,111,116,101,99,116,101,100,32,114,97,105,115,101,32,114,97,110,103,101,32,114,101,99,111,114,100,32,114,101,109,32,114,101,110,97,109,101,115,32,114,101,113,117,101,117,101,32,114,101,116,117,114,110,32,114,101,118,101,114,115,101,32,115,101,108,101,99,116,32,115,101,112,97,114,97,116,101,32,115,117,98,116,121,112,101,32,116,97,115,107,32,116,101,114,109,105,110,97,116,101,32,116,104,101,110,32,116,121,112,101,32,117,110,116,105,108,32,117,115,101,32,119,104,101,110,32,119,104,105,108,101,32,119,105,116,104,32,120,111,114]⟩
def Zjw:List ByteArray:=(Lib.fields Zck.data.toList).map fun l=>⟨l.toArray⟩
theorem ZnG (w:World) (hT:Zf8 w):Calls prog 278 #[] w fun e w'=>∃B,e= .returned (.slice (some ⟨B,0,none⟩) Zjw.length Zjw.length)∧Zmi w' B Zjw∧Kept [] w w':=by
 have HF:=hh (Tryz.strings_Fields Zck w (by decide+kernel) (fun j b hj=>by
  have h:Zck.data.toList.all (fun b=>decide (b.toNat < 128))=true:=by decide+kernel
  simpa using List.all_eq_true.1 h b (List.mem_of_getElem? hj)) hT)
 have HK:Hid ((Lib.fields Zck.data.toList).length=Zjw.length):=by rw[Hid,Zjw,List.length_map]
 clear hT
 go_enter func278,ntmps278
 go_wp2_with fail
 refine HF.out.mono ?_
 rintro e w1 ⟨rfl,hw1⟩
 obtain rfl:=hw1
 rw[HK.out]
 go_wp2_with fail
 go_ret
 refine⟨_,rfl,fun j x hx=>?_,Kept.alloc _ _ _⟩
 rw[cell_of_row _ _ _ _ _ _ (Zf rfl)]
 rw[Zjw,List.getElem?_map]at hx
 simp only[List.getElem?_toArray,List.getElem?_map]
 cases hq:(Lib.fields Zck.data.toList)[j]? with
 | none=>rw[hq]at hx;cases hx
 | some y=>rw[hq]at hx;simp at hx⊢;exact hx
def Zpe (s:ByteArray):Bool:=Zrz Zjw s
theorem Zrj (w:World) (s:ByteArray) (hT:Zf8 w):Calls prog 250 #[.string s] w (ZE (.bool (Zpe s)) w):=by
 have HK:=hh (ZnG w hT)
 have HS:=hh (fun w' B (h:Zmi w' B Zjw)=>ZgF w' B Zjw.length Zjw s (by decide+kernel) h)
 have HV:Hid (Zpe s=Zrz Zjw s):=rfl
 clear hT
 generalize Zjw=L at*
 go_enter func250,ntmps250
 go_wp2_with fail
 refine HK.out.mono ?_
 rintro e w1 ⟨B,rfl,hs,hk1⟩
 have HSS:=hh (HS.out w1 B hs)
 have HK1:=hh hk1
 clear hs hk1 HS
 go_wp2_with fail
 refine HSS.out.mono ?_
 rintro e w2 ⟨rfl,hw2⟩
 obtain rfl:=hw2
 go_wp2_with fail
 rw[HV.out]
 exact Za rfl (Zj results250 (Zh rfl)) HK1.out
theorem Yy (s:ByteArray):s.toList=s.data.toList:=ByteArray.toList_eq s
def ZbJ (s:ByteArray):Bool:=decide (s.size≠0) && (decide (s.size≤32) && (Yv ((s.data.toList.getD 0 0).toNat:Int) && (Zbg s && !Zpe s)))
theorem Zg3 (w:World) (s:ByteArray) (hT:Zf8 w):Calls prog 177 #[.string s] w (ZE (.bool (ZbJ s)) w):=by
 have HK:=hh (fun w' (hk:Kept [] w w')=>Zrj w' s (hT.kept hk))
 have HV:Hid (ZbJ s=(decide (s.size≠0) && (decide (s.size≤32) && (Yv ((s.data.toList.getD 0 0).toNat:Int) && (Zbg s && !Zpe s))))):=rfl
 clear hT
 by_cases h0:s.size=0
 ·have e:s=⟨#[]⟩:=by
   have h1:s.data.size=0:=h0
   have h2:s.data= #[]:=Array.eq_empty_of_size_eq_zero h1
   cases s
   simp only at h2
   rw[h2]
  have HW:Hid (ZbJ s=false):=by rw[Hid,HV.out,decide_eq_false (by omega)];rfl
  rw[HW.out]
  subst e
  clear HV HK HW h0
  go_enter func177,ntmps177
  go_wp2_with fail
  exact Za rfl (Zj results177 (Zh rfl)) (Kept.refl _ _)
 have hl1:¬s.toList= []:=fun e=>by
  have h1:=congrArg List.length e
  rw[Yy]at h1
  exact h0 (by show s.data.size=0;rw[←Array.length_toList];exact h1)
 have hl2:s.toList.isEmpty=false:=by simpa using hl1
 have hpos:0 < s.size:=by omega
 by_cases h32:s.size≤32
 case neg=>
  have HW:Hid (ZbJ s=false):=by rw[Hid,HV.out,decide_eq_false h32];simp
  have h32':¬(s.size:Int)≤32:=by omega
  have h32'':32 < s.size:=by omega
  go_enter func177,ntmps177
  go_wp2_with fail
  rw[HW.out]
  exact Za rfl (Zj results177 (Zh rfl)) (Kept.refl _ _)
 have hh:(s.data.toList.getD 0 0)=s[0]'hpos:=by
  have h1:s.data.toList[0]? =some (s[0]'hpos):=by
   rw[Array.getElem?_toList]
   exact Array.getElem?_eq_getElem (xs:=s.data) hpos
  rw[List.getD_eq_getElem?_getD,h1];rfl
 replace HV:Hid (ZbJ s=(Yv ((s[0]'hpos).toNat:Int) && (Zbg s && !Zpe s))):=by rw[Hid,HV.out,decide_eq_true h0,decide_eq_true h32,hh];rfl
 clear hh
 have HL:=hh (Zdk w ((s[0]'hpos).toNat:Int))
 cases hl:Yv ((s[0]'hpos).toNat:Int)
 ·have HW:Hid (ZbJ s=false):=by rw[Hid,HV.out,hl];rfl
  rw[hl]at HL
  clear HV
  go_enter func177,ntmps177
  go_wp2_with fail
  refine HL.out.mono ?_
  rintro e w1 ⟨rfl,hw1⟩
  obtain rfl:=hw1
  go_wp2_with fail
  rw[HW.out]
  exact Za rfl (Zj results177 (Zh rfl)) (Kept.refl _ _)
 ·rw[hl]at HL
  replace HV:Hid (ZbJ s=(Zbg s && !Zpe s)):=by rw[Hid,HV.out,hl];rfl
  clear hl
  go_enter func177,ntmps177
  go_wp2_with fail
  refine HL.out.mono ?_
  rintro e w1 ⟨rfl,hw1⟩
  obtain rfl:=hw1
  go_wp2_with fail
  refine(ZmH _ _).mono ?_
  rintro e w2 ⟨r,rfl,hr,hk2⟩
  have HK2:=hh hk2
  haveI p_w2:Zb w2 _:=⟨hk2⟩
  clear hk2
  cases hw:Zbg s
  ·have HW:Hid (ZbJ s=false):=by rw[Hid,HV.out,hw];rfl
   have hrs:(r.toList == s.toList)=false:=by
    rw[hw]at hr
    rw[Yy,Yy]
    cases hq:(r.data.toList == s.data.toList)with
    | false=>rfl
    | true=>
     have h1:r.data.toList=s.data.toList:=by simpa using hq
     have h2:r=s:=by cases r;cases s;simp at h1;rw[h1]
     exact absurd (hr.1 h2) (by decide)
   clear hr HV
   go_wp2_with fail
   rw[HW.out]
   exact Za rfl (Zj results177 (Zh rfl)) HK2.out
  ·obtain rfl:r=s:=hr.2 hw
   have HW:Hid (ZbJ r= !Zpe r):=by rw[Hid,HV.out,hw];rfl
   clear hr HV
   have HKY:=hh (HK.out w2 HK2.out)
   clear HK
   generalize Zpe r=kp' at*
   go_wp2_with fail
   refine HKY.out.mono ?_
   rintro e w3 ⟨rfl,hk3⟩
   have HK3:Hid (Kept [] _ w3):=HK2.out.trans hk3
   clear hk3
   go_wp2_with fail
   rw[HW.out]
   exact Za rfl (Zj results177 (Zh rfl)) HK3.out
theorem Zd4 {α:Type} (p:α→Bool):∀l:List α,l.any p=decide (0≤Zal p l)
 | []=>rfl
 | x::l=>by
  have ih:=Zd4 p l
  rw[List.any_cons,Zal]
  cases h:p x
  ·rw[Bool.false_or,ih]
   simp only[Bool.false_eq_true,if_false]
   split
   ·rw[decide_eq_false (by omega)];rfl
   ·rw[decide_eq_true (by omega),decide_eq_true (by omega)]
  ·simp
theorem Zg9 (w:World) (a:Option Addr) (c:Nat) (xs:List ExV) (hm:xs.length≤140737488355328) (hI:Zo ExV 9 ExV.cells w a xs) (K:Nat) (fs caps:Array Value) (p:ExV→Bool) (eg:∀args w,(callFunc K args).run prog w= .ok (.enter K args) w)
 (hp:∀W x,Kept [] w W→x∈xs→Calls prog K (fs++ #[.agg (ExV.cells x).toArray]++caps) W (ZE (.bool (p x)) W)):
 Calls prog 127 #[.slice a xs.length c,.func (.func K) fs caps] w (ZE (.int .i64 (Zal p xs)) w):=by
 have HI:=hh hI
 have HP:=hh hp
 clear hI hp
 go_enter func127,ntmps127
 go_wp2_with fail
 go_loopw [8] (fun i wr=>∃k:Nat,k≤xs.length∧i= .int .i64 k∧(xs.take k).any p=false∧Kept [] w wr) (fun i _=>xs.length - (intOf i).toNat)
 case atStart=>exact⟨0,Nat.zero_le _,rfl,rfl,Kept.refl _ _⟩
 case round=>
  obtain⟨k,hk,rfl,hn,hkr⟩:=hrel
  have HN:=hh hn
  have HK:=hh hkr
  clear hn hkr
  obtain⟨wo,rfl⟩:∃wo:World,wo=wr:=⟨_,rfl⟩
  by_cases hlt:k < xs.length
  ·obtain⟨x,hx⟩:∃x,xs[k]? =some x:=⟨_,List.getElem?_eq_getElem hlt⟩
   have HX:=hh hx
   rcases HI.out with h0 | ⟨b,o,rfl,hcx⟩
   ·rw[h0]at hlt;simp at hlt
   ·haveI ie:Q1 wo b (o+k*9) x:=⟨fun j u hu=>HK.out.cell (hcx k x hx j u hu) (by simp)⟩
    clear hcx hx
    go_wp2_with fail
    refine(HP.out _ _ HK.out (List.mem_of_getElem? HX.out)).mono ?_
    rintro e w2 ⟨rfl,hk2⟩
    have HK2:=hh (HK.out.trans hk2)
    have HS:Hid ((xs.take (k+1)).any p=p x):=by
     obtain⟨hk',e⟩:=List.getElem?_eq_some_iff.1 HX.out
     rw[Hid,List.take_succ_eq_append_getElem hk',e,List.any_append,HN.out]
     simp
    have HA:Hid (p x=true→Zal p xs=k):=fun h=>Zcp HN.out HX.out h
    clear hk2 HK ie
    cases hpx:p x
    ·rw[hpx]at HS
     clear hpx HA
     go_wp2_with fail
     go_roundw
     case rel=>exact⟨k+1,by omega,by go_num,HS.out,HK2.out⟩
     case measure=>simp[intOf];omega
    ·have HA2:=hh (HA.out hpx)
     clear HS hpx HA
     go_wp2_with fail
     go_ret
     rw[HA2.out]
     exact⟨rfl,HK2.out⟩
  ·obtain rfl:k=xs.length:=by omega
   have HA2:Hid (Zal p xs= -1):=Zco (by have:=HN.out;rwa [List.take_length]at this)
   go_wp2_with fail
   go_ret
   rw[HA2.out]
   exact⟨rfl,HK.out⟩
theorem ZaK (w:World) (a:Option Addr) (c:Nat) (xs:List ExV) (hm:xs.length≤140737488355328) (hI:Zo ExV 9 ExV.cells w a xs) (K:Nat) (fs caps:Array Value) (p:ExV→Bool) (eg:∀args w,(callFunc K args).run prog w= .ok (.enter K args) w)
 (hp:∀W x,Kept [] w W→x∈xs→Calls prog K (fs++ #[.agg (ExV.cells x).toArray]++caps) W (ZE (.bool (p x)) W)):
 Calls prog 69 #[.slice a xs.length c,.func (.func K) fs caps] w (ZE (.bool (xs.any p)) w):=by
 have HC:=hh (Zg9 w a c xs hm hI K fs caps p eg hp)
 have HV:=hh (Zd4 p xs)
 clear hI hp eg
 generalize Zal p xs=n at*
 generalize xs.any p=q at*
 go_enter func69,ntmps69
 go_wp2_with fail
 refine HC.out.mono ?_
 rintro e w1 ⟨rfl,hk1⟩
 have HK1:=hh hk1
 clear hk1 HC
 go_wp2_with fail
 rw[show q=decide (0≤n)from HV.out]
 exact Za rfl (Zj results69 (Zh rfl)) HK1.out
theorem Zhb (w:World) (a:Option Addr) (c:Nat) (xs:List AsV) (hm:xs.length≤140737488355328) (hI:Zo AsV 10 AsV.cells w a xs) (K:Nat) (fs caps:Array Value) (p:AsV→Bool) (eg:∀args w,(callFunc K args).run prog w= .ok (.enter K args) w)
 (hp:∀W x,Kept [] w W→x∈xs→Calls prog K (fs++ #[.agg (AsV.cells x).toArray]++caps) W (ZE (.bool (p x)) W)):
 Calls prog 182 #[.slice a xs.length c,.func (.func K) fs caps] w (ZE (.int .i64 (Zal p xs)) w):=by
 have HI:=hh hI
 have HP:=hh hp
 clear hI hp
 go_enter func182,ntmps182
 go_wp2_with fail
 go_loopw [8] (fun i wr=>∃k:Nat,k≤xs.length∧i= .int .i64 k∧(xs.take k).any p=false∧Kept [] w wr) (fun i _=>xs.length - (intOf i).toNat)
 case atStart=>exact⟨0,Nat.zero_le _,rfl,rfl,Kept.refl _ _⟩
 case round=>
  obtain⟨k,hk,rfl,hn,hkr⟩:=hrel
  have HN:=hh hn
  have HK:=hh hkr
  clear hn hkr
  obtain⟨wo,rfl⟩:∃wo:World,wo=wr:=⟨_,rfl⟩
  by_cases hlt:k < xs.length
  ·obtain⟨x,hx⟩:∃x,xs[k]? =some x:=⟨_,List.getElem?_eq_getElem hlt⟩
   have HX:=hh hx
   rcases HI.out with h0 | ⟨b,o,rfl,hcx⟩
   ·rw[h0]at hlt;simp at hlt
   ·haveI ie:QH wo b (o+k*10) x:=⟨fun j u hu=>HK.out.cell (hcx k x hx j u hu) (by simp)⟩
    clear hcx hx
    go_wp2_with fail
    refine(HP.out _ _ HK.out (List.mem_of_getElem? HX.out)).mono ?_
    rintro e w2 ⟨rfl,hk2⟩
    have HK2:=hh (HK.out.trans hk2)
    have HS:Hid ((xs.take (k+1)).any p=p x):=by
     obtain⟨hk',e⟩:=List.getElem?_eq_some_iff.1 HX.out
     rw[Hid,List.take_succ_eq_append_getElem hk',e,List.any_append,HN.out]
     simp
    have HA:Hid (p x=true→Zal p xs=k):=fun h=>Zcp HN.out HX.out h
    clear hk2 HK ie
    cases hpx:p x
    ·rw[hpx]at HS
     clear hpx HA
     go_wp2_with fail
     go_roundw
     case rel=>exact⟨k+1,by omega,by go_num,HS.out,HK2.out⟩
     case measure=>simp[intOf];omega
    ·have HA2:=hh (HA.out hpx)
     clear HS hpx HA
     go_wp2_with fail
     go_ret
     rw[HA2.out]
     exact⟨rfl,HK2.out⟩
  ·obtain rfl:k=xs.length:=by omega
   have HA2:Hid (Zal p xs= -1):=Zco (by have:=HN.out;rwa [List.take_length]at this)
   go_wp2_with fail
   go_ret
   rw[HA2.out]
   exact⟨rfl,HK.out⟩
theorem ZfI (w:World) (a:Option Addr) (c:Nat) (xs:List AsV) (hm:xs.length≤140737488355328) (hI:Zo AsV 10 AsV.cells w a xs) (K:Nat) (fs caps:Array Value) (p:AsV→Bool) (eg:∀args w,(callFunc K args).run prog w= .ok (.enter K args) w)
 (hp:∀W x,Kept [] w W→x∈xs→Calls prog K (fs++ #[.agg (AsV.cells x).toArray]++caps) W (ZE (.bool (p x)) W)):
 Calls prog 132 #[.slice a xs.length c,.func (.func K) fs caps] w (ZE (.bool (xs.any p)) w):=by
 have HC:=hh (Zhb w a c xs hm hI K fs caps p eg hp)
 have HV:=hh (Zd4 p xs)
 clear hI hp eg
 generalize Zal p xs=n at*
 generalize xs.any p=q at*
 go_enter func132,ntmps132
 go_wp2_with fail
 refine HC.out.mono ?_
 rintro e w1 ⟨rfl,hk1⟩
 have HK1:=hh hk1
 clear hk1 HC
 go_wp2_with fail
 rw[show q=decide (0≤n)from HV.out]
 exact Za rfl (Zj results132 (Zh rfl)) HK1.out
theorem Zha (w:World) (a:Option Addr) (c:Nat) (xs:List ChV) (hm:xs.length≤140737488355328) (hI:Zo ChV 2 ChV.cells w a xs) (K:Nat) (fs caps:Array Value) (p:ChV→Bool) (eg:∀args w,(callFunc K args).run prog w= .ok (.enter K args) w)
 (hp:∀W x,Kept [] w W→x∈xs→Calls prog K (fs++ #[.agg (ChV.cells x).toArray]++caps) W (ZE (.bool (p x)) W)):
 Calls prog 293 #[.slice a xs.length c,.func (.func K) fs caps] w (ZE (.int .i64 (Zal p xs)) w):=by
 have HI:=hh hI
 have HP:=hh hp
 clear hI hp
 go_enter func293,ntmps293
 go_wp2_with fail
 go_loopw [8] (fun i wr=>∃k:Nat,k≤xs.length∧i= .int .i64 k∧(xs.take k).any p=false∧Kept [] w wr) (fun i _=>xs.length - (intOf i).toNat)
 case atStart=>exact⟨0,Nat.zero_le _,rfl,rfl,Kept.refl _ _⟩
 case round=>
  obtain⟨k,hk,rfl,hn,hkr⟩:=hrel
  have HN:=hh hn
  have HK:=hh hkr
  clear hn hkr
  obtain⟨wo,rfl⟩:∃wo:World,wo=wr:=⟨_,rfl⟩
  by_cases hlt:k < xs.length
  ·obtain⟨x,hx⟩:∃x,xs[k]? =some x:=⟨_,List.getElem?_eq_getElem hlt⟩
   have HX:=hh hx
   rcases HI.out with h0 | ⟨b,o,rfl,hcx⟩
   ·rw[h0]at hlt;simp at hlt
   ·haveI ie:YP wo b (o+k*2) x:=⟨fun j u hu=>HK.out.cell (hcx k x hx j u hu) (by simp)⟩
    clear hcx hx
    go_wp2_with fail
    refine(HP.out _ _ HK.out (List.mem_of_getElem? HX.out)).mono ?_
    rintro e w2 ⟨rfl,hk2⟩
    have HK2:=hh (HK.out.trans hk2)
    have HS:Hid ((xs.take (k+1)).any p=p x):=by
     obtain⟨hk',e⟩:=List.getElem?_eq_some_iff.1 HX.out
     rw[Hid,List.take_succ_eq_append_getElem hk',e,List.any_append,HN.out]
     simp
    have HA:Hid (p x=true→Zal p xs=k):=fun h=>Zcp HN.out HX.out h
    clear hk2 HK ie
    cases hpx:p x
    ·rw[hpx]at HS
     clear hpx HA
     go_wp2_with fail
     go_roundw
     case rel=>exact⟨k+1,by omega,by go_num,HS.out,HK2.out⟩
     case measure=>simp[intOf];omega
    ·have HA2:=hh (HA.out hpx)
     clear HS hpx HA
     go_wp2_with fail
     go_ret
     rw[HA2.out]
     exact⟨rfl,HK2.out⟩
  ·obtain rfl:k=xs.length:=by omega
   have HA2:Hid (Zal p xs= -1):=Zco (by have:=HN.out;rwa [List.take_length]at this)
   go_wp2_with fail
   go_ret
   rw[HA2.out]
   exact⟨rfl,HK.out⟩
theorem Zk8 (w:World) (a:Option Addr) (c:Nat) (xs:List ChV) (hm:xs.length≤140737488355328) (hI:Zo ChV 2 ChV.cells w a xs) (K:Nat) (fs caps:Array Value) (p:ChV→Bool) (eg:∀args w,(callFunc K args).run prog w= .ok (.enter K args) w)
 (hp:∀W x,Kept [] w W→x∈xs→Calls prog K (fs++ #[.agg (ChV.cells x).toArray]++caps) W (ZE (.bool (p x)) W)):
 Calls prog 281 #[.slice a xs.length c,.func (.func K) fs caps] w (ZE (.bool (xs.any p)) w):=by
 have HC:=hh (Zha w a c xs hm hI K fs caps p eg hp)
 have HV:=hh (Zd4 p xs)
 clear hI hp eg
 generalize Zal p xs=n at*
 generalize xs.any p=q at*
 go_enter func281,ntmps281
 go_wp2_with fail
 refine HC.out.mono ?_
 rintro e w1 ⟨rfl,hk1⟩
 have HK1:=hh hk1
 clear hk1 HC
 go_wp2_with fail
 rw[show q=decide (0≤n)from HV.out]
 exact Za rfl (Zj results281 (Zh rfl)) HK1.out
end
end Go.Proofs.YtfaecpkocgcofaaGreatDoor
