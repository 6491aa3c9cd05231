/- Lemmas for ResolveSettles, printed small: V3 V4 V5 V6 V7 V8. -/
import Derived.Test.YtfaecpkocgcofaaGreatDoorZ10
set_option linter.all false
set_option maxRecDepth 100000
set_option maxHeartbeats 8000000
open Go.Proofs.Tryz
namespace Go.Proofs.YtfaecpkocgcofaaGreatDoor
section
open Go.RowKit
theorem Jl {P:Program} {T K E:TypeId} {d:TypeDesc} (w:World) (hT:P.underlying T=some (.map K E)) (hK:P.underlying K=some d) (r:Nat) (es:Array MapEntry) (c:Nat) (hb:w.heap[r]? =some (.map es c)) (key v:Value) (hk:JV d key=true) (hf:Instr.findNow d key es.toList 0=some none):
 (Instr.mapUpdate T (.map (some r)) key v).run P w= .ok () (QY w r (.map (es.push {key:=key,val:=v,born:=c}) (c+1))):=by
 unfold Instr.mapUpdate
 simp only[Sem.run_bind,run_underlying hT,Result.andThen_ok,getObj,Sem.run,hb,YU _ hK hk,Instr.findKey,run_underlying hK,hf,Sem.run_pure,setObj]
 rfl
def Y1 (k:Int):List MapEntry→Bool
 | []=>true
 | e::l=>(match e.key with | .int .u8 j=>k != j | _=>false) && Y1 k l
@[go_sem] theorem Zqs (k:Int):Y1 k []=true:=by rw[Y1]
@[go_sem] theorem Zpf (k j:Int) (v:Value) (b:Nat) (l:List MapEntry):Y1 k ({key:= .int .u8 j,val:=v,born:=b}::l)=((k != j) && Y1 k l):=by rw[Y1]
def ZaI (k:Int) (es:Array MapEntry):Bool:=Y1 k es.toList
@[go_sem] theorem Zpg (k:Int) (l:List MapEntry):ZaI k l.toArray=Y1 k l:=by rw[ZaI]
theorem YX (k:Int):∀(l:List MapEntry) (i:Nat),Y1 k l=true→Instr.findNow (.int .u8) (.int .u8 k) l i=some none
 | [],_,_=>rfl
 | e::l,i,h=>by
  simp only[Y1,Bool.and_eq_true]at h
  obtain⟨h1,h2⟩:=h
  unfold Instr.findNow
  split at h1
  ·rename_i j hj
   have:(k == j)=false:=by simpa using h1
   simp only[hj,Instr.sameNow,if_true,this]
   exact YX k l (i+1) h2
  ·cases h1
@[go_sem] theorem ZoT (w:World) (r:Nat) (o o':Obj):QY (QY w r o) r o'=QY w r o':=by simp[QY,Array.setIfInBounds_setIfInBounds]
def ZqA (m k x:Value):Sem Next:=do Instr.mapUpdate 224 m k x;pure .skip
@[go_sem ↓] theorem Zpi (ρ:Operand→Value) (dst:Option Tmp) (m k x:Operand) (ty:TypeId) (pos:String) (after:Array Edge) (guard:Option (Nat×Bool)):
 execOp ρ {dst,op:= .insert 224 m k x,type:=ty,pos,after,guard}=ZqA (ρ m) (ρ k) (ρ x):=rfl
@[go_sem] theorem ZrS (w:World) (r:Nat) (es:Array MapEntry) (c:Nat) (k:Int) (v:Value) [h:Y6 w r es c] (hf:ZaI k es=true):
 Sem.run prog (ZqA (.map (some r)) (.int .u8 k) v) w= .ok .skip (QY w r (.map (es.push {key:= .int .u8 k,val:=v,born:=c}) (c+1))):=by
 simp only[ZqA,Sem.run_bind,Jl w underlying224 underlying37 r es c h.has (.int .u8 k) v rfl (YX k _ 0 hf),Result.andThen_ok,Sem.run_pure]
def Ztc (B7 B8 B9 B10 B11 B12:Nat):Array MapEntry:=
 #[⟨.int .u8 1,.agg #[.bool false,.func (.func 201) #[] #[]],0⟩,⟨.int .u8 2,.agg #[.bool false,.func (.func 202) #[] #[]],1⟩,⟨.int .u8 3,.agg #[.bool false,.func (.func 203) #[] #[]],2⟩,
  ⟨.int .u8 4,.agg #[.bool true,.func (.func 204) #[] #[]],3⟩,⟨.int .u8 6,.agg #[.bool true,.func (.func 205) #[] #[]],4⟩,⟨.int .u8 5,.agg #[.bool true,.func (.func 206) #[] #[]],5⟩,
  ⟨.int .u8 7,.agg #[.bool false,.func (.func 199) #[] #[.pointer (some ⟨B7,0,none⟩)]],6⟩,⟨.int .u8 8,.agg #[.bool false,.func (.func 199) #[] #[.pointer (some ⟨B8,0,none⟩)]],7⟩,⟨.int .u8 9,.agg #[.bool false,.func (.func 199) #[] #[.pointer (some ⟨B9,0,none⟩)]],8⟩,
  ⟨.int .u8 10,.agg #[.bool false,.func (.func 199) #[] #[.pointer (some ⟨B10,0,none⟩)]],9⟩,⟨.int .u8 11,.agg #[.bool false,.func (.func 199) #[] #[.pointer (some ⟨B11,0,none⟩)]],10⟩,⟨.int .u8 12,.agg #[.bool false,.func (.func 199) #[] #[.pointer (some ⟨B12,0,none⟩)]],11⟩,
  ⟨.int .u8 13,.agg #[.bool false,.func (.func 213) #[] #[]],12⟩,⟨.int .u8 14,.agg #[.bool false,.func (.func 214) #[] #[]],13⟩,⟨.int .u8 15,.agg #[.bool false,.func (.func 215) #[] #[]],14⟩]
structure Zjp (w:World) (r B7 B8 B9 B10 B11 B12:Nat):Prop where
 map:Y6 w r (Ztc B7 B8 B9 B10 B11 B12) 15
 b7:Zc w B7 110 #[.func (.func 207) #[] #[]]
 b8:Zc w B8 110 #[.func (.func 208) #[] #[]]
 b9:Zc w B9 110 #[.func (.func 209) #[] #[]]
 b10:Zc w B10 110 #[.func (.func 210) #[] #[]]
 b11:Zc w B11 110 #[.func (.func 211) #[] #[]]
 b12:Zc w B12 110 #[.func (.func 212) #[] #[]]
def ZsT (w:World) (e:Ending) (w':World):Prop:=∃r B7 B8 B9 B10 B11 B12,e= .returned (.map (some r))∧Zjp w' r B7 B8 B9 B10 B11 B12∧Kept [] w w'
theorem Jn (w:World):Calls prog 152 #[] w (ZsT w):=by
 go_enter func152,ntmps152
 go_wp2_with fail
 refine(Za8 _ _).mono ?_
 rintro e w7 ⟨B7,rfl,hb7,hk7⟩
 haveI p_w7:Zb w7 _:=⟨hk7⟩
 have hz_w7:w.heap.size≤w7.heap.size:=Kept.size (X:=[]) kp
 clear hk7
 go_wp2_with fail
 refine(Za8 _ _).mono ?_
 rintro e w8 ⟨B8,rfl,hb8,hk8⟩
 haveI p_w8:Zb w8 _:=⟨hk8⟩
 have hz_w8:w.heap.size≤w8.heap.size:=Kept.size (X:=[]) kp
 clear hk8
 go_wp2_with fail
 refine(Za8 _ _).mono ?_
 rintro e w9 ⟨B9,rfl,hb9,hk9⟩
 haveI p_w9:Zb w9 _:=⟨hk9⟩
 have hz_w9:w.heap.size≤w9.heap.size:=Kept.size (X:=[]) kp
 clear hk9
 go_wp2_with fail
 refine(Za8 _ _).mono ?_
 rintro e w10 ⟨B10,rfl,hb10,hk10⟩
 haveI p_w10:Zb w10 _:=⟨hk10⟩
 have hz_w10:w.heap.size≤w10.heap.size:=Kept.size (X:=[]) kp
 clear hk10
 go_wp2_with fail
 refine(Za8 _ _).mono ?_
 rintro e w11 ⟨B11,rfl,hb11,hk11⟩
 haveI p_w11:Zb w11 _:=⟨hk11⟩
 have hz_w11:w.heap.size≤w11.heap.size:=Kept.size (X:=[]) kp
 clear hk11
 go_wp2_with fail
 refine(Za8 _ _).mono ?_
 rintro e w12 ⟨B12,rfl,hb12,hk12⟩
 haveI p_w12:Zb w12 _:=⟨hk12⟩
 have hz_w12:w.heap.size≤w12.heap.size:=Kept.size (X:=[]) kp
 clear hk12
 go_wp2_with fail
 exact bodyPost_ret (Zj results152 (Zh rfl)) rfl ⟨_,B7,B8,B9,B10,B11,B12,rfl,⟨⟨Y6.has⟩,inferInstance,inferInstance,inferInstance,inferInstance,inferInstance,inferInstance⟩,kp⟩
def ZqU (o:Int):Bool:=o == 4 || o == 5 || o == 6
def opG (o a b:Int):Int:=
 if o=1 then wrap64 (a+b)
 else if o=2 then wrap64 (a - b)
 else if o=3 then Za5 a b
 else if o=4 then a.tdiv b
 else if o=5 then ZnA a b
 else if o=6 then a.tmod b
 else if o=7 then ZT (a == b)
 else if o=8 then ZT (a != b)
 else if o=9 then ZT (decide (a < b))
 else if o=10 then ZT (decide (a≤b))
 else if o=11 then ZT (decide (b < a))
 else if o=12 then ZT (decide (b≤a))
 else if o=13 then ZT (a == 1 && b == 1)
 else if o=14 then ZT (a != 0 || b != 0)
 else ZT (a != b)
theorem ZgS {o a b:Int}:opP o a b=if ZqU o=true∧b=0 then none else some (opG o a b):=by
 unfold opP opG ZqU Za5
 by_cases h1:o=1
 ·subst h1;simp
 by_cases h2:o=2
 ·subst h2;simp
 by_cases h3:o=3
 ·subst h3;simp
 by_cases h4:o=4
 ·subst h4;by_cases hb:b=0 <;> simp[hb]
 by_cases h5:o=5
 ·subst h5;by_cases hb:b=0 <;> simp[hb]
 by_cases h6:o=6
 ·subst h6;by_cases hb:b=0 <;> simp[hb]
 have hd:(o == 4 || o == 5 || o == 6)=false:=by simp[h4,h5,h6]
 rw[hd]
 simp only[h1,h2,h3,h4,h5,h6,if_false,Bool.false_eq_true,false_and]
 repeat' (first | rfl | split)
theorem ZdH {a b:Int} (ha: -4611686018427387904≤a∧a≤4611686018427387904): -4611686018427387904≤a.tdiv b∧a.tdiv b≤4611686018427387904:=by
 have h:(a.tdiv b).natAbs≤a.natAbs:=by rw[Int.natAbs_tdiv];exact Nat.div_le_self _ _
 omega
abbrev InB (a:Int):Prop:=-4611686018427387904≤a∧a≤4611686018427387904
structure QP (w:World) (K:Nat) (caps:Array Value) (o:Int):Prop where
 eg:∀args w,(callFunc K args).run prog w= .ok (.enter K args) w
 run:∀W a b,Kept [] w W→InB a→InB b→(ZqU o=true→b≠0)→Calls prog K (#[.int .i64 a,.int .i64 b]++caps) W (ZE (.int .i64 (opG o a b)) W)
theorem Zqj (w:World) (a b:Int) (ha:InB a) (hb:InB b):Calls prog 201 #[.int .i64 a,.int .i64 b] w (ZE (.int .i64 (wrap64 (a+b))) w):=by
 obtain⟨t1,t2⟩:=ZdH (b:=b) ha
 obtain⟨a1,a2⟩:=ha
 obtain⟨b1,b2⟩:=hb
 go_enter func201,ntmps201
 go_wp2_with fail
 exact Za rfl (Zj results201 (Zh rfl)) kp
theorem Zqi (w:World) (a b:Int) (ha:InB a) (hb:InB b):Calls prog 202 #[.int .i64 a,.int .i64 b] w (ZE (.int .i64 (wrap64 (a - b))) w):=by
 obtain⟨t1,t2⟩:=ZdH (b:=b) ha
 obtain⟨a1,a2⟩:=ha
 obtain⟨b1,b2⟩:=hb
 go_enter func202,ntmps202
 go_wp2_with fail
 exact Za rfl (Zj results202 (Zh rfl)) kp
theorem Zqh (w:World) (a b:Int) (ha:InB a) (hb:InB b) (h0:¬b=0):Calls prog 204 #[.int .i64 a,.int .i64 b] w (ZE (.int .i64 (a.tdiv b)) w):=by
 obtain⟨t1,t2⟩:=ZdH (b:=b) ha
 obtain⟨a1,a2⟩:=ha
 obtain⟨b1,b2⟩:=hb
 go_enter func204,ntmps204
 go_wp2_with fail
 exact Za rfl (Zj results204 (Zh rfl)) kp
theorem Zqg (w:World) (a b:Int) (ha:InB a) (hb:InB b) (h0:¬b=0):Calls prog 205 #[.int .i64 a,.int .i64 b] w (ZE (.int .i64 (a.tmod b)) w):=by
 obtain⟨t1,t2⟩:=ZdH (b:=b) ha
 obtain⟨a1,a2⟩:=ha
 obtain⟨b1,b2⟩:=hb
 go_enter func205,ntmps205
 go_wp2_with fail
 exact Za rfl (Zj results205 (Zh rfl)) kp
theorem Znu (w:World) (a b:Int):Calls prog 213 #[.int .i64 a,.int .i64 b] w (ZE (.int .i64 (ZT (a == 1 && b == 1))) w):=by
 cases h:(a == 1)
 all_goals
  go_enter func213,ntmps213
  go_wp2_with fail
  refine nxt (Q4 _ _) fun w1 p_w1=>?_;have hz_w1:=szk w w1
  go_wp2_with fail
  exact Za rfl (Zj results213 (Zh rfl)) kp
theorem Znt (w:World) (a b:Int):Calls prog 214 #[.int .i64 a,.int .i64 b] w (ZE (.int .i64 (ZT (a != 0 || b != 0))) w):=by
 cases h:(a != 0)
 all_goals
  go_enter func214,ntmps214
  go_wp2_with fail
  refine nxt (Q4 _ _) fun w1 p_w1=>?_;have hz_w1:=szk w w1
  go_wp2_with fail
  exact Za rfl (Zj results214 (Zh rfl)) kp
theorem Zns (w:World) (a b:Int):Calls prog 215 #[.int .i64 a,.int .i64 b] w (ZE (.int .i64 (ZT (a != b))) w):=by
 go_enter func215,ntmps215
 go_wp2_with fail
 refine nxt (Q4 _ _) fun w1 p_w1=>?_;have hz_w1:=szk w w1
 go_wp2_with fail
 exact Za rfl (Zj results215 (Zh rfl)) kp
theorem Zpv (a b:Int):(Zan a b == 0)=(a == b):=by
 unfold Zan;rw[Bool.eq_iff_iff];simp only[beq_iff_eq];repeat' (first | omega | split)
theorem ZsA (a b:Int):(Zan a b != 0)=(a != b):=by rw[bne,bne,Zpv]
theorem ZsB (a b:Int):decide (Zan a b < 0)=decide (a < b):=by
 unfold Zan;rw[Bool.eq_iff_iff];simp only[decide_eq_true_eq];repeat' (first | omega | split)
theorem ZsC (a b:Int):decide (Zan a b≤0)=decide (a≤b):=by
 unfold Zan;rw[Bool.eq_iff_iff];simp only[decide_eq_true_eq];repeat' (first | omega | split)
theorem ZsD (a b:Int):decide (0 < Zan a b)=decide (b < a):=by
 unfold Zan;rw[Bool.eq_iff_iff];simp only[decide_eq_true_eq];repeat' (first | omega | split)
theorem ZsE (a b:Int):decide (0≤Zan a b)=decide (b≤a):=by
 unfold Zan;rw[Bool.eq_iff_iff];simp only[decide_eq_true_eq];repeat' (first | omega | split)
theorem ZrJ:ZhA 207 (fun c=>c == 0):=⟨Go.Proofs.enters_of func207 (by kernel_rfl) rfl,fun W c=>Zj6 W c⟩
theorem ZrI:ZhA 208 (fun c=>c != 0):=⟨Go.Proofs.enters_of func208 (by kernel_rfl) rfl,fun W c=>Zj5 W c⟩
theorem ZrH:ZhA 209 (fun c=>decide (c < 0)):=⟨Go.Proofs.enters_of func209 (by kernel_rfl) rfl,fun W c=>Zj4 W c⟩
theorem ZrG:ZhA 210 (fun c=>decide (c≤0)):=⟨Go.Proofs.enters_of func210 (by kernel_rfl) rfl,fun W c=>Zj3 W c⟩
theorem ZrF:ZhA 211 (fun c=>decide (0 < c)):=⟨Go.Proofs.enters_of func211 (by kernel_rfl) rfl,fun W c=>Zj2 W c⟩
theorem ZrE:ZhA 212 (fun c=>decide (0≤c)):=⟨Go.Proofs.enters_of func212 (by kernel_rfl) rfl,fun W c=>Zj1 W c⟩
theorem Tryz.entersCmp:∀args w,(callFunc 199 args).run prog w= .ok (.enter 199 args) w:=Go.Proofs.enters_of func199 (by kernel_rfl) rfl
theorem Zuf {w:World} {B:Nat} (h:Zc w B 110 #[.func (.func 207) #[] #[]]):QP w 199 #[.pointer (some ⟨B,0,none⟩)] 7:=⟨Tryz.entersCmp,fun W a b hk _ _ _=>by
 haveI:=h.kept hk
 have:=JZ W B _ _ a b ZrJ
 rw[Zpv]at this
 exact this⟩
theorem Zue {w:World} {B:Nat} (h:Zc w B 110 #[.func (.func 208) #[] #[]]):QP w 199 #[.pointer (some ⟨B,0,none⟩)] 8:=⟨Tryz.entersCmp,fun W a b hk _ _ _=>by
 haveI:=h.kept hk
 have:=JZ W B _ _ a b ZrI
 rw[ZsA]at this
 exact this⟩
theorem Zud {w:World} {B:Nat} (h:Zc w B 110 #[.func (.func 209) #[] #[]]):QP w 199 #[.pointer (some ⟨B,0,none⟩)] 9:=⟨Tryz.entersCmp,fun W a b hk _ _ _=>by
 haveI:=h.kept hk
 have:=JZ W B _ _ a b ZrH
 rw[ZsB]at this
 exact this⟩
theorem Zsz {w:World} {B:Nat} (h:Zc w B 110 #[.func (.func 210) #[] #[]]):QP w 199 #[.pointer (some ⟨B,0,none⟩)] 10:=⟨Tryz.entersCmp,fun W a b hk _ _ _=>by
 haveI:=h.kept hk
 have:=JZ W B _ _ a b ZrG
 rw[ZsC]at this
 exact this⟩
theorem Zsy {w:World} {B:Nat} (h:Zc w B 110 #[.func (.func 211) #[] #[]]):QP w 199 #[.pointer (some ⟨B,0,none⟩)] 11:=⟨Tryz.entersCmp,fun W a b hk _ _ _=>by
 haveI:=h.kept hk
 have:=JZ W B _ _ a b ZrF
 rw[ZsD]at this
 exact this⟩
theorem Zsx {w:World} {B:Nat} (h:Zc w B 110 #[.func (.func 212) #[] #[]]):QP w 199 #[.pointer (some ⟨B,0,none⟩)] 12:=⟨Tryz.entersCmp,fun W a b hk _ _ _=>by
 haveI:=h.kept hk
 have:=JZ W B _ _ a b ZrE
 rw[ZsE]at this
 exact this⟩
theorem Zul (w:World):QP w 201 #[] 1:=⟨Go.Proofs.enters_of func201 (by kernel_rfl) rfl,fun W a b _ ha hb h0=>Zqj W a b ha hb⟩
theorem Zuk (w:World):QP w 202 #[] 2:=⟨Go.Proofs.enters_of func202 (by kernel_rfl) rfl,fun W a b _ ha hb h0=>Zqi W a b ha hb⟩
theorem Zuj (w:World):QP w 203 #[] 3:=⟨Go.Proofs.enters_of func203 (by kernel_rfl) rfl,fun W a b _ ha hb h0=>ZgO W a b ha hb⟩
theorem Zui (w:World):QP w 204 #[] 4:=⟨Go.Proofs.enters_of func204 (by kernel_rfl) rfl,fun W a b _ ha hb h0=>Zqh W a b ha hb (h0 rfl)⟩
theorem Zuh (w:World):QP w 206 #[] 5:=⟨Go.Proofs.enters_of func206 (by kernel_rfl) rfl,fun W a b _ ha hb h0=>ZiV W a b ha hb (h0 rfl)⟩
theorem Zug (w:World):QP w 205 #[] 6:=⟨Go.Proofs.enters_of func205 (by kernel_rfl) rfl,fun W a b _ ha hb h0=>Zqg W a b ha hb (h0 rfl)⟩
theorem Zsw (w:World):QP w 213 #[] 13:=⟨Go.Proofs.enters_of func213 (by kernel_rfl) rfl,fun W a b _ ha hb h0=>Znu W a b⟩
theorem Zsv (w:World):QP w 214 #[] 14:=⟨Go.Proofs.enters_of func214 (by kernel_rfl) rfl,fun W a b _ ha hb h0=>Znt W a b⟩
theorem Zsu (w:World):QP w 215 #[] 15:=⟨Go.Proofs.enters_of func215 (by kernel_rfl) rfl,fun W a b _ ha hb h0=>Zns W a b⟩
theorem ZhW {w:World} {r B7 B8 B9 B10 B11 B12:Nat} (h:Zjp w r B7 B8 B9 B10 B11 B12) {o:Int} (h1:1≤o) (h2:o≤15):
 ∃i K caps,Instr.findNow (.int .u8) (.int .u8 o) (Ztc B7 B8 B9 B10 B11 B12).toList 0=some (some (i,.agg #[.bool (ZqU o),.func (.func K) #[] caps]))∧QP w K caps o:=by
 have hc:o=1∨o=2∨o=3∨o=4∨o=5∨o=6∨o=7∨o=8∨o=9∨o=10∨o=11∨o=12∨o=13∨o=14∨o=15:=by omega
 rcases hc with rfl | rfl | rfl | rfl | rfl | rfl | rfl | rfl | rfl | rfl | rfl | rfl | rfl | rfl | rfl
 ·exact⟨_,_,_,rfl,Zul w⟩
 ·exact⟨_,_,_,rfl,Zuk w⟩
 ·exact⟨_,_,_,rfl,Zuj w⟩
 ·exact⟨_,_,_,rfl,Zui w⟩
 ·exact⟨_,_,_,rfl,Zuh w⟩
 ·exact⟨_,_,_,rfl,Zug w⟩
 ·exact⟨_,_,_,rfl,Zuf h.b7⟩
 ·exact⟨_,_,_,rfl,Zue h.b8⟩
 ·exact⟨_,_,_,rfl,Zud h.b9⟩
 ·exact⟨_,_,_,rfl,Zsz h.b10⟩
 ·exact⟨_,_,_,rfl,Zsy h.b11⟩
 ·exact⟨_,_,_,rfl,Zsx h.b12⟩
 ·exact⟨_,_,_,rfl,Zsw w⟩
 ·exact⟨_,_,_,rfl,Zsv w⟩
 ·exact⟨_,_,_,rfl,Zsu w⟩
theorem ZhV (B7 B8 B9 B10 B11 B12:Nat) {o:Int} (h:o=16∨o=17):Instr.findNow (.int .u8) (.int .u8 o) (Ztc B7 B8 B9 B10 B11 B12).toList 0=some none:=by
 rcases h with rfl | rfl <;> rfl
theorem ZpN {t:Tab} (hl:∀y,y∈t.types→y.lits.length≤140737488355328) {ty:Int} {b:Bd} (h:ZU t ty=some b): -4611686018427387904≤b.1∧b.2≤4611686018427387904:=by
 unfold ZU at h
 split at h
 ·cases h
 ·rename_i hc
  simp only at h
  have hy:(t.types.getD ty.toNat default).lits.length≤140737488355328:=by
   have hlt:ty.toNat < t.types.length:=by omega
   have e:t.types.getD ty.toNat default=t.types[ty.toNat]:=by simp[List.getD_eq_getElem?_getD,hlt]
   rw[e]
   exact hl _ (List.getElem_mem hlt)
  generalize t.types.getD ty.toNat default=y at*
  split at h
  ·injection h with h;subst h;simp
  split at h
  ·cases h
  split at h
  ·injection h with h;subst h;simp
  split at h
  ·injection h with h;subst h;simp;omega
  ·cases h
theorem ZjF {x:Int} {b:Bd} {z:Int} (h:ZO x b=some z):z=x∧b.1≤z∧z≤b.2:=by
 unfold ZO at h
 split at h
 ·cases h
 ·injection h with h;subst h;omega
theorem Zc6 {t:Tab} (hl:∀y,y∈t.types→y.lits.length≤140737488355328) {n:Nat} {x:ExV} {z:Int} (h:ZF t n x=some z):InB z:=by
 cases n with
 | zero=>cases h
 | succ n=>
  simp only[ZF,Zjs]at h
  split at h
  ·cases h
  ·split at h
   ·cases h
   ·rename_i b hb
    have h1:=ZpN hl hb
    have h2:=ZjF h
    exact⟨by omega,by omega⟩
def Zaq (v:Zp) (t:Tab) (n:Nat):Prop:=∀w x,Zw w v t→Qe w n x→isP t n x=true→Calls prog 39 #[.agg (v.cells t),.agg x.cells.toArray] w (Zjz (ZF t n x) w)
theorem Calls.retP {P:Program} {f:FuncId} {args:Array Value} {w:World} {o:Option Int} (h:Calls P f args w (Zjz o w)) (ho:o=none):Calls P f args w (Zre w):=by subst ho;exact h
theorem Calls.retV {P:Program} {f:FuncId} {args:Array Value} {w:World} {o:Option Int} {z:Int} (h:Calls P f args w (Zjz o w)) (ho:o=some z):Calls P f args w (ZE (.int .i64 z) w):=by subst ho;exact h
theorem ZgU (w:World) (v:Zp) (t:Tab) (x:ExV) (n:Nat) (ih:Zaq v t n) (hT:Zw w v t) (hx:Qe w (n+1) x) (hl:x.ls.length=1) (hI:isP t n (l0 x)=true):
 Calls prog 151 #[.agg (v.cells t),.agg x.cells.toArray] w (Zjz (ZgV (ZF t n) x) w):=by
 obtain⟨b0,o0,ha,hat,hi0⟩:=ZaO hx (by omega)
 have HV:=hh (fun w' (hk:Kept [] w w')=>ih w' (l0 x) (hT.kept hk) (hi0.kept hk) hI)
 have HB:=hh (fun z (h:ZF t n (l0 x)=some z)=>Zc6 hT.ll h)
 have HM:Hid (ZgV (ZF t n) x=match ZF t n (l0 x)with | none=>none | some a=>some (if x.oper=19 then -a else if x.oper=20 then ZeR a else if x.oper=21 then ZT (a == 0)else a)):=rfl
 have q1:=hx.2.2.2.2.1
 have hl2:(0:Int) < (x.ls.length:Int):=by omega
 clear ih hT hx hl hI hi0
 generalize ZF t n (l0 x)=o at*
 generalize l0 x=y at*
 unfold Zp.cells at*
 go_enter func151,ntmps151
 go_wp2_with fail
 refine Ze 5 0 (fun _=> .cells #[] 0) (by kernel_rfl) (by kernel_rfl) (fun i o h1 h2=>by omega) (fun _ _ _ _ _ h=>h) ?_;apply Exists.intro;refine⟨fun U hU hN=>?_,?_⟩;simp only[List.take_succ_cons,List.take_zero]
 ·repeat(go_big_quiet_step (fail))
  refine wpQuiet_nil ?_
  exact rfl
 simp only[List.drop_succ_cons,List.drop_zero,List.take_succ_cons,List.take_zero]
 intro w4 hk4 _
 haveI p_w4:Zb w4 _:=⟨hk4⟩
 go_wp2_with fail
 cases o with
 | none=>
  have HW:Hid (ZgV (ZF t n) x=none):=HM.out
  refine nxt (Calls.retP (HV.out _ kp) rfl) fun w5 p_w5=>?_;have hz_w5:=szk w w5
  show bodyPost _ _ (Zjz _ w) (.panic QJ) _ _
  rw[HW.out]
  exact ZA rfl kp
 | some a=>
  have HW0:Hid (ZgV (ZF t n) x=some (if x.oper=19 then -a else if x.oper=20 then ZeR a else if x.oper=21 then ZT (a == 0)else a)):=HM.out
  obtain⟨a1,a2⟩:=HB.out a rfl
  refine nxt (Calls.retV (HV.out _ kp) rfl) fun w5 p_w5=>?_;have hz_w5:=szk w w5
  clear HV HM HB
  by_cases k19:x.oper=19
  ·have HW:Hid (ZgV (ZF t n) x=some (-a)):=by rw[Hid,HW0.out,if_pos k19]
   clear HW0
   go_wp2_with fail
   rw[HW.out]
   exact Zu rfl (Zj results151 (Zh rfl)) kp
  have e19:(x.oper == 19)=false:=by simp[k19]
  by_cases k20:x.oper=20
  ·have HW:Hid (ZgV (ZF t n) x=some (ZeR a)):=by rw[Hid,HW0.out,if_neg k19,if_pos k20]
   clear HW0 k19
   by_cases hneg:a < 0
   ·have HA:Hid (ZeR a= -a):=by rw[Hid,ZeR,if_pos hneg]
    go_wp2_with fail
    rw[HW.out,HA.out]
    exact Zu rfl (Zj results151 (Zh rfl)) kp
   ·have HA:Hid (ZeR a=a):=by rw[Hid,ZeR,if_neg hneg]
    have hpos:0≤a:=by omega
    go_wp2_with fail
    rw[HW.out,HA.out]
    exact Zu rfl (Zj results151 (Zh rfl)) kp
  have e20:(x.oper == 20)=false:=by simp[k20]
  by_cases k21:x.oper=21
  ·have HW:Hid (ZgV (ZF t n) x=some (ZT (a == 0))):=by rw[Hid,HW0.out,if_neg k19,if_neg k20,if_pos k21]
   clear HW0 k19 k20
   go_wp2_with fail
   refine nxt (Q4 _ _) fun w6 p_w6=>?_;have hz_w6:=szk w w6
   go_wp2_with fail
   rw[HW.out]
   exact Zu rfl (Zj results151 (Zh rfl)) kp
  have HW:Hid (ZgV (ZF t n) x=some a):=by rw[Hid,HW0.out,if_neg k19,if_neg k20,if_neg k21]
  have e21:(x.oper == 21)=false:=by simp[k21]
  clear HW0 k19 k20 k21
  go_wp2_with fail
  rw[HW.out]
  exact Zu rfl (Zj results151 (Zh rfl)) kp
def ZhB (o:Option Bool) (w:World) (e:Ending) (w':World):Prop:=match o with | some b=>ZE (.bool b) w e w' | none=>Zre w e w'
theorem ZcH {P:Program} {fn:Func} {a:Act} {w w':World} (hd:a.defers= []) (hk:Kept [] w w'):bodyPost P fn (ZhB none w) (.panic QJ) a w':=⟨hd,rfl,hk⟩
theorem YL {P:Program} {fn:Func} {b:Bool} {a:Act} {w w':World} (hd:a.defers= []) (hr:(results fn a.tmps).run P w'= .ok (.bool b) w') (hk:Kept [] w w'):bodyPost P fn (ZhB (some b) w) .ret a w':=
 bodyPost_ret hr hd ⟨rfl,hk⟩
theorem Zt2 {α:Type} {l:List α} {d:α} (h:l.length=3):l= [l.getD 0 d,l.getD 1 d,l.getD 2 d]:=by
 cases l with
 | nil=>cases h
 | cons a l=>cases l with
  | nil=>simp at h
  | cons b l=>cases l with
   | nil=>simp at h
   | cons c l=>cases l with
    | nil=>rfl
    | cons _ _=>simp at h
theorem Zia {w:World} {n:Nat} {x:ExV} (h:Qe w (n+1) x) (hj:2 < x.ls.length):∃b o,x.la=some ⟨b,o,none⟩∧Q1 w b o (l0 x)∧Q1 w b (o+9) (l1 x)∧Q1 w b (o+18) (l2 x)∧Qe w n (l0 x)∧Qe w n (l1 x)∧Qe w n (l2 x):=by
 obtain⟨b,o,h1,h2,h3,h4,h5⟩:=Je h (by omega)
 obtain⟨b',o',h6,h7,h8⟩:=ZqP h hj
 rw[h1]at h6
 cases h6
 have e:o+2*9=o+18:=by omega
 rw[e]at h7
 exact⟨b,o,h1,h2,h3,h7,h4,h5,h8⟩
def Zgd (v lo hi:Int):Bool:=decide (lo≤v) && decide (v≤hi)
theorem ZgX (w:World) (v:Zp) (t:Tab) (x:ExV) (n:Nat) (ih:Zaq v t n) (hT:Zw w v t) (hx:Qe w (n+1) x) (hl:x.ls.length=2) (hI:isP t n (l0 x)=true) (b a:Bd) (hm:Jq t (l1 x)=some (b,a)):
 Calls prog 150 #[.agg (v.cells t),.agg x.cells.toArray] w (ZhB (Zcj (ZF t n) t x) w):=by
 obtain⟨b0,o0,ha,hat,hat1,hi0,hi1⟩:=Je hx (by omega)
 have HPP:Hid (∀(a:Act) (w':World),a.defers= []→Kept [] w w'→bodyPost prog Tryz.f150 (ZhB none w) (.panic QJ) a w'):=fun _ _ h1 h2=>ZcH h1 h2
 have HV:=hh (fun w' (hk:Kept [] w w')=>ih w' (l0 x) (hT.kept hk) (hi0.kept hk) hI)
 have HMK:=hh (fun w' (hk:Kept [] w w')=>Jp w' v t (l1 x) (hT.kept hk))
 have HM:Hid (Zcj (ZF t n) t x=match ZF t n (l0 x)with | none=>none | some z=>some (Zgd z b.1 b.2)):=by
  rw[Hid,Zcj]
  cases ZF t n (l0 x)with
  | none=>rfl
  | some z=>simp only[hl,if_true,hm];rfl
 have HX:=hh (JX hm)
 have q1:=hx.2.2.2.2.1
 have hl2:(0:Int) < (x.ls.length:Int):=by omega
 have hl3:(1:Int) < (x.ls.length:Int):=by omega
 have hl4:((x.ls.length:Int) == 3)=false:=by simp;omega
 clear ih hT hx hl hI hi0 hi1 hm
 unfold Zp.cells at*
 rw[HX.out]at HMK
 unfold pvV at HMK
 simp only at HMK
 generalize ZF t n (l0 x)=o at*
 generalize l0 x=y at*
 generalize l1 x=z at*
 go_enter func150,ntmps150
 go_wp2_with fail
 refine Ze 5 0 (fun _=> .cells #[] 0) (by kernel_rfl) (by kernel_rfl) (fun i o h1 h2=>by omega) (fun _ _ _ _ _ h=>h) ?_;apply Exists.intro;refine⟨fun U hU hN=>?_,?_⟩;simp only[List.take_succ_cons,List.take_zero]
 ·repeat(go_big_quiet_step (fail))
  refine wpQuiet_nil ?_
  exact rfl
 simp only[List.drop_succ_cons,List.drop_zero,List.take_succ_cons,List.take_zero]
 intro w4 hk4 _
 haveI p_w4:Zb w4 _:=⟨hk4⟩
 go_wp2_with fail
 cases o with
 | none=>
  have HW:Hid (Zcj (ZF t n) t x=none):=HM.out
  refine nxt (Calls.retP (HV.out _ kp) rfl) fun w5 p_w5=>?_;have hz_w5:=szk w w5
  show bodyPost _ _ _ (.panic QJ) _ _
  rw[HW.out]
  exact HPP.out _ _ rfl kp
 | some u=>
  have HW:Hid (Zcj (ZF t n) t x=some (Zgd u b.1 b.2)):=HM.out
  refine nxt (Calls.retV (HV.out _ kp) rfl) fun w5 p_w5=>?_;have hz_w5:=szk w w5
  clear HV HM
  go_wp2_with fail
  refine Ze 10 2 (fun _=> .cells #[.int .i64 0,.int .i64 0] 150) (by kernel_rfl) (by kernel_rfl) (fun i o h1 h2 h3=>by obtain rfl | rfl:i=10∨i=11:=(by omega);all_goals(obtain rfl:=Option.some.inj h3;exact Zab rfl rfl Tryz.zeroBd)) (fun _ _ _ _ _ h=>h) ?_;apply Exists.intro;refine⟨fun U hU hN=>?_,?_⟩;simp only[List.take_succ_cons,List.take_zero]
  ·repeat(go_big_quiet_step (exact Calls.headV hU (HMK.out _ (Kept.trans kp (Zs.prop _)))))
   refine wpQuiet_nil ?_
   exact rfl
  simp only[List.drop_succ_cons,List.drop_zero,List.take_succ_cons,List.take_zero]
  intro B2 hB2 _ B3 hB3 hne w6 hk6 hh
  haveI p_w6:Zb w6 _:=⟨hk6⟩
  haveI bx2:Zc w6 B2 150 #[.int .i64 0,.int .i64 0]:=Q8 hh (by simp)
  haveI bx3:Zc w6 B3 150 #[.int .i64 0,.int .i64 0]:=Q8 hh (by simp)
  have hne2:=ZdW hne
  haveI ap1:Qf B2 B3:=⟨hne2⟩
  haveI ap2:Qf B3 B2:=⟨hne2.symm⟩
  haveI g2:Z2 B2 _:=⟨hB2⟩
  haveI g3:Z2 B3 _:=⟨hB3⟩
  have hz2:w.heap.size≤B2:=Nat.le_trans (Kept.size (X:=[]) kp) hB2
  have hz3:w.heap.size≤B3:=Nat.le_trans (Kept.size (X:=[]) kp) hB3
  clear hk6 hh hne HMK
  by_cases c1:b.1≤u
  ·by_cases c2:u≤b.2
   ·have HE:Hid (Zgd u b.1 b.2=true):=by rw[Hid,Zgd];simp[c1,c2]
    go_wp2_with fail
    rw[HW.out,HE.out]
    exact YL rfl (Zj results150 (Zh rfl)) kp
   ·have HE:Hid (Zgd u b.1 b.2=false):=by rw[Hid,Zgd];simp[c2]
    go_wp2_with fail
    rw[HW.out,HE.out]
    exact YL rfl (Zj results150 (Zh rfl)) kp
  ·have HE:Hid (Zgd u b.1 b.2=false):=by rw[Hid,Zgd];simp[c1]
   go_wp2_with fail
   rw[HW.out,HE.out]
   exact YL rfl (Zj results150 (Zh rfl)) kp
theorem ZgW (w:World) (v:Zp) (t:Tab) (x:ExV) (n:Nat) (ih:Zaq v t n) (hT:Zw w v t) (hx:Qe w (n+1) x) (hl:x.ls.length=3) (hI:isP t n (l0 x)=true) (hI1:isP t n (l1 x)=true) (hI2:isP t n (l2 x)=true):
 Calls prog 150 #[.agg (v.cells t),.agg x.cells.toArray] w (ZhB (Zcj (ZF t n) t x) w):=by
 obtain⟨b0,o0,ha,hat,hat1,hat2,hi0,hi1,hi2⟩:=Zia hx (by omega)
 have HPP:Hid (∀(a:Act) (w':World),a.defers= []→Kept [] w w'→bodyPost prog Tryz.f150 (ZhB none w) (.panic QJ) a w'):=fun _ _ h1 h2=>ZcH h1 h2
 have HV:=hh (fun w' (hk:Kept [] w w')=>ih w' (l0 x) (hT.kept hk) (hi0.kept hk) hI)
 have HV1:=hh (fun w' (hk:Kept [] w w')=>ih w' (l1 x) (hT.kept hk) (hi1.kept hk) hI1)
 have HV2:=hh (fun w' (hk:Kept [] w w')=>ih w' (l2 x) (hT.kept hk) (hi2.kept hk) hI2)
 have HB1:=hh (fun z (h:ZF t n (l1 x)=some z)=>Zc6 hT.ll h)
 have HB2:=hh (fun z (h:ZF t n (l2 x)=some z)=>Zc6 hT.ll h)
 have HMK:=hh (fun w' (hk:Kept [] w w')=>Jp w' v t (l1 x) (hT.kept hk))
 have HM:Hid (Zcj (ZF t n) t x=match ZF t n (l0 x)with | none=>none | some z=>match ZF t n (l1 x)with | none=>none | some lo=>match ZF t n (l2 x)with | none=>none | some hi=>some (Zgd z lo hi)):=by
  have h2:¬x.ls.length=2:=by omega
  rw[Hid,Zcj]
  cases ZF t n (l0 x)with
  | none=>rfl
  | some z=>
   simp only[if_neg h2]
   rfl
 have q1:=hx.2.2.2.2.1
 have hl2:(0:Int) < (x.ls.length:Int):=by omega
 have hl3:(1:Int) < (x.ls.length:Int):=by omega
 have hl5:(2:Int) < (x.ls.length:Int):=by omega
 have hl4:((x.ls.length:Int) == 3)=true:=by simp;omega
 clear ih hT hx hl hI hi0 hi1 hI1 hI2 hi2
 unfold Zp.cells at*
 unfold pvV at HMK
 generalize ZF t n (l0 x)=o at*
 generalize ZF t n (l1 x)=o1 at*
 generalize ZF t n (l2 x)=o2 at*
 generalize l0 x=y at*
 generalize l1 x=z at*
 generalize l2 x=zz at*
 generalize Yr t z=mk at*
 go_enter func150,ntmps150
 go_wp2_with fail
 refine Ze 5 0 (fun _=> .cells #[] 0) (by kernel_rfl) (by kernel_rfl) (fun i o h1 h2=>by omega) (fun _ _ _ _ _ h=>h) ?_;apply Exists.intro;refine⟨fun U hU hN=>?_,?_⟩;simp only[List.take_succ_cons,List.take_zero]
 ·repeat(go_big_quiet_step (fail))
  refine wpQuiet_nil ?_
  exact rfl
 simp only[List.drop_succ_cons,List.drop_zero,List.take_succ_cons,List.take_zero]
 intro w4 hk4 _
 haveI p_w4:Zb w4 _:=⟨hk4⟩
 go_wp2_with fail
 cases o with
 | none=>
  have HW:Hid (Zcj (ZF t n) t x=none):=HM.out
  refine nxt (Calls.retP (HV.out _ kp) rfl) fun w5 p_w5=>?_;have hz_w5:=szk w w5
  show bodyPost _ _ _ (.panic QJ) _ _
  rw[HW.out]
  exact HPP.out _ _ rfl kp
 | some u=>
 refine nxt (Calls.retV (HV.out _ kp) rfl) fun w5 p_w5=>?_;have hz_w5:=szk w w5
 clear HV
 go_wp2_with fail
 refine Ze 10 2 (fun _=> .cells #[.int .i64 0,.int .i64 0] 150) (by kernel_rfl) (by kernel_rfl) (fun i o h1 h2 h3=>by obtain rfl | rfl:i=10∨i=11:=(by omega);all_goals(obtain rfl:=Option.some.inj h3;exact Zab rfl rfl Tryz.zeroBd)) (fun _ _ _ _ _ h=>h) ?_;apply Exists.intro;refine⟨fun U hU hN=>?_,?_⟩;simp only[List.take_succ_cons,List.take_zero]
 ·repeat(go_big_quiet_step (exact Calls.headV hU (HMK.out _ (Kept.trans kp (Zs.prop _)))))
  refine wpQuiet_nil ?_
  exact rfl
 simp only[List.drop_succ_cons,List.drop_zero,List.take_succ_cons,List.take_zero]
 intro B2 hB2 _ B3 hB3 hne w6 hk6 hh
 haveI p_w6:Zb w6 _:=⟨hk6⟩
 haveI bx2:Zc w6 B2 150 #[.int .i64 0,.int .i64 0]:=Q8 hh (by simp)
 haveI bx3:Zc w6 B3 150 #[.int .i64 0,.int .i64 0]:=Q8 hh (by simp)
 have hne2:=ZdW hne
 haveI ap1:Qf B2 B3:=⟨hne2⟩
 haveI ap2:Qf B3 B2:=⟨hne2.symm⟩
 haveI g2:Z2 B2 _:=⟨hB2⟩
 haveI g3:Z2 B3 _:=⟨hB3⟩
 have hz2:w.heap.size≤B2:=Nat.le_trans (Kept.size (X:=[]) kp) hB2
 have hz3:w.heap.size≤B3:=Nat.le_trans (Kept.size (X:=[]) kp) hB3
 clear hk6 hh hne HMK
 go_wp2_with fail
 refine Zm ?_
 intro w7 hw7
 haveI p_w7:Zb w7 _:=⟨by rw[hw7];exact Kept.setB (Kept.setB (Kept.setB (Kept.setB p_w6.kept _ _ _ hB2) _ _ _ hB2) _ _ _ hB3) _ _ _ hB3⟩
 haveI by2:Zc w7 B2 _ _:=by rw[hw7];infer_instance
 clear hw7 p_w6 bx2 bx3
 refine Ze 5 0 (fun _=> .cells #[] 0) (by kernel_rfl) (by kernel_rfl) (fun i o h1 h2=>by omega) (fun _ _ _ _ _ h=>h) ?_;apply Exists.intro;refine⟨fun U hU hN=>?_,?_⟩;simp only[List.take_succ_cons,List.take_zero]
 ·repeat(go_big_quiet_step (fail))
  refine wpQuiet_nil ?_
  exact rfl
 simp only[List.drop_succ_cons,List.drop_zero,List.take_succ_cons,List.take_zero]
 intro w8 hk8 _
 haveI p_w8:Zb w8 _:=⟨hk8⟩
 clear hk8
 go_wp2_with fail
 cases o1 with
 | none=>
  have HW:Hid (Zcj (ZF t n) t x=none):=HM.out
  refine nxt (Calls.retP (HV1.out _ kp) rfl) fun w9 p_w9=>?_;have hz_w9:=szk w w9
  show bodyPost _ _ _ (.panic QJ) _ _
  rw[HW.out]
  exact HPP.out _ _ rfl kp
 | some lo=>
 obtain⟨b1,b2⟩:=HB1.out lo rfl
 refine nxt (Calls.retV (HV1.out _ kp) rfl) fun w9 p_w9=>?_;have hz_w9:=szk w w9
 clear HV1 HB1
 go_wp2_with fail
 refine Zm ?_
 intro w10 hw10
 haveI p_w10:Zb w10 _:=⟨by rw[hw10];exact Kept.setB (Kept.trans p_w7.kept (Kept.trans p_w8.kept p_w9.kept)) _ _ _ hB2⟩
 haveI bz2:Zc w10 B2 _ _:=by rw[hw10];infer_instance
 clear hw10 p_w7 by2
 refine Ze 5 0 (fun _=> .cells #[] 0) (by kernel_rfl) (by kernel_rfl) (fun i o h1 h2=>by omega) (fun _ _ _ _ _ h=>h) ?_;apply Exists.intro;refine⟨fun U hU hN=>?_,?_⟩;simp only[List.take_succ_cons,List.take_zero]
 ·repeat(go_big_quiet_step (fail))
  refine wpQuiet_nil ?_
  exact rfl
 simp only[List.drop_succ_cons,List.drop_zero,List.take_succ_cons,List.take_zero]
 intro w11 hk11 _
 haveI p_w11:Zb w11 _:=⟨hk11⟩
 clear hk11
 go_wp2_with fail
 cases o2 with
 | none=>
  have HW:Hid (Zcj (ZF t n) t x=none):=HM.out
  refine nxt (Calls.retP (HV2.out _ kp) rfl) fun w12 p_w12=>?_;have hz_w12:=szk w w12
  show bodyPost _ _ _ (.panic QJ) _ _
  rw[HW.out]
  exact HPP.out _ _ rfl kp
 | some hi=>
 have HW:Hid (Zcj (ZF t n) t x=some (Zgd u lo hi)):=HM.out
 obtain⟨b3,b4⟩:=HB2.out hi rfl
 refine nxt (Calls.retV (HV2.out _ kp) rfl) fun w12 p_w12=>?_;have hz_w12:=szk w w12
 clear HV2 HB2
 by_cases c1:lo≤u
 ·by_cases c2:u≤hi
  ·have HE:Hid (Zgd u lo hi=true):=by rw[Hid,Zgd];simp[c1,c2]
   go_wp2_with fail
   rw[HW.out,HE.out]
   exact YL rfl (Zj results150 (Zh rfl)) kp
  ·have HE:Hid (Zgd u lo hi=false):=by rw[Hid,Zgd];simp[c2]
   have c3:decide (u≤hi)=false:=by simp;omega
   go_wp2_with fail
   rw[HW.out,HE.out]
   exact YL rfl (Zj results150 (Zh rfl)) kp
 ·have HE:Hid (Zgd u lo hi=false):=by rw[Hid,Zgd];simp[c1]
  go_wp2_with fail
  rw[HW.out,HE.out]
  exact YL rfl (Zj results150 (Zh rfl)) kp
theorem Zdi (w:World) (v:Zp) (t:Tab) (x:ExV) (n:Nat) (ih:Zaq v t n) (hT:Zw w v t) (hx:Qe w (n+1) x) (hI:inF (isP t n) t x=true):
 Calls prog 150 #[.agg (v.cells t),.agg x.cells.toArray] w (ZhB (Zcj (ZF t n) t x) w):=by
 unfold inF at hI
 split at hI
 ·rename_i y z hl
  simp only[Bool.and_eq_true]at hI
  have e0:l0 x=y:=by simp[l0,hl]
  have e1:l1 x=z:=by simp[l1,hl]
  cases hm:Jq t z with
  | none=>rw[hm]at hI;simp at hI
  | some r=>
   obtain⟨b,a⟩:=r
   exact ZgX w v t x n ih hT hx (by rw[hl];rfl) (by rw[e0];exact hI.2) b a (by rw[e1];exact hm)
 ·simp only[ZbQ,Bool.and_eq_true,decide_eq_true_eq,List.all_eq_true]at hI
  obtain⟨h1,h2⟩:=hI
  have e:=Zt2 (d:=(default:ExV)) h1
  have m0:l0 x∈x.ls:=by rw[e];simp[l0]
  have m1:l1 x∈x.ls:=by rw[e];simp[l1]
  have m2:l2 x∈x.ls:=by rw[e];simp[l2]
  exact ZgW w v t x n ih hT hx h1 (h2 _ m0) (h2 _ m1) (h2 _ m2)
@[go_sem] theorem Zt8 (w:World) (y:Zx):Sem.run prog (Instr.field 95 (.agg y.cells.toArray) 10) w= .ok (.int .i64 y.value) w:=by kernel_rfl
@[go_sem] theorem Zu1 (w:World) (y:Zx):Sem.run prog (Instr.field 95 (.agg y.cells.toArray) 5) w= .ok (.int .i64 y.sub) w:=by kernel_rfl
section
variable (w:World) (v:Zp) (t:Tab) (x:ExV) (n:Nat)
def YS:Prop:=Calls prog 82 #[.agg (v.cells t),.agg x.cells.toArray] w (Zjz (Qv (ZF t n) t x) w)
theorem Zp7 (hk:x.kind=1):YS w v t x n:=by
 unfold YS
 have HW:Hid (Qv (ZF t n) t x=some x.n):=by rw[Hid,Qv,if_pos hk]
 unfold Zp.cells
 go_enter func82,ntmps82
 go_wp2_with fail
 rw[HW.out]
 exact Zu rfl (Zj results82 (Zh rfl)) kp
theorem Zna (hT:Zw w v t) (hk:x.kind=3∨x.kind=4):YS w v t x n:=by
 unfold YS
 have HE:=hh (fun w' (hk:Kept [] w w')=>YK w' v t x (hT.kept hk))
 have HW:Hid (Qv (ZF t n) t x=some (Yn t x.ent).value):=by rw[Hid,Qv,if_neg (by rcases hk with h | h <;> simp[h]),if_pos hk]
 clear hT
 unfold Zp.cells at*
 unfold ZqQ at HE
 rcases hk with hk | hk
 all_goals
  go_enter func82,ntmps82
  go_wp2_with fail
  refine nxt (HE.out _ kp) fun w2 p_w2=>?_;have hz_w2:=szk w w2
  go_wp2_with fail
  rw[HW.out]
  exact Zu rfl (Zj results82 (Zh rfl)) kp
theorem Zp6 (ih:Zaq v t n) (hT:Zw w v t) (hx:Qe w (n+1) x) (hI:inF (isP t n) t x=true) (hk:x.kind=14):YS w v t x n:=by
 unfold YS
 have HM:=hh (fun w' (hk:Kept [] w w')=>Zdi w' v t x n ih (hT.kept hk) (hx.kept hk) hI)
 have HW0:Hid (Qv (ZF t n) t x=(Zcj (ZF t n) t x).map fun b=>ZT (!b)):=by rw[Hid,Qv];simp[hk]
 clear hT hx ih hI
 unfold Zp.cells at*
 go_enter func82,ntmps82
 go_wp2_with fail
 cases hm:Zcj (ZF t n) t x with
 | none=>
  have HW:Hid (Qv (ZF t n) t x=none):=by rw[Hid,HW0.out,hm];rfl
  rw[hm]at HM
  refine nxt (show Calls _ _ _ _ (Zre _)from HM.out _ kp) fun w2 p_w2=>?_;have hz_w2:=szk w w2
  show bodyPost _ _ _ (.panic QJ) _ _
  rw[HW.out]
  exact ZA rfl kp
 | some b=>
  have HW:Hid (Qv (ZF t n) t x=some (ZT (!b))):=by rw[Hid,HW0.out,hm];rfl
  rw[hm]at HM
  refine nxt (show Calls _ _ _ _ (ZE (.bool b) _)from HM.out _ kp) fun w2 p_w2=>?_;have hz_w2:=szk w w2
  clear HM
  go_wp2_with fail
  refine nxt (Q4 _ _) fun w3 p_w3=>?_;have hz_w3:=szk w w3
  go_wp2_with fail
  rw[HW.out]
  exact Zu rfl (Zj results82 (Zh rfl)) kp
theorem Zr2 (ih:Zaq v t n) (hT:Zw w v t) (hx:Qe w (n+1) x) (hI:inF (isP t n) t x=true) (hk:x.kind=13):YS w v t x n:=by
 unfold YS
 have HM:=hh (fun w' (hk:Kept [] w w')=>Zdi w' v t x n ih (hT.kept hk) (hx.kept hk) hI)
 have HW0:Hid (Qv (ZF t n) t x=(Zcj (ZF t n) t x).map ZT):=by rw[Hid,Qv];simp[hk]
 clear hT hx ih hI
 unfold Zp.cells at*
 go_enter func82,ntmps82
 go_wp2_with fail
 cases hm:Zcj (ZF t n) t x with
 | none=>
  have HW:Hid (Qv (ZF t n) t x=none):=by rw[Hid,HW0.out,hm];rfl
  rw[hm]at HM
  refine nxt (show Calls _ _ _ _ (Zre _)from HM.out _ kp) fun w2 p_w2=>?_;have hz_w2:=szk w w2
  show bodyPost _ _ _ (.panic QJ) _ _
  rw[HW.out]
  exact ZA rfl kp
 | some b=>
  have HW:Hid (Qv (ZF t n) t x=some (ZT b)):=by rw[Hid,HW0.out,hm];rfl
  rw[hm]at HM
  refine nxt (show Calls _ _ _ _ (ZE (.bool b) _)from HM.out _ kp) fun w2 p_w2=>?_;have hz_w2:=szk w w2
  clear HM
  go_wp2_with fail
  refine nxt (Q4 _ _) fun w3 p_w3=>?_;have hz_w3:=szk w w3
  go_wp2_with fail
  rw[HW.out]
  exact Zu rfl (Zj results82 (Zh rfl)) kp
theorem Zl8 {I:ExV→Bool} {l:List ExV} {m:Nat} (h:ZbQ I l m=true):l.length=m∧∀y,y∈l→I y=true:=by
 simpa [ZbQ]using h
theorem ZiX {x:ExV} {j:Nat} (h:j < x.ls.length):x.ls.getD j default∈x.ls:=by
 simp[List.getD_eq_getElem?_getD,h]
theorem Znb (ih:Zaq v t n) (hT:Zw w v t) (hx:Qe w (n+1) x) (hI:ZbQ (isP t n) x.ls 1=true) (hk:x.kind=11):YS w v t x n:=by
 unfold YS
 obtain⟨hl,hI⟩:=Zl8 hI
 have HM:=hh (fun w' (hk:Kept [] w w')=>ZgU w' v t x n ih (hT.kept hk) (hx.kept hk) hl (hI _ (ZiX (by omega))))
 have HW0:Hid (Qv (ZF t n) t x=ZgV (ZF t n) x):=by rw[Hid,Qv];simp[hk]
 clear hT hx ih hI
 unfold Zp.cells at*
 go_enter func82,ntmps82
 go_wp2_with fail
 cases hm:ZgV (ZF t n) x with
 | none=>
  have HW:Hid (Qv (ZF t n) t x=none):=by rw[Hid,HW0.out,hm]
  rw[hm]at HM
  refine nxt (Calls.retP (HM.out _ kp) rfl) fun w2 p_w2=>?_;have hz_w2:=szk w w2
  show bodyPost _ _ _ (.panic QJ) _ _
  rw[HW.out]
  exact ZA rfl kp
 | some b=>
  have HW:Hid (Qv (ZF t n) t x=some b):=by rw[Hid,HW0.out,hm]
  rw[hm]at HM
  refine nxt (Calls.retV (HM.out _ kp) rfl) fun w2 p_w2=>?_;have hz_w2:=szk w w2
  clear HM
  go_wp2_with fail
  rw[HW.out]
  exact Zu rfl (Zj results82 (Zh rfl)) kp
theorem Zr3 (ih:Zaq v t n) (hT:Zw w v t) (hx:Qe w (n+1) x) (hI:ZbQ (isP t n) x.ls 3=true) (hk:x.kind=10):YS w v t x n:=by
 unfold YS
 obtain⟨hl,hI⟩:=Zl8 hI
 obtain⟨b0,o0,ha,hat,hat1,hat2,hi0,hi1,hi2⟩:=Zia hx (by omega)
 have HV:=hh (fun w' (hk:Kept [] w w')=>ih w' (l0 x) (hT.kept hk) (hi0.kept hk) (hI _ (ZiX (by omega))))
 have HV1:=hh (fun w' (hk:Kept [] w w')=>ih w' (l1 x) (hT.kept hk) (hi1.kept hk) (hI _ (ZiX (by omega))))
 have HV2:=hh (fun w' (hk:Kept [] w w')=>ih w' (l2 x) (hT.kept hk) (hi2.kept hk) (hI _ (ZiX (by omega))))
 have HW0:Hid (Qv (ZF t n) t x=match ZF t n (l0 x)with | none=>none | some a=>if a=1 then ZF t n (l1 x)else ZF t n (l2 x)):=by rw[Hid,Qv];simp[hk];rfl
 have q1:=hx.2.2.2.2.1
 have hl2:(0:Int) < (x.ls.length:Int):=by omega
 have hl3:(1:Int) < (x.ls.length:Int):=by omega
 have hl5:(2:Int) < (x.ls.length:Int):=by omega
 clear ih hT hx hl hI hi0 hi1 hi2
 unfold Zp.cells at*
 generalize ZF t n (l0 x)=o at*
 generalize ZF t n (l1 x)=o1 at*
 generalize ZF t n (l2 x)=o2 at*
 generalize l0 x=y at*
 generalize l1 x=z at*
 generalize l2 x=zz at*
 go_enter func82,ntmps82
 go_wp2_with fail
 refine Zy [0,1,2,3,4] [5,6] (by kernel_rfl) (by kernel_rfl) (fun _ _ _ _ _ h=>h) ?_;apply Exists.intro;refine⟨fun U hU hN=>?_,?_⟩;simp only[ZW,List.flatMap_cons,List.flatMap_nil,List.getElem?_cons_zero,List.getElem?_cons_succ,Option.toList_some,List.cons_append,List.nil_append]
 ·repeat(go_big_quiet_step (fail))
  refine wpQuiet_nil ?_
  exact rfl
 simp only[ZW,List.flatMap_cons,List.flatMap_nil,List.getElem?_cons_zero,List.getElem?_cons_succ,Option.toList_some,List.cons_append,List.nil_append]
 intro w4 hk4
 haveI p_w4:Zb w4 _:=⟨hk4⟩
 go_wp2_with fail
 cases o with
 | none=>
  have HW:Hid (Qv (ZF t n) t x=none):=HW0.out
  refine nxt (Calls.retP (HV.out _ kp) rfl) fun w5 p_w5=>?_;have hz_w5:=szk w w5
  show bodyPost _ _ _ (.panic QJ) _ _
  rw[HW.out]
  exact ZA rfl kp
 | some a=>
 have HW1:Hid (Qv (ZF t n) t x=if a=1 then o1 else o2):=HW0.out
 refine nxt (Calls.retV (HV.out _ kp) rfl) fun w5 p_w5=>?_;have hz_w5:=szk w w5
 clear HV HW0
 by_cases c:a=1
 ·have HW:Hid (Qv (ZF t n) t x=o1):=by rw[Hid,HW1.out,if_pos c]
  clear HV2 HW1
  go_wp2_with fail
  refine Zy [0,1,2,3,4] [5,6] (by kernel_rfl) (by kernel_rfl) (fun _ _ _ _ _ h=>h) ?_;apply Exists.intro;refine⟨fun U hU hN=>?_,?_⟩;simp only[ZW,List.flatMap_cons,List.flatMap_nil,List.getElem?_cons_zero,List.getElem?_cons_succ,Option.toList_some,List.cons_append,List.nil_append]
  ·repeat(go_big_quiet_step (fail))
   refine wpQuiet_nil ?_
   exact rfl
  simp only[ZW,List.flatMap_cons,List.flatMap_nil,List.getElem?_cons_zero,List.getElem?_cons_succ,Option.toList_some,List.cons_append,List.nil_append]
  intro w6 hk6
  haveI p_w6:Zb w6 _:=⟨hk6⟩
  go_wp2_with fail
  cases o1 with
  | none=>
   refine nxt (Calls.retP (HV1.out _ kp) rfl) fun w7 p_w7=>?_;have hz_w7:=szk w w7
   show bodyPost _ _ _ (.panic QJ) _ _
   rw[HW.out]
   exact ZA rfl kp
  | some b=>
   refine nxt (Calls.retV (HV1.out _ kp) rfl) fun w7 p_w7=>?_;have hz_w7:=szk w w7
   go_wp2_with fail
   rw[HW.out]
   exact Zu rfl (Zj results82 (Zh rfl)) kp
 ·have HW:Hid (Qv (ZF t n) t x=o2):=by rw[Hid,HW1.out,if_neg c]
  have c2:(a == 1)=false:=by simp[c]
  clear HV1 HW1
  go_wp2_with fail
  refine Zy [0,1,2,3,4] [5,6] (by kernel_rfl) (by kernel_rfl) (fun _ _ _ _ _ h=>h) ?_;apply Exists.intro;refine⟨fun U hU hN=>?_,?_⟩;simp only[ZW,List.flatMap_cons,List.flatMap_nil,List.getElem?_cons_zero,List.getElem?_cons_succ,Option.toList_some,List.cons_append,List.nil_append]
  ·repeat(go_big_quiet_step (fail))
   refine wpQuiet_nil ?_
   exact rfl
  simp only[ZW,List.flatMap_cons,List.flatMap_nil,List.getElem?_cons_zero,List.getElem?_cons_succ,Option.toList_some,List.cons_append,List.nil_append]
  intro w6 hk6
  haveI p_w6:Zb w6 _:=⟨hk6⟩
  go_wp2_with fail
  cases o2 with
  | none=>
   refine nxt (Calls.retP (HV2.out _ kp) rfl) fun w7 p_w7=>?_;have hz_w7:=szk w w7
   show bodyPost _ _ _ (.panic QJ) _ _
   rw[HW.out]
   exact ZA rfl kp
  | some b=>
   refine nxt (Calls.retV (HV2.out _ kp) rfl) fun w7 p_w7=>?_;have hz_w7:=szk w w7
   go_wp2_with fail
   rw[HW.out]
   exact Zu rfl (Zj results82 (Zh rfl)) kp
end
end
end Go.Proofs.YtfaecpkocgcofaaGreatDoor
