/- Lemmas for ResolveSettles, printed small: K1 P0 K2 K4 K6 K7. -/
import Derived.Test.YtfaecpkocgcofaaGreatDoorZ0
import Derived.Test.YtfaecpkocgcofaaGreatDoorProg
import Derived.Deep.WholeRow
import Derived.BigQuiet
set_option linter.all false
set_option maxRecDepth 100000
set_option maxHeartbeats 8000000
open Go.Proofs.Tryz
namespace Go.Proofs.YtfaecpkocgcofaaGreatDoor
section
open Go.RowKit
inductive ExV where
 | mk (kind oper n:Int) (s:ByteArray) (la:Option Addr) (lc:Nat) (ls:List ExV) (aa:Option Addr) (ac:Nat) (al:List (Option Addr×List (Int×Option Addr×Nat×List ExV)×Nat×ExV)) (line ent t:Int)
deriving Inhabited
abbrev ChV:=Int×Option Addr×Nat×List ExV
abbrev AsV:=Option Addr×List ChV×Nat×ExV
namespace ExV
def kind:ExV→Int | .mk k .. =>k
def oper:ExV→Int | .mk _ o .. =>o
def n:ExV→Int | .mk _ _ n .. =>n
def s:ExV→ByteArray | .mk _ _ _ s .. =>s
def la:ExV→Option Addr | .mk _ _ _ _ a .. =>a
def lc:ExV→Nat | .mk _ _ _ _ _ c .. =>c
def ls:ExV→List ExV | .mk _ _ _ _ _ _ l .. =>l
def aa:ExV→Option Addr | .mk _ _ _ _ _ _ _ a .. =>a
def ac:ExV→Nat | .mk _ _ _ _ _ _ _ _ c .. =>c
def al:ExV→List AsV | .mk _ _ _ _ _ _ _ _ _ l .. =>l
def line:ExV→Int | .mk _ _ _ _ _ _ _ _ _ _ l .. =>l
def ent:ExV→Int | .mk _ _ _ _ _ _ _ _ _ _ _ e _=>e
def t:ExV→Int | .mk _ _ _ _ _ _ _ _ _ _ _ _ t=>t
def cells (x:ExV):List Value:=[.int .u8 x.kind,.int .u8 x.oper,.int .i64 x.n,.string x.s,.slice x.la x.ls.length x.lc,.slice x.aa x.al.length x.ac,.int .i64 x.line,.int .i64 x.ent,.int .i64 x.t]
end ExV
def ChV.cells (x:ChV):List Value:=[.int .u8 x.1,.slice x.2.1 x.2.2.2.length x.2.2.1]
def AsV.cells (x:AsV):List Value:= .slice x.1 x.2.1.length x.2.2.1::x.2.2.2.cells
@[go_sem] theorem ExV.len (x:ExV):x.cells.length=9:=rfl
theorem AsV.len (x:AsV):(AsV.cells x).length=10:=rfl
theorem ChV.len (x:ChV):(ChV.cells x).length=2:=rfl
theorem ExV.one (x:ExV):x.cells.toArray.all (·.oneCell')=true:=by simp[ExV.cells,Value.oneCell']
def Qe (w:World):Nat→ExV→Prop
 | 0,_=>False
 | n+1,x=>Zo ExV 9 ExV.cells w x.la x.ls∧(∀y,y∈x.ls→Qe w n y)∧Zo AsV 10 AsV.cells w x.aa x.al∧(∀y,y∈x.al→Qe w n y.2.2.2)∧
  x.ls.length≤140737488355328∧x.al.length≤140737488355328∧ -9223372036854775808≤x.n∧x.n≤9223372036854775807∧
  (∀y,y∈x.al→Zo ChV 2 ChV.cells w y.1 y.2.1∧y.2.1.length≤140737488355328∧∀c,c∈y.2.1→Zo ExV 9 ExV.cells w c.2.1 c.2.2.2∧c.2.2.2.length≤140737488355328∧∀z,z∈c.2.2.2→Qe w n z)
theorem Qe.kept {w w':World} (hk:Kept [] w w'):∀{n:Nat} {x:ExV},Qe w n x→Qe w' n x
 | 0,_,h=>h
 | _+1,_,⟨h1,h2,h3,h4,h5,h6,h7,h8,h9⟩=>⟨h1.kept hk,fun y hy=>(h2 y hy).kept hk,h3.kept hk,fun y hy=>(h4 y hy).kept hk,h5,h6,h7,h8,fun y hy=>
  ⟨(h9 y hy).1.kept hk,(h9 y hy).2.1,fun c hc=>⟨((h9 y hy).2.2 c hc).1.kept hk,((h9 y hy).2.2 c hc).2.1,fun z hz=>(((h9 y hy).2.2 c hc).2.2 z hz).kept hk⟩⟩⟩
theorem Qe.mono {w:World}:∀{n m:Nat} {x:ExV},n≤m→Qe w n x→Qe w m x
 | 0,_,_,_,h=>h.elim
 | n+1,0,_,hle,_=>absurd hle (by omega)
 | n+1,m+1,_,hle,⟨h1,h2,h3,h4,h5,h6,h7,h8,h9⟩=>⟨h1,fun y hy=>(h2 y hy).mono (by omega),h3,fun y hy=>(h4 y hy).mono (by omega),h5,h6,h7,h8,fun y hy=>
  ⟨(h9 y hy).1,(h9 y hy).2.1,fun c hc=>⟨((h9 y hy).2.2 c hc).1,((h9 y hy).2.2 c hc).2.1,fun z hz=>(((h9 y hy).2.2 c hc).2.2 z hz).mono (by omega)⟩⟩⟩
structure Zd where
 name:ByteArray
 mode:Int
 sub:Int
 d:ExV
 ent:Int
deriving Inhabited
structure Zx where
 kind:Int
 name:ByteArray
 owner:Int
 part:Int
 t:Int
 sub:Int
 pa:Option Addr
 pc:Nat
 params:List Zd
 of_:Int
 ren:Bool
 level:Int
 value:Int
 static:Bool
 aliased:Bool
 mode:Int
 a0:Int
 a1:Int
 a2:Int
 generic:Bool
 body:Bool
 final:Int
 unit:Int
 line:Int
deriving Inhabited
structure ZL where
 t:Int
 lo:Int
 hi:Int
deriving Inhabited
structure Zmn where
 name:ByteArray
 sub:Int
 has:Bool
 deflt:Int
 variant:Bool
 wa:Option Addr
 wc:Nat
 whens:List Int
deriving Inhabited
structure TyV where
 kind:Int
 name:ByteArray
 parent:Int
 first:Int
 la:Option Addr
 lc:Nat
 lits:List ByteArray
 index:Int
 elem:Int
 disc:Int
 discName:ByteArray
 has:Bool
 deflt:Int
 ca:Option Addr
 cc:Nat
 comps:List Zmn
 target:Int
 formal:Int
 limited:Bool
 priv:Int
 full:Int
 level:Int
deriving Inhabited
structure Tab where
 types:List TyV
 subs:List ZL
 ents:List Zx
def Zd.cells (x:Zd):List Value:= .string x.name:: .int .u8 x.mode:: .int .i64 x.sub::(x.d.cells++ [.int .i64 x.ent])
def Zx.cells (x:Zx):List Value:=[.int .u8 x.kind,.string x.name,.int .i64 x.owner,.int .u8 x.part,.int .i64 x.t,.int .i64 x.sub,.slice x.pa x.params.length x.pc,.int .i64 x.of_,.bool x.ren,.int .i64 x.level,.int .i64 x.value,.bool x.static,.bool x.aliased,.int .u8 x.mode,.int .i64 x.a0,.int .i64 x.a1,.int .i64 x.a2,.bool x.generic,.bool x.body,.int .i64 x.final,.int .i64 x.unit,.int .i64 x.line]
def ZL.cells (x:ZL):List Value:=[.int .i64 x.t,.int .i64 x.lo,.int .i64 x.hi]
def Zmn.cells (x:Zmn):List Value:=[.string x.name,.int .i64 x.sub,.bool x.has,.int .i64 x.deflt,.bool x.variant,.slice x.wa x.whens.length x.wc]
def TyV.cells (x:TyV):List Value:=[.int .u8 x.kind,.string x.name,.int .i64 x.parent,.int .i64 x.first,.slice x.la x.lits.length x.lc,.int .i64 x.index,.int .i64 x.elem,.int .i64 x.disc,.string x.discName,.bool x.has,.int .i64 x.deflt,.slice x.ca x.comps.length x.cc,.int .i64 x.target,.int .u8 x.formal,.bool x.limited,.int .i64 x.priv,.int .i64 x.full,.int .i64 x.level]
def Yu:Zx:=⟨0,⟨#[]⟩,0,0,0,0,none,0,[],0,false,0,0,false,false,0,0,0,0,false,false,0,0,0⟩
structure Zp where
 ta:Option Addr
 tc:Nat
 sa:Option Addr
 sc:Nat
 ea:Option Addr
 ec:Nat
 ga:Option Addr
 gn:Nat
 gc:Nat
 ia:Option Addr
 im:Nat
 ic:Nat
def Zp.cells (v:Zp) (t:Tab):Array Value:=#[.slice v.ta t.types.length v.tc,.slice v.sa t.subs.length v.sc,.slice v.ea t.ents.length v.ec,.slice v.ga v.gn v.gc,.slice v.ia v.im v.ic]
structure Zx.Ok (x:Zx):Prop where
 p1:x.params.length≤x.pc
 p2:x.pc≤9223372036854775807
 p3:x.pa=none→x.pc=0
 p4:x.params.length≤140737488355328
 s4:x.name.size≤140737488355328
structure Zw (w:World) (v:Zp) (t:Tab):Prop where
 es:Zo Zx 22 Zx.cells w v.ea t.ents
 ss:Zo ZL 3 ZL.cells w v.sa t.subs
 ts:Zo TyV 18 TyV.cells w v.ta t.types
 el:t.ents.length≤140737488355328
 sl:t.subs.length≤140737488355328
 tl:t.types.length≤140737488355328
 ll:∀y,y∈t.types→y.lits.length≤140737488355328
 sb:∀s,s∈t.subs→(-9223372036854775808≤s.lo∧s.lo≤9223372036854775807)∧(-9223372036854775808≤s.hi∧s.hi≤9223372036854775807)
 eb:∀x,x∈t.ents→ -9223372036854775808≤x.value∧x.value≤9223372036854775807
 ps:∀x,x∈t.ents→Zo Zd 13 Zd.cells w x.pa x.params
 ok:∀x,x∈t.ents→x.Ok
 elc:t.ents.length≤v.ec
 em:v.ec≤9223372036854775807
 e0:v.ea=none→v.ec=0
 slc:t.subs.length≤v.sc
 sm:v.sc≤9223372036854775807
 tlc:t.types.length≤v.tc
 tm:v.tc≤9223372036854775807
 sm5:t.ents.length≤5000∧t.types.length≤5000∧t.subs.length≤5000
 pl:∀x,x∈t.ents→x.params.length≤5000
 ow:∀x,x∈t.ents→(Lit.int .i64 x.owner).wf=true
 df:∀x,x∈t.ents→∀p,p∈x.params→∃n,Qe w n p.d
 cs:∀y,y∈t.types→Zo Zmn 6 Zmn.cells w y.ca y.comps∧y.comps.length≤140737488355328
 ws:∀y,y∈t.types→∀c,c∈y.comps→ZM w c.wa c.whens∧c.whens.length≤140737488355328
theorem Zw.kept {w w':World} {v:Zp} {t:Tab} (h:Zw w v t) (hk:Kept [] w w'):Zw w' v t:=
 ⟨h.es.kept hk,h.ss.kept hk,h.ts.kept hk,h.el,h.sl,h.tl,h.ll,h.sb,h.eb,fun x hx=>(h.ps x hx).kept hk,h.ok,h.elc,h.em,h.e0,h.slc,h.sm,h.tlc,h.tm,h.sm5,h.pl,h.ow,
  fun x hx p hp=>(h.df x hx p hp).imp fun _ h=>h.kept hk,fun y hy=>⟨(h.cs y hy).1.kept hk,(h.cs y hy).2⟩,fun y hy c hc=>⟨(h.ws y hy c hc).1.kept hk,(h.ws y hy c hc).2⟩⟩
structure WhV where
 region:Int
 after:Int
 ua:Option Addr
 uc:Nat
 units:List Int
 sa:Option Addr
 sc:Nat
 uses:List Int
def WhV.cells (h:WhV):List Value:=[.int .i64 h.region,.int .i64 h.after,.slice h.ua h.units.length h.uc,.slice h.sa h.uses.length h.sc]
structure ZmB (w:World) (h:WhV):Prop where
 u:ZM w h.ua h.units
 u1:h.units.length≤h.uc
 u2:h.uc≤9223372036854775807
 s:ZM w h.sa h.uses
 s1:h.uses.length≤h.sc
 s2:h.sc≤9223372036854775807
 us5:h.units.length≤5000∧h.uses.length≤5000
theorem ZmB.kept {w w':World} {h:WhV} (hh:ZmB w h) (hk:Kept [] w w'):ZmB w' h:=⟨hh.u.kept hk,hh.u1,hh.u2,hh.s.kept hk,hh.s1,hh.s2,hh.us5⟩
@[go_sem] theorem Zx.len (x:Zx):x.cells.length=22:=rfl
@[go_sem] theorem Zd.len (x:Zd):x.cells.length=13:=rfl
theorem ZL.len (x:ZL):x.cells.length=3:=rfl
theorem Zx.one (x:Zx):x.cells.toArray.all (·.oneCell')=true:=by simp[Zx.cells,Value.oneCell']
theorem Zd.one (x:Zd):x.cells.toArray.all (·.oneCell')=true:=by simp[Zd.cells,ExV.cells,Value.oneCell']
theorem Tryz.infoEnt (x:Zx):(prog.info? 95).map (·.size)=some x.cells.length:=by
 show _=some 22
 kernel_rfl
theorem Tryz.infoPar (x:Zd):(prog.info? 98).map (·.size)=some x.cells.length:=by
 show _=some 13
 kernel_rfl
theorem ZY {P:Program} {ops:Array Oper} {rest:List Oper} {op:Oper} {a:Act} {w:World} {Q:Exit→Act→World→Prop} (hgd:op.guard=none) (ty:TypeId) (x y:Operand) (ho:op.op= .store ty x y)
 (c c':Array Value) (k:Nat) (hx:a.eval x= .pointer (some ⟨k,0,none⟩)) (hk:k=w.heap.size) (hy:a.eval y= .agg c')
 (hi:(P.info? ty).map (·.size)=some c'.size) (hc:c.size=c'.size) (h1:c'.all (·.oneCell')=true)
 (h:wpList P ops Q rest (a.put op.dst undef) (w.alloc (.cells c' ty))):wpList P ops Q (op::rest) a (w.alloc (.cells c ty)):=
 wpList_plain hgd fun _ hK=>by
  subst hk
  unfold Oper.wp execOp
  simp only[ho,hx,hy,Sem.run_bind,run_storeAt_new w ty c c' hi hc h1,Result.andThen_ok,Sem.run_pure]
  exact hK _ _ h
theorem Kept.setRow {X:List Nat} (w:World) (g:Nat) (cs:Array Value) (h:g∈X):Kept X w (w.setRow g cs):=
 ⟨rfl,rfl,rfl,by simp,fun i hi hx=>by
  have:g≠i:=fun e=>hx (e▸h)
  simp[World.setRow,Array.getElem?_modify,this]⟩
theorem QQ {P:Program} {ops:Array Oper} {rest:List Oper} {op:Oper} {a:Act} {w:World} {Q:Exit→Act→World→Prop} (hgd:op.guard=none) (ty:TypeId) (x y:Operand) (ho:op.op= .store ty x y)
 (B:Nat) (c c':Array Value) (hx:a.eval x= .pointer (some ⟨B,0,none⟩)) (hb:w.heap[B]? =some (.cells c ty (0,0))) (hy:a.eval y= .agg c')
 (hi:(P.info? ty).map (·.size)=some c'.size) (hc:c.size=c'.size) (h1:c'.all (·.oneCell')=true)
 (h:∀w',w'.heap[B]? =some (.cells c' ty (0,0))→Kept [B] w w'→wpList P ops Q rest (a.put op.dst undef) w'):wpList P ops Q (op::rest) a w:=
 wpList_plain hgd fun _ hK=>by
  unfold Oper.wp execOp
  simp only[ho,hx,hy,Instr.storeAt,Instr.sureAddr,Sem.run_bind,Sem.run_pure,Result.andThen_ok,run_storeVar_row w B ty ty c c' hb hi hc h1]
  exact hK _ _ (h _ (setRow_heap _ _ _ _ _ _ hb) (Kept.setRow _ _ _ (by simp)))
theorem QE {P:Program} {ops:Array Oper} {rest:List Oper} {op:Oper} {a:Act} {w:World} {Q:Exit→Act→World→Prop} (ty:TypeId) (x:Operand) (ho:op.op= .load ty x)
 (hw:Region.wanted op (yielded ops a.tmps)=true)
 (b o:Nat) (hx:a.eval x= .pointer (some ⟨b,o,none⟩)) (cs:List Value) (d:TypeDesc) (hc:w.rangeAt b o cs)
 (hu:P.underlying ty=some d) (hd:d.isRow=true) (hi:(P.info? ty).map (·.size)=some cs.length)
 (h:wpList P ops Q rest (a.put op.dst (.agg cs.toArray)) w):wpList P ops Q (op::rest) a w:=
 wpList_step fun _ hK=>by
  simp only[hw,if_true]
  exact wp_load_mid ty x ho b o hx cs d hc hu hd hi (hK _ _ h)
@[go_sem high] theorem Tryz.storeEnt (x:Zx) (w:World) (k:Nat) (hk:k=w.heap.size):Sem.run prog (storeCells ⟨k,0,none⟩ x.cells)
 (w.alloc (.cells #[.int .u8 0,.string ⟨#[]⟩,.int .i64 0,.int .u8 0,.int .i64 0,.int .i64 0,.slice none 0 0,.int .i64 0,.bool false,.int .i64 0,.int .i64 0,.bool false,.bool false,.int .u8 0,.int .i64 0,.int .i64 0,.int .i64 0,.bool false,.bool false,.int .i64 0,.int .i64 0,.int .i64 0] 95))= .ok () (w.alloc (.cells x.cells.toArray 95)):=by
 subst hk
 exact run_storeCells_new w 95 _ x.cells.toArray (by simpa using Tryz.infoEnt x) (by simp[Zx.cells]) x.one
abbrev Bd:=Int×Int
def ZU (t:Tab) (ty:Int):Option Bd:=
 if ty < 0∨(t.types.length:Int)≤ty then none else
  let y:=t.types.getD ty.toNat default
  if y.kind=1 then some (-4611686018427387904,4611686018427387904)
  else if y.formal≠0 then none
  else if y.kind=2 then some (-2147483648,2147483647)
  else if y.kind=3 then some (0,(y.lits.length:Int) - 1)
  else none
def tyP (t:Tab) (sub:Int):Option (TyV×ZL):=
 if sub < 0∨(t.subs.length:Int)≤sub then none else
  let s:=t.subs.getD sub.toNat default
  if s.t < 0∨(t.types.length:Int)≤s.t then none else some (t.types.getD s.t.toNat default,s)
def Zi0 (t:Tab) (sub:Int):Int:=match tyP t sub with | some (y,_)=>y.kind | none=>0
def Zc8 (t:Tab) (sub:Int):ZL:=t.subs.getD sub.toNat default
def Yp (t:Tab) (sub:Int):Option Bd:=
 if Zi0 t sub=2∨Zi0 t sub=3 then some ((Zc8 t sub).lo,(Zc8 t sub).hi)else none
def JB (t:Tab) (sub:Int):Option (Bd×Bd):=
 match Yp t sub with
 | none=>none
 | some b=>match ZU t (Zc8 t sub).t with | none=>none | some a=>some (b,a)
def Yn (t:Tab) (e:Int):Zx:=if e < 0∨(t.ents.length:Int)≤e then Yu else t.ents.getD e.toNat default
def Yz (x:ExV):Bool:=x.kind == 3 || x.kind == 4
def Yo (x:Zx):Bool:=x.kind == 5 || x.kind == 6
def Zmq (x:Zx):Bool:=x.kind == 7 || x.kind == 8 || x.kind == 15
def Jq (t:Tab) (x:ExV):Option (Bd×Bd):=if Yz x && Yo (Yn t x.ent)then JB t (Yn t x.ent).sub else none
def JM (t:Tab) (x:ExV):Option Bd:=
 let e:=Yn t x.ent
 if Yz x && (Yo e || Zmq e)then
  match tyP t e.sub with
  | none=>none
  | some (y,_)=>if y.kind=4 then match JB t y.index with | none=>none | some (b,_)=>if b.1≤b.2 then some b else none else none
 else none
def Zaw:ByteArray:=⟨#[70,105,114,115,116]⟩
def ZdM:ByteArray:=⟨#[76,97,115,116]⟩
def ZgH:ByteArray:=⟨#[76,101,110,103,116,104]⟩
def Zs4:ByteArray:=⟨#[80,111,115]⟩
def Zs3:ByteArray:=⟨#[86,97,108]⟩
def ZmZ:ByteArray:=⟨#[83,117,99,99]⟩
def Zm0:ByteArray:=⟨#[80,114,101,100]⟩
def ZbC (t:Tab) (x:ExV):Option Bd:=
 match x.ls with
 | [y]=>
  match JM t y with
  | some b=>if x.s=Zaw∨x.s=ZdM∨x.s=ZgH then some b else none
  | none=>match Jq t y with
   | some (b,_)=>if x.s=Zaw∨x.s=ZdM then some b else none
   | none=>none
 | _=>none
def Ze8 (s:ByteArray):Option (Int×Bool):=
 if s=Zs4 then some (0,false)else if s=Zs3 then some (0,true)else if s=ZmZ then some (1,true)else if s=Zm0 then some (-1,true)else none
def Q9 (t:Tab) (x:ExV):Option ((Int×Bool)×Bd):=
 match x.ls with
 | p::_=>match Ze8 p.s with
  | none=>none
  | some s=>if p.kind=6 then match p.ls with
   | [q]=>match Jq t q with | none=>none | some (_,a)=>some (s,a)
   | _=>none
   else none
 | []=>none
def ZaS (I:ExV→Bool) (t:Tab) (x:ExV):Bool:=
 match x.ls,x.al with
 | [_],[a]=>I a.2.2.2 && ((Q9 t x).isSome || Yo (Yn t x.ent) && (JB t (Yn t x.ent).sub).isSome)
 | _,_=>false
def ZbQ (I:ExV→Bool) (l:List ExV) (n:Nat):Bool:=decide (l.length=n) && l.all I
def inF (I:ExV→Bool) (t:Tab) (x:ExV):Bool:=
 match x.ls with
 | [y,z]=>(Jq t z).isSome && I y
 | _=>ZbQ I x.ls 3
def Zcb (I:ExV→Bool) (t:Tab) (x:ExV):Bool:=
 match x.ls with
 | [y,z]=>(Jq t y).isSome && I z
 | _=>false
def isF (I:ExV→Bool) (t:Tab) (x:ExV):Bool:=
 (ZU t x.t).isSome &&
  (
   if x.kind=1 then true
   else if x.kind=3∨x.kind=4 then((Yn t x.ent).kind == 9 || (Yn t x.ent).kind == 10 || (Yn t x.ent).kind == 8 && (Yn t x.ent).static)
   else if x.kind=6 then(ZbC t x).isSome
   else if x.kind=7 then ZaS I t x
   else if x.kind=8 then Zcb I t x
   else if x.kind=10 then ZbQ I x.ls 3
   else if x.kind=11 then decide (18≤x.oper∧x.oper≤21) && ZbQ I x.ls 1
   else if x.kind=12 then decide (1≤x.oper∧x.oper≤17) && ZbQ I x.ls 2
   else if x.kind=13∨x.kind=14 then inF I t x
   else false)
def isP (t:Tab):Nat→ExV→Bool
 | 0,_=>false
 | n+1,x=>isF (isP t n) t x
def ZT (b:Bool):Int:=if b then 1 else 0
def ZO (v:Int) (b:Bd):Option Int:=if v < b.1∨b.2 < v then none else some v
def ZeR (a:Int):Int:=if a < 0 then -a else a
def ZnA (a b:Int):Int:=let r:=a.tmod b;if r≠0∧decide (r < 0)≠decide (b < 0)then r+b else r
def opP (o a b:Int):Option Int:=
 if o=1 then some (wrap64 (a+b))
 else if o=2 then some (wrap64 (a - b))
 else if o=3 then some (if b≠0∧ZeR a > (4611686018427387904:Int).tdiv (ZeR b)then 4611686018427387905 else a*b)
 else if o=4 then(if b=0 then none else some (a.tdiv b))
 else if o=5 then(if b=0 then none else some (ZnA a b))
 else if o=6 then(if b=0 then none else some (a.tmod b))
 else if o=7 then some (ZT (a == b))
 else if o=8 then some (ZT (a != b))
 else if o=9 then some (ZT (decide (a < b)))
 else if o=10 then some (ZT (decide (a≤b)))
 else if o=11 then some (ZT (decide (b < a)))
 else if o=12 then some (ZT (decide (b≤a)))
 else if o=13 then some (ZT (a == 1 && b == 1))
 else if o=14 then some (ZT (a != 0 || b != 0))
 else some (ZT (a != b))
def l0 (x:ExV):ExV:=x.ls.getD 0 default
def l1 (x:ExV):ExV:=x.ls.getD 1 default
def l2 (x:ExV):ExV:=x.ls.getD 2 default
def a0 (x:ExV):ExV:=(x.al.getD 0 default).2.2.2
def ZlS (V:ExV→Option Int) (t:Tab) (x:ExV):Option Int:=
 match V (a0 x)with
 | none=>none
 | some v=>match Q9 t x with
  | some (s,a)=>if s.2 then ZO (v+s.1) a else some v
  | none=>match JB t (Yn t x.ent).sub with
   | some (b,_)=>ZO v b
   | none=>none
def ZiQ (V:ExV→Option Int) (t:Tab) (x:ExV):Option Int:=
 match V (l1 x)with
 | none=>none
 | some v=>match Jq t (l0 x)with
  | some (b,_)=>ZO v b
  | none=>none
def Zcj (V:ExV→Option Int) (t:Tab) (x:ExV):Option Bool:=
 match V (l0 x)with
 | none=>none
 | some v=>
  if x.ls.length=2 then match Jq t (l1 x)with
   | some (b,_)=>some (decide (b.1≤v) && decide (v≤b.2))
   | none=>none
  else match V (l1 x)with
   | none=>none
   | some lo=>match V (l2 x)with
    | none=>none
    | some hi=>some (decide (lo≤v) && decide (v≤hi))
def ZgV (V:ExV→Option Int) (x:ExV):Option Int:=
 match V (l0 x)with
 | none=>none
 | some a=>some (if x.oper=19 then -a else if x.oper=20 then ZeR a else if x.oper=21 then ZT (a == 0)else a)
def dyV (V:ExV→Option Int) (x:ExV):Option Int:=
 match V (l0 x)with
 | none=>none
 | some a=>
  if x.oper=16∧a=0 then some 0
  else if x.oper=17∧a≠0 then some 1
  else match V (l1 x)with
   | none=>none
   | some b=>if x.oper=16∨x.oper=17 then some b else opP x.oper a b
def ifV (V:ExV→Option Int) (x:ExV):Option Int:=
 match V (l0 x)with
 | none=>none
 | some a=>if a=1 then V (l1 x)else V (l2 x)
def Zjk (t:Tab) (x:ExV):Option Int:=
 match ZbC t x with
 | none=>none
 | some b=>if x.s=Zaw then some b.1 else if x.s=ZdM then some b.2 else if 4611686018427387904≤b.2 - b.1 then none else some (b.2 - b.1+1)
def Qv (V:ExV→Option Int) (t:Tab) (x:ExV):Option Int:=
 if x.kind=1 then some x.n
 else if x.kind=3∨x.kind=4 then some (Yn t x.ent).value
 else if x.kind=6 then Zjk t x
 else if x.kind=7 then ZlS V t x
 else if x.kind=8 then ZiQ V t x
 else if x.kind=10 then ifV V x
 else if x.kind=13 then(Zcj V t x).map ZT
 else if x.kind=14 then(Zcj V t x).map fun b=>ZT (!b)
 else if x.kind=11 then ZgV V x
 else dyV V x
def Zjs (V:ExV→Option Int) (t:Tab) (x:ExV):Option Int:=
 match Qv V t x with
 | none=>none
 | some v=>match ZU t x.t with
  | none=>none
  | some b=>ZO v b
def ZF (t:Tab):Nat→ExV→Option Int
 | 0,_=>none
 | n+1,x=>Zjs (ZF t n) t x
def Zv (t:Tab) (n:Nat) (x:ExV):Int×Int:=
 if isP t n x then match ZF t n x with
  | some v=>(v,0)
  | none=>(0,71)
 else(0,70)
def Qr (w:World):Type:={W:World // Kept [] w W}
instance (w:World):Nonempty (Qr w):=⟨⟨w,Kept.refl _ _⟩⟩
theorem Qr.cell {w:World} {p:Addr} {v:Value} (h:w.cell? p=some v):∀z:Qr w,z.1.cell? p=some v:=fun z=>z.2.cell h (by simp)
theorem Z4 {P:Program} {id:Nat} {Q:Exit→Act→World→Prop} {a:Act} {w:World} {l:List Oper} (hm:P.follows .mixedOrders=true) (hB:Region.lexB .any l.toArray=true)
 (h:wpQuiet P l.toArray (fun w'=>∃z:Qr w,w'=z.1) (fun a'=>∀w',(∃z:Qr w,w'=z.1)→Q .normal a' w') l a):(Code.region id l.toArray true).wp P Q a w:=
 wp_region_quiet (C:=fun w'=>∃z:Qr w,w'=z.1) hm hB ⟨⟨_,Kept.drew _ _⟩,rfl⟩ (by simpa using h)
theorem Calls.after_b {P:Program} {f:FuncId} {args:Array Value} {w:World} {z:Qr w} {b:Bool} (h:Calls P f args z.1 (J0 b z.1)):Calls P f args z.1 fun e w''=>e= .returned (.bool b)∧∃z':Qr w,w''=z'.1:=
 h.mono fun _ w' ⟨he,hk⟩=>⟨he,⟨w',z.2.trans hk⟩,rfl⟩
section
variable (P:Program) (x:Oper) (xs:List Oper) (a:Act) (w:World) (K:Act→World→Prop) (Q:Exit→Act→World→Prop)
@[go_sem ↓] theorem Zts (h:0 < (List.toArray (x::xs)).size):Oper.wp P ((List.toArray (x::xs))[0]'h) a w K Q=Oper.wp P x a w K Q:=rfl
@[go_sem ↓] theorem Ztr (n:Nat) (h:n+1 < (List.toArray (x::xs)).size):Oper.wp P ((List.toArray (x::xs))[n+1]'h) a w K Q=Oper.wp P ((List.toArray xs)[n]'(by simpa using h)) a w K Q:=rfl
end
class YO (w:World) (b o:Nat) (x:outParam Zx):Prop where
 range:w.rangeAt b o x.cells
instance (w:World) (b o:Nat) (x:Zx) (ob:Obj) [h:YO w b o x]:YO (w.alloc ob) b o x:=⟨World.rangeAt_alloc h.range ob⟩
instance (w:World) (b o:Nat) (x:Zx) [h:YO w b o x]:YO w.drew b o x:=⟨by simpa using h.range⟩
instance (w:World) (b o:Nat) (x:Zx) (z:Qr w) [h:YO w b o x]:YO z.1 b o x:=⟨fun j u hu=>z.2.cell (h.range j u hu) (by simp)⟩
theorem YO.kept {w w':World} {b o:Nat} {x:Zx} (h:YO w b o x) (hk:Kept [] w w'):YO w' b o x:=⟨fun j u hu=>hk.cell (h.range j u hu) (by simp)⟩
def Zg0 (v:Value):Sem Next:=do return .value (←Instr.loadAt 95 v)
@[go_sem ↓] theorem Zmv (ρ:Operand→Value) (dst:Option Tmp) (x:Operand) (ty:TypeId) (pos:String) (after:Array Edge) (guard:Option (Nat×Bool)):
 execOp ρ {dst,op:= .load 95 x,type:=ty,pos,after,guard}=Zg0 (ρ x):=rfl
@[go_sem] theorem ZpT (w:World) (b o:Nat) (x:Zx) [h:YO w b o x]:Sem.run prog (Zg0 (.pointer (some ⟨b,o,none⟩))) w= .ok (.value (.agg x.cells.toArray)) w:=by
 simp only[Zg0,Instr.loadAt,Instr.sureAddr,Sem.run_bind,Sem.run_pure,Result.andThen_ok,run_loadVar_mid w b o 95 x.cells _ h.range underlying95 rfl (Tryz.infoEnt x)]
theorem Tryz.infoTy (x:TyV):(prog.info? 86).map (·.size)=some x.cells.length:=by
 show _=some 18
 kernel_rfl
theorem TyV.one (x:TyV):x.cells.toArray.all (·.oneCell')=true:=by simp[TyV.cells,Value.oneCell']
class Zar (w:World) (b o:Nat) (x:outParam TyV):Prop where
 range:w.rangeAt b o x.cells
instance (w:World) (b o:Nat) (x:TyV) (ob:Obj) [h:Zar w b o x]:Zar (w.alloc ob) b o x:=⟨World.rangeAt_alloc h.range ob⟩
instance (w:World) (b o:Nat) (x:TyV) [h:Zar w b o x]:Zar w.drew b o x:=⟨by simpa using h.range⟩
instance (w:World) (b o:Nat) (x:TyV) (z:Qr w) [h:Zar w b o x]:Zar z.1 b o x:=⟨fun j u hu=>z.2.cell (h.range j u hu) (by simp)⟩
theorem Zar.kept {w w':World} {b o:Nat} {x:TyV} (h:Zar w b o x) (hk:Kept [] w w'):Zar w' b o x:=⟨fun j u hu=>hk.cell (h.range j u hu) (by simp)⟩
def ZkS (v:Value):Sem Next:=do return .value (←Instr.loadAt 86 v)
@[go_sem ↓] theorem Zn0 (ρ:Operand→Value) (dst:Option Tmp) (x:Operand) (ty:TypeId) (pos:String) (after:Array Edge) (guard:Option (Nat×Bool)):
 execOp ρ {dst,op:= .load 86 x,type:=ty,pos,after,guard}=ZkS (ρ x):=rfl
@[go_sem] theorem ZiL (w:World) (b o:Nat) (x:TyV) [h:Zar w b o x]:Sem.run prog (ZkS (.pointer (some ⟨b,o,none⟩))) w= .ok (.value (.agg x.cells.toArray)) w:=by
 simp only[ZkS,Instr.loadAt,Instr.sureAddr,Sem.run_bind,Sem.run_pure,Result.andThen_ok,run_loadVar_mid w b o 86 x.cells _ h.range underlying86 rfl (Tryz.infoTy x)]
@[go_sem high] theorem Tryz.storeEntd (x:Zx) (w:World) (k:Nat) (hk:k=w.heap.size):Sem.run prog (storeCells ⟨k,0,none⟩ x.cells)
 (w.alloc (.cells #[.int .u8 0,.string ⟨#[]⟩,.int .i64 0,.int .u8 0,.int .i64 0,.int .i64 0,.slice none 0 0,.int .i64 0,.bool false,.int .i64 0,.int .i64 0,.bool false,.bool false,.int .u8 0,.int .i64 0,.int .i64 0,.int .i64 0,.bool false,.bool false,.int .i64 0,.int .i64 0,.int .i64 0] 95)).drew= .ok () (w.alloc (.cells x.cells.toArray 95)).drew:=
 Tryz.storeEnt x w.drew k (by simpa using hk)
@[go_sem] theorem TyV.len (x:TyV):x.cells.length=18:=rfl
@[go_sem high] theorem Tryz.storeTy (x:TyV) (w:World) (k:Nat) (hk:k=w.heap.size):Sem.run prog (storeCells ⟨k,0,none⟩ x.cells)
 (w.alloc (.cells #[.int .u8 0,.string ⟨#[]⟩,.int .i64 0,.int .i64 0,.slice none 0 0,.int .i64 0,.int .i64 0,.int .i64 0,.string ⟨#[]⟩,.bool false,.int .i64 0,.slice none 0 0,.int .i64 0,.int .u8 0,.bool false,.int .i64 0,.int .i64 0,.int .i64 0] 86))= .ok () (w.alloc (.cells x.cells.toArray 86)):=by
 subst hk
 exact run_storeCells_new w 86 _ x.cells.toArray (by simpa using Tryz.infoTy x) (by simp[TyV.cells]) x.one
@[go_sem] theorem TyV.c0 (y:TyV) (h:0 < y.cells.length):y.cells[0]'h=(.int .u8 y.kind):=rfl
@[go_sem] theorem TyV.c4 (y:TyV) (h:4 < y.cells.length):y.cells[4]'h=(.slice y.la y.lits.length y.lc):=rfl
@[go_sem] theorem TyV.c5 (y:TyV) (h:5 < y.cells.length):y.cells[5]'h=(.int .i64 y.index):=rfl
@[go_sem] theorem TyV.c13 (y:TyV) (h:13 < y.cells.length):y.cells[13]'h=(.int .u8 y.formal):=rfl
@[go_sem] theorem Zx.c0 (y:Zx) (h:0 < y.cells.length):y.cells[0]'h=(.int .u8 y.kind):=rfl
@[go_sem] theorem Zx.c5 (y:Zx) (h:5 < y.cells.length):y.cells[5]'h=(.int .i64 y.sub):=rfl
@[go_sem] theorem Zx.c10 (y:Zx) (h:10 < y.cells.length):y.cells[10]'h=(.int .i64 y.value):=rfl
@[go_sem] theorem Zx.c11 (y:Zx) (h:11 < y.cells.length):y.cells[11]'h=(.bool y.static):=rfl
@[go_sem] theorem ExV.c0 (y:ExV) (h:0 < y.cells.length):y.cells[0]'h=(.int .u8 y.kind):=rfl
@[go_sem] theorem ExV.c1 (y:ExV) (h:1 < y.cells.length):y.cells[1]'h=(.int .u8 y.oper):=rfl
@[go_sem] theorem ExV.c2 (y:ExV) (h:2 < y.cells.length):y.cells[2]'h=(.int .i64 y.n):=rfl
@[go_sem] theorem ExV.c3 (y:ExV) (h:3 < y.cells.length):y.cells[3]'h=(.string y.s):=rfl
@[go_sem] theorem ExV.c4 (y:ExV) (h:4 < y.cells.length):y.cells[4]'h=(.slice y.la y.ls.length y.lc):=rfl
@[go_sem] theorem ExV.c5 (y:ExV) (h:5 < y.cells.length):y.cells[5]'h=(.slice y.aa y.al.length y.ac):=rfl
@[go_sem] theorem ExV.c7 (y:ExV) (h:7 < y.cells.length):y.cells[7]'h=(.int .i64 y.ent):=rfl
@[go_sem] theorem ExV.c8 (y:ExV) (h:8 < y.cells.length):y.cells[8]'h=(.int .i64 y.t):=rfl
def ZE (v:Value) (w:World) (e:Ending) (w':World):Prop:=e= .returned v∧Kept [] w w'
theorem Za {P:Program} {fn:Func} {v:Value} {a:Act} {w w':World} (hd:a.defers= []) (hr:(results fn a.tmps).run P w'= .ok v w') (hk:Kept [] w w'):bodyPost P fn (ZE v w) .ret a w':=
 bodyPost_ret hr hd ⟨rfl,hk⟩
def bdV (o:Option Bd):Value:= .tuple #[.agg #[.int .i64 (o.getD (0,0)).1,.int .i64 (o.getD (0,0)).2],.bool o.isSome]
def ZsJ (o:Option Bd):Value:= .tuple #[.int .i64 (o.getD (0,0)).1,.int .i64 (o.getD (0,0)).2,.bool o.isSome]
theorem Kept.alloc' {X:List Nat} {w w':World} (h:Kept X w w') (o:Obj):Kept X w (w'.alloc o):=h.trans (Kept.alloc _ _ _)
theorem Kept.set' {w w':World} (h:Kept [] w w') (a:Addr) (u:Value) (ha:w.heap.size≤a.block):Kept [] w (w'.setCell a u):=
 (Kept.trans (h.mono (Y:=[a.block]) (by simp)) (Kept.setCell w' a u (by simp))).mono' (fun x hx hl=>by simp at hx;omega)
theorem Kept.drew' {X:List Nat} {w w':World} (h:Kept X w w'):Kept X w w'.drew:=h.trans (Kept.drew _ _)
theorem Zbi {w:World} {v:Zp} {t:Tab} (hT:Zw w v t) {n:Nat} (h:n < t.types.length):
 ∃y b o,t.types[n]? =some y∧v.ta=some ⟨b,o,none⟩∧Zar w b (o+n*18) y∧y.lits.length≤140737488355328:=by
 obtain⟨y,hy⟩:∃y,t.types[n]? =some y:=⟨_,List.getElem?_eq_getElem h⟩
 obtain⟨b,o,ha,hr⟩:=hT.ts.some_ hy
 exact⟨y,b,o,hy,ha,⟨hr n y hy⟩,hT.ll y (List.mem_of_getElem? hy)⟩
theorem ZpO {t:Tab} {n:Nat} {y:TyV} (h:t.types[n]? =some y):ZU t (n:Int)=
 if y.kind=1 then some (-4611686018427387904,4611686018427387904)
 else if y.formal≠0 then none
 else if y.kind=2 then some (-2147483648,2147483647)
 else if y.kind=3 then some (0,(y.lits.length:Int) - 1)
 else none:=by
 have hl:=(List.getElem?_eq_some_iff.1 h).1
 unfold ZU
 rw[if_neg (by omega)]
 simp[List.getD_eq_getElem?_getD,h]
theorem ZhI {t:Tab} {ty:Int} (h:ty < 0∨(t.types.length:Int)≤ty):ZU t ty=none:=by
 unfold ZU
 rw[if_pos h]
def YE:TyV:=⟨0,⟨#[]⟩,0,0,none,0,[],0,0,0,⟨#[]⟩,false,0,none,0,[],0,0,false,0,0,0⟩
class Qf (a b:Nat):Prop where
 ne:a≠b
class QW (ty:TypeId) (k:Nat) (w:World) (B:Nat):Prop where
 has:∃c,w.heap[B]? =some (.cells c ty (0,0))∧c.size=k
instance (ty:TypeId) (k:Nat) (w:World) (B:Nat) (ob:Obj) [h:QW ty k w B]:QW ty k (w.alloc ob) B:=⟨by
 obtain⟨c,hc,hs⟩:=h.has
 exact⟨c,Zr hc (Array.getElem?_eq_some_iff.1 hc).1,hs⟩⟩
instance (ty:TypeId) (k:Nat) (w:World) (B:Nat) [h:QW ty k w B]:QW ty k w.drew B:=⟨h.has⟩
instance (ty:TypeId) (k:Nat) (w:World) (B D:Nat) (cs:Array Value) [h:QW ty k w B] [a:Qf D B]:QW ty k (w.setRow D cs) B:=⟨by
 obtain⟨c,hc,hs⟩:=h.has
 exact⟨c,by simp[World.setRow,Array.getElem?_modify,a.ne,hc],hs⟩⟩
theorem QW.kept {ty:TypeId} {k:Nat} {w w':World} {B:Nat} (h:QW ty k w B) (hk:Kept [] w w'):QW ty k w' B:=⟨by
 obtain⟨c,hc,hs⟩:=h.has
 exact⟨c,hk.obj hc (by simp),hs⟩⟩
theorem QB {w:World} {b o:Nat} {l:List Value} (h:w.rangeAt b o l) (D:Nat) (cs:Array Value) (hne:D≠b):(w.setRow D cs).rangeAt b o l:=fun j u hu=>by
 have hb:(w.setRow D cs).heap[b]? =w.heap[b]? :=by simp[World.setRow,Array.getElem?_modify,hne]
 exact(World.cell?_of_block (a:=⟨b,o+j,none⟩) hb).trans (h j u hu)
theorem Zkr {ty:TypeId} {w:World} {B:Nat} {cs c:Array Value} (h:w.heap[B]? =some (.cells c ty (0,0))):(w.setRow B cs).rangeAt B 0 cs.toList:=by
 have hb:=setRow_heap w B c cs ty (0,0) h
 intro j u hu
 rw[Nat.zero_add]
 have:(match(w.setRow B cs).heap[B]? with | some (Obj.cells c _ _)=>c[j]? | _=>none)=some u:=by rw[hb];simpa using hu
 exact this
instance (w:World) (b o D:Nat) (x:TyV) (cs:Array Value) [h:Zar w b o x] [a:Qf D b]:Zar (w.setRow D cs) b o x:=⟨QB h.range D cs a.ne⟩
instance (w:World) (B:Nat) (x:TyV) [h:QW 86 18 w B]:Zar (w.setRow B x.cells.toArray) B 0 x:=⟨by
 obtain⟨c,hc,_⟩:=h.has
 simpa using Zkr (cs:=x.cells.toArray) hc⟩
@[go_sem] theorem Tryz.storeTyBox (x:TyV) (w:World) (B:Nat) [h:QW 86 18 w B]:Sem.run prog (storeCells ⟨B,0,none⟩ x.cells) w= .ok () (w.setRow B x.cells.toArray):=by
 obtain⟨c,hc,hs⟩:=h.has
 have:=run_storeVar_row (P:=prog) w B 86 86 c x.cells.toArray hc (by simpa using Tryz.infoTy x) (by simpa [TyV.len]using hs) x.one
 cases hq:prog.info? 86 with
 | none=>have h1:=Tryz.infoTy x;rw[hq]at h1;cases h1
 | some i=>
  have hsz:x.cells.toArray.size=i.size:=by have:=Tryz.infoTy x;simp[hq]at this;simp;omega
  simpa [storeVar,sizeOf,typeInfo,hq,Value.cells,hsz]using this
class Y5 (w:World) (b o:Nat) (x:outParam ZL):Prop where
 range:w.rangeAt b o x.cells
instance (w:World) (b o:Nat) (x:ZL) (ob:Obj) [h:Y5 w b o x]:Y5 (w.alloc ob) b o x:=⟨World.rangeAt_alloc h.range ob⟩
instance (w:World) (b o:Nat) (x:ZL) [h:Y5 w b o x]:Y5 w.drew b o x:=⟨by simpa using h.range⟩
instance (w:World) (b o:Nat) (x:ZL) (z:Qr w) [h:Y5 w b o x]:Y5 z.1 b o x:=⟨fun j u hu=>z.2.cell (h.range j u hu) (by simp)⟩
instance (w:World) (b o D:Nat) (x:ZL) (cs:Array Value) [h:Y5 w b o x] [a:Qf D b]:Y5 (w.setRow D cs) b o x:=⟨QB h.range D cs a.ne⟩
theorem Y5.kept {w w':World} {b o:Nat} {x:ZL} (h:Y5 w b o x) (hk:Kept [] w w'):Y5 w' b o x:=⟨fun j u hu=>hk.cell (h.range j u hu) (by simp)⟩
theorem Tryz.infoSub (x:ZL):(prog.info? 88).map (·.size)=some x.cells.length:=by
 show _=some 3
 kernel_rfl
def Zd1 (v:Value):Sem Next:=do return .value (←Instr.loadAt 88 v)
@[go_sem ↓] theorem Zmt (ρ:Operand→Value) (dst:Option Tmp) (x:Operand) (ty:TypeId) (pos:String) (after:Array Edge) (guard:Option (Nat×Bool)):
 execOp ρ {dst,op:= .load 88 x,type:=ty,pos,after,guard}=Zd1 (ρ x):=rfl
@[go_sem] theorem ZpR (w:World) (b o:Nat) (x:ZL) [h:Y5 w b o x]:Sem.run prog (Zd1 (.pointer (some ⟨b,o,none⟩))) w= .ok (.value (.agg #[.int .i64 x.t,.int .i64 x.lo,.int .i64 x.hi])) w:=by
 have:Sem.run prog (Zd1 (.pointer (some ⟨b,o,none⟩))) w= .ok (.value (.agg x.cells.toArray)) w:=by
  simp only[Zd1,Instr.loadAt,Instr.sureAddr,Sem.run_bind,Sem.run_pure,Result.andThen_ok,run_loadVar_mid w b o 88 x.cells _ h.range underlying88 rfl (Tryz.infoSub x)]
 simpa [ZL.cells]using this
theorem Zb4 {w:World} {v:Zp} {t:Tab} (hT:Zw w v t) {n:Nat} (h:n < t.subs.length):
 ∃s b o,t.subs[n]? =some s∧v.sa=some ⟨b,o,none⟩∧Y5 w b (o+n*3) s∧(-9223372036854775808≤s.lo∧s.lo≤9223372036854775807)∧(-9223372036854775808≤s.hi∧s.hi≤9223372036854775807):=by
 obtain⟨s,hs⟩:∃s,t.subs[n]? =some s:=⟨_,List.getElem?_eq_getElem h⟩
 obtain⟨b,o,ha,hr⟩:=hT.ss.some_ hs
 exact⟨s,b,o,hs,ha,⟨hr n s hs⟩,hT.sb s (List.mem_of_getElem? hs)⟩
def ZmF:ZL:=⟨0,0,0⟩
def Zju (t:Tab) (n:Int):Option ZL:=if n < 0∨(t.subs.length:Int)≤n then none else some (t.subs.getD n.toNat default)
def tyO (t:Tab) (n:Int):Option TyV:=if n < 0∨(t.types.length:Int)≤n then none else some (t.types.getD n.toNat default)
def Zrm (x:ZL):Value:= .agg #[.int .i64 x.t,.int .i64 x.lo,.int .i64 x.hi]
def Ztu (o:Option ZL):Value:= .tuple #[Zrm (o.getD ZmF),.bool o.isSome]
def tyV (o:Option TyV):Value:= .tuple #[.agg (o.getD YE).cells.toArray,.bool o.isSome]
theorem Zgr {t:Tab} {n:Nat} {s:ZL} (h:t.subs[n]? =some s):Zju t (n:Int)=some s:=by
 have hl:=(List.getElem?_eq_some_iff.1 h).1
 unfold Zju
 rw[if_neg (by omega)]
 simp[List.getD_eq_getElem?_getD,h]
theorem ZdI {t:Tab} {n:Int} (h:n < 0∨(t.subs.length:Int)≤n):Zju t n=none:=by unfold Zju;rw[if_pos h]
theorem ZjZ {t:Tab} {n:Nat} {s:TyV} (h:t.types[n]? =some s):tyO t (n:Int)=some s:=by
 have hl:=(List.getElem?_eq_some_iff.1 h).1
 unfold tyO
 rw[if_neg (by omega)]
 simp[List.getD_eq_getElem?_getD,h]
theorem ZdF {t:Tab} {n:Int} (h:n < 0∨(t.types.length:Int)≤n):tyO t n=none:=by unfold tyO;rw[if_pos h]
end
end Go.Proofs.YtfaecpkocgcofaaGreatDoor
