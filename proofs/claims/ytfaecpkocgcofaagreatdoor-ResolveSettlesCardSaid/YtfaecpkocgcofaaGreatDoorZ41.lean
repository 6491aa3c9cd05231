/- Lemmas for ResolveSettles, printed small: N29 N30 N31. -/
import Derived.Test.YtfaecpkocgcofaaGreatDoorZ40
set_option linter.all false
set_option maxRecDepth 100000
set_option maxHeartbeats 8000000
open Go.Proofs.Tryz
namespace Go.Proofs.YtfaecpkocgcofaaGreatDoor
section
open Go.RowKit
def Ztj (t:Tab) (x:ExV) (i:Nat):Int:=ofP t ((t.ents.getD x.ent.toNat default).params.getD i default).sub
def ZaW (t:Tab) (n:Nat):Nat→ExV→ExV×Int
 | 0,x=>(x,0)
 | m+1,x=>JL (fun y k=>ZI (ZaW t n m) t n y k) t n (Ztj t x) x
def ZbI (t:Tab):Nat→ExV→Prop
 | 0,_=>False
 | m+1,x=>(x.ls.length < 100∧x.al.length≤5000)∧(x.kind≠8∧x.kind≠9∧x.kind≠10∧x.kind≠13∧x.kind≠14)∧(∀y,y∈x.ls→ZbI t m y)∧(∀a,a∈x.al→a.2.1= []∧ZbI t m a.2.2.2)∧
  (x.al= []∨∃(i:Nat) (y:Zx),x.ent=(i:Int)∧t.ents[i]? =some y∧y.kind=4∧x.al.length≤y.params.length)
theorem ZbI.setT {t:Tab} {m:Nat} {x:ExV} (k:Int) (h:ZbI t m x):ZbI t m (x.setT k):=by
 cases m with
 | zero=>exact h
 | succ m=>exact h
theorem ZdJ {t:Tab}:∀{m:Nat} {x:ExV},ZbI t m x.er→ZbI t m x
 | 0,_,h=>h
 | m+1,x,⟨⟨a1,a2⟩,a3,a4,a5,a6⟩=>by
  simp only[ExV.er_ls,ExV.er_al,ExV.er_kind,ExV.er_ent,List.length_map]at a1 a2 a3 a4 a5 a6
  refine⟨⟨a1,a2⟩,a3,fun y hy=>ZdJ (a4 _ (List.mem_map.2 ⟨y,hy,rfl⟩)),fun a ha=>?_,?_⟩
  ·obtain⟨h1,h2⟩:=a5 _ (List.mem_map.2 ⟨a,ha,rfl⟩)
   exact⟨by have h3:a.2.1.map ChV.er= []:=h1;simpa using h3,ZdJ h2⟩
  ·rcases a6 with h | h
   ·exact .inl (by simpa using h)
   ·exact .inr h
theorem Qe.depth {t:Tab} {w:World}:∀{m d:Nat} {x:ExV},ZbI t m x→Qe w d x→Qe w m x
 | 0,_,_,h,_=>h.elim
 | _+1,0,_,_,h=>h.elim
 | m+1,d+1,x,⟨_,_,a4,a5,_⟩,⟨h1,h2,h3,h4,h5,h6,h7,h8,h9⟩=>
  ⟨h1,fun y hy=>Qe.depth (a4 y hy) (h2 y hy),h3,fun a ha=>Qe.depth (a5 a ha).2 (h4 a ha),h5,h6,h7,h8,fun y hy=>⟨(h9 y hy).1,(h9 y hy).2.1,fun c hc=>absurd hc (by rw[(a5 y hy).1];simp)⟩⟩
theorem ExD.depth {X:List Nat} {w:World} {t:Tab} {m:Nat} {x:ExV} (h:ExD X w x) (hs:ZbI t m x):ExK X w m x:=fun w' hk=>by
 obtain⟨d,hd⟩:=h
 exact(hd w' hk).depth hs
theorem ZgL (R mr:Nat) (v:Zp) (t:Tab) (h:WhV) (n:Nat):∀(m:Nat) (X:List Nat) (w:World) (x:ExV),ZbI t m x→m≤n→Qo w R mr v t h→ExK X w m x→(∀q,q∈X→q < w.heap.size)→
 Calls prog 50 #[.pointer (some ⟨R,0,none⟩),.agg x.cells.toArray] w (ZaU X m (ZaW t n m x.er) w):=by
 intro m
 induction m with
 | zero=>intro X w x h;exact h.elim
 | succ m ih=>
  intro X w x hs hmn hR hx hX
  obtain⟨⟨a1,a2⟩,⟨k8,k9,k10,k13,k14⟩,a4,a5,a6⟩:=hs
  refine Zk0 X w R mr v t h n m x (fun y k=>ZI (ZaW t n m) t n y k) (Ztj t x.er) hR hmn hx hX a1 k8 k9 k10 k13 k14 a2 (fun a ha=>(a5 a ha).1) ?_ ?_
  ·intro W y i hk hkd he hi
   rcases a6 with h0 | ⟨e,ye,h1,h2,h3,h4⟩
   ·rw[h0]at hi;simp at hi
   ·obtain⟨p,hp⟩:∃p,ye.params[i]? =some p:=⟨_,List.getElem?_eq_getElem (by omega)⟩
    have hg:Ztj t x.er i=ofP t p.sub:=by
     have e1:t.ents.getD e default=ye:=by rw[List.getD_eq_getElem?_getD,h2,Option.getD_some]
     unfold Ztj
     rw[ExV.er_ent,h1,Int.toNat_natCast,e1,List.getD_eq_getElem?_getD,hp,Option.getD_some]
    rw[hg]
    exact ZeF W R mr v t h y e i ye p (hR.kept hk) (by rw[hkd];exact k9) (by rw[he];exact h1) h2 h3 hp
  ·intro W Y y k hk hY hYs hy hyk
   have hsy:ZbI t m y:=by
    rcases hy with h1 | ⟨a,ha,rfl⟩
    ·exact a4 y h1
    ·exact(a5 a ha).2
   cases m with
   | zero=>exact hsy.elim
   | succ m=>
    refine Zfd Y W R mr v t h n m y k (ZaW t n (m+1)) (hR.kept hk) (by omega) hyk hYs (fun W2 Y2 y2 hk2 hY2 hY2s hy2=>ih Y2 W2 y2 ?_ (by omega) ((hR.kept hk).kept hk2) ?_ hY2s)
    ·rcases hy2 with rfl | rfl
     ·exact hsy
     ·exact hsy.setT k
    ·rcases hy2 with rfl | rfl
     ·exact hyk.later hk2 hY2
     ·exact fun w' hk'=>(hyk.later hk2 hY2 w' hk').setT k
theorem ZiH (R mr:Nat) (v:Zp) (t:Tab) (h:WhV) (n m:Nat) (X:List Nat) (w:World) (x:ExV) (k:Int) (hs:ZbI t (m+1) x) (hmn:m+1≤n) (hR:Qo w R mr v t h) (hx:ExK X w (m+1) x) (hX:∀q,q∈X→q < w.heap.size):
 Calls prog 46 #[.pointer (some ⟨R,0,none⟩),.agg x.cells.toArray,.int .i64 k] w (ZaU X (m+1) (ZI (ZaW t n (m+1)) t n x.er k) w):=by
 refine Zfd X w R mr v t h n m x k (ZaW t n (m+1)) hR hmn hx hX (fun W2 Y2 y2 hk2 hY2 hY2s hy2=>ZgL R mr v t h n (m+1) Y2 W2 y2 ?_ hmn (hR.kept hk2) ?_ hY2s)
 ·rcases hy2 with rfl | rfl
  ·exact hs
  ·exact hs.setT k
 ·rcases hy2 with rfl | rfl
  ·exact hx.later hk2 hY2
  ·exact fun w' hk'=>(hx.later hk2 hY2 w' hk').setT k
theorem ZmI (x:ExV):ZbX x.er=ZbX x:=by rw[ZbX,ZbX,ExV.er_kind,ExV.er_s]
theorem Zok (t:Tab) (h:WhV) (x:ExV):Q7 t h x.er=Q7 t h x:=by rw[Q7,Q7,Zam,Zam,ExV.er_kind,ExV.er_s]
theorem Zmc {l:List MeV} {m m':MeV} (hl:∀x,x∈l→0≤x.n∧x.n≤2) (h:m'∈Zac l m):0≤m'.n∧m'.n≤2:=by
 unfold Zac at h
 split at h
 ·exact hl _ h
 rename_i h0
 split at h
 ·rcases List.mem_or_eq_of_mem_set h with h | rfl
  ·exact hl _ h
  ·exact⟨show(0:Int)≤2 by decide,show(2:Int)≤2 by decide⟩
 ·unfold Zdn at h
  rcases List.mem_append.1 h with h | h
  ·exact hl _ (List.mem_of_mem_take h)
  ·rcases List.mem_cons.1 h with rfl | h
   ·simp only
    omega
   ·exact hl _ (List.mem_of_mem_drop h)
theorem Zd5 {α:Type} (F:List MeV→α→List MeV) (hF:∀l x,(∀m,m∈l→0≤m.n∧m.n≤2)→∀m,m∈F l x→0≤m.n∧m.n≤2):∀(xs:List α) (acc:List MeV),(∀m,m∈acc→0≤m.n∧m.n≤2)→∀m,m∈xs.foldl F acc→0≤m.n∧m.n≤2
 | [],acc,h=>h
 | x::xs,acc,h=>Zd5 F hF xs (F acc x) (hF acc x h)
theorem Zic {α:Type} (F:α→MeV) (xs:List α):∀m,m∈Ju F xs→0≤m.n∧m.n≤2:=
 Zd5 _ (fun _ _ hl _ hm=>Zmc hl hm) xs [] (fun m hm=>by simp at hm)
theorem Zoq (t:Tab) (h:WhV) (x l0:ExV) (al:List AsV) (gs:List (Int→Bool→Int×ExV)):∀m,m∈Zc0 t h x l0 al gs→0≤m.n∧m.n≤2:=
 Zd5 _ (fun l i hl m hm=>by
  unfold Jg at hm
  split at hm
  ·exact Zmc hl hm
  ·exact hl m hm) _ [] (fun m hm=>by simp at hm)
theorem Zmg (t:Tab) (ps:List Zd) (al bl:List AsV) (gs:List (Int→Bool→Int×ExV)) (ha:∀a,a∈al→a.2.1= []) (hb:∀a,a∈bl→a.2.1= []):∀i,Zbs t ps al gs i=Zbs t ps bl gs i
 | 0=>rfl
 | i+1=>by
  have key:∀(l:List AsV),(∀a,a∈l→a.2.1= [])→Ziu ps (l.getD i default) i=(i:Int):=fun l hl=>by
   have h0:(l.getD i default).2.1= []:=by
    rw[List.getD_eq_getElem?_getD]
    cases hi:l[i]? with
    | none=>rfl
    | some a=>exact hl a (List.mem_of_getElem? hi)
   rw[Ziu,if_pos h0]
  rw[Zbs,Zbs,Zmg t ps al bl gs ha hb i]
  cases Zbs t ps bl gs i with
  | none=>rfl
  | some s=>simp only[Zhy,key al ha,key bl hb]
theorem Zrb (t:Tab) (ps:List Zd) (al bl:List AsV) (gs:List (Int→Bool→Int×ExV)) (ha:∀a,a∈al→a.2.1= []) (hb:∀a,a∈bl→a.2.1= []):Zap t ps al gs=Zap t ps bl gs:=by
 rw[Zap,Zap,Zmg t ps al bl gs ha hb]
theorem Zor (t:Tab) (h:WhV) (x l0:ExV) (al bl:List AsV) (gs:List (Int→Bool→Int×ExV)) (ha:∀a,a∈al→a.2.1= []) (hb:∀a,a∈bl→a.2.1= []):Zc0 t h x l0 al gs=Zc0 t h x l0 bl gs:=by
 have e:Jg t x l0 al gs=Jg t x l0 bl gs:=by
  funext acc i
  simp only[Jg,Zos,Zrb t _ al bl gs ha hb]
 rw[Zc0,Zc0,e]
def Qu (t:Tab) (h:WhV):Nat→ExV→List MeV
 | 0,_=>[]
 | n+1,x=>
  if x.kind=1 then [⟨0,1,false,ZfB x 0 []⟩]
  else if x.kind=3 then Zdh t h x
  else if x.kind=7 then Zc0 t h x (x.ls.getD 0 Zg) x.al (x.al.map fun a ty obj=>QR t h (Qu t h n a.2.2.2) ty obj)
  else if x.kind=12 then Zjc t h x (x.ls.map (Qu t h n))
  else []
def YW (t:Tab) (h:WhV):Nat→ExV→Prop
 | 0,_=>False
 | n+1,x=>(x.kind=1∨x.kind=3∨x.kind=7∨x.kind=12)∧(x.ls.length≤61∧x.al.length≤61)∧(∀y,y∈x.ls→YW t h n y)∧(∀a,a∈x.al→a.2.1= []∧YW t h n a.2.2.2)∧
  (Qu t h (n+1) x).length≤1000000∧
  (x.kind=7→∃l0 lr,x.ls=l0::lr∧l0.kind≠4∧ZbX l0=false∧∀(i:Nat) y,(i:Int)∈Q7 t h l0→t.ents[i]? =some y→ZlU y)
theorem YW.kind {t:Tab} {h:WhV}:∀{n:Nat} {x:ExV},YW t h n x→x.kind=1∨x.kind=3∨x.kind=7∨x.kind=12
 | 0,_,h=>h.elim
 | _+1,_,h=>h.1
theorem NdM.ms {M:Nat→ExV→List MeV}:∀{n:Nat} {d:NdV},NdM M n d→d.ms.map MeV.er=M n d.x.er
 | 0,_,h=>h.elim
 | _+1,_,h=>h.1
theorem ZfE (k:Int) (h:k=1∨k=3∨k=7∨k=12):Zd2 k=some (if k=1 then 57 else if k=3 then 59 else if k=7 then 63 else 67):=by
 rcases h with rfl | rfl | rfl | rfl <;> rfl
theorem Zt1 (R mr:Nat) (v:Zp) (t:Tab) (h:WhV) (hdef:∀y,y∈t.ents→∀q,q∈y.params→q.d.kind=0):ZsZ R mr v t h (Qu t h) (YW t h) where
 zero _ h:=h
 ls _ _ _ h hy:=h.2.2.1 _ hy
 al _ _ _ h ha:=(h.2.2.2.1 _ ha).2
 ch _ _ _ h ha:=(h.2.2.2.1 _ ha).1
 len _ _ h:=h.2.1
 bd n x m hok hm:=by
  rw[Qu]at hm
  split at hm
  ·simp at hm;subst hm;exact⟨show(0:Int)≤1 by decide,show(1:Int)≤2 by decide⟩
  split at hm
  ·exact Zic _ _ m hm
  split at hm
  ·exact Zoq _ _ _ _ _ _ m hm
  split at hm
  ·exact Zic _ _ m hm
  ·simp at hm
 ml _ _ h:=h.2.2.2.2.1
 no n x hok hk:=by
  rw[ZfE _ hok.1]at hk
  cases hk
 kind n f d Y W hok hf hR hT hS hY:=by
  have hk:=hok.1
  have hlen:=hok.2.1
  have hparts:=hS.1
  have hargs:=hS.2.2.1
  have hpl:d.parts.length≤61:=by
   have:=congrArg List.length hparts
   rw[List.length_map]at this
   omega
  have hp9:∀y,y∈d.parts→y.x.kind≠9:=fun y hy=>by
   have h1:y.x.er∈d.x.er.ls:=by rw[←hparts];exact List.mem_map.2 ⟨y,hy,rfl⟩
   have h2:=(hok.2.2.1 _ h1).kind
   rw[ExV.er_kind]at h2
   omega
  have ha9:∀y,y∈d.args→y.x.kind≠9:=fun y hy=>by
   have h1:y.x.er∈d.x.er.al.map (fun a=>a.2.2.2):=by rw[←hargs];exact List.mem_map.2 ⟨y,hy,rfl⟩
   obtain⟨a,ha,e⟩:=List.mem_map.1 h1
   have h2:=(hok.2.2.2.1 _ ha).2.kind
   rw[e,ExV.er_kind]at h2
   omega
  rw[ExV.er_kind]at hk
  rw[ZfE _ hk]at hf
  injection hf with hf
  rw[Qu,ExV.er_kind]
  by_cases k1:d.x.kind=1
  ·rw[if_pos k1]at hf⊢
   subst hf
   exact ZiU Y W R d hT hY
  rw[if_neg k1]at hf⊢
  by_cases k3:d.x.kind=3
  ·rw[if_pos k3]at hf⊢
   subst hf
   have:=Znz Y W R mr v t h d hR hT (by omega) hY hdef
   exact this
  rw[if_neg k3]at hf⊢
  by_cases k7:d.x.kind=7
  ·rw[if_pos k7]at hf⊢
   subst hf
   obtain⟨l0',lr',e0,e4,ew,eo⟩:=hok.2.2.2.2.2 (by rw[ExV.er_kind];exact k7)
   have e0':=e0
   rw[ExV.er_ls]at e0'
   obtain⟨l0,lr,hls,rfl,_⟩:=List.map_eq_cons_iff.1 e0'
   have hch:∀a,a∈d.x.al→a.2.1= []:=fun a ha=>by
    have h1:=(hok.2.2.2.1 a.er (by rw[ExV.er_al];exact List.mem_map.2 ⟨a,ha,rfl⟩)).1
    have h2:a.2.1.map ChV.er= []:=h1
    simpa using h2
   have hal:d.x.al.length=d.args.length:=by
    have:=congrArg List.length hargs
    rw[List.length_map,List.length_map,ExV.er_al,List.length_map]at this
    exact this.symm
   have:=ZlT Y W R mr v t h d l0 lr hR hT hY hls (by rw[←ExV.er_kind];exact e4) (by rw[←ZmI];exact ew) hal ha9 hdef (fun i y hi hy=>eo i y (by rw[Zok];exact hi) hy)
   have eg:d.args.map (fun y ty obj=>QR t h (y.ms.map MeV.er) ty obj)=d.x.er.al.map fun a ty obj=>QR t h (Qu t h n a.2.2.2) ty obj:=by
    have h1:d.args.map (fun y ty obj=>QR t h (y.ms.map MeV.er) ty obj)=(d.args.map fun y=>y.x.er).map (fun e ty obj=>QR t h (Qu t h n e) ty obj):=by
     rw[List.map_map]
     refine List.map_congr_left fun y hy=>?_
     funext ty obj
     simp only[Function.comp,(hS.2.2.2.1 y hy).ms]
    rw[h1,hargs,List.map_map]
    rfl
   rw[e0,←eg,show(l0.er::lr').getD 0 Zg=l0.er from rfl]
   rw[Zor t h d.x.er l0.er d.x.er.al d.x.al _ (fun a ha=>(hok.2.2.2.1 a ha).1) hch]
   exact this
  rw[if_neg k7]at hf⊢
  have k12:d.x.kind=12:=by omega
  rw[if_pos k12]
  subst hf
  have:=Zjb Y W R mr v t h d hR hT hY hpl hp9
  have eg:d.parts.map (fun y=>y.ms.map MeV.er)=d.x.er.ls.map (Qu t h n):=by
   rw[←hparts,List.map_map]
   exact List.map_congr_left fun y hy=>(hS.2.1 y hy).ms
  rw[←eg]
  exact this
def Qq (t:Tab) (n m:Nat) (k:Int) (x:ExV) (want:Int):ExV×Int:=
 if JF k≠0 then(Zg,JF k)
 else if(ZI (ZaW t n m) t n x (if want < 0 then 1 else want)).2≠0 then(Zg,(ZI (ZaW t n m) t n x (if want < 0 then 1 else want)).2)
 else((ZI (ZaW t n m) t n x (if want < 0 then 1 else want)).1,0)
def JE (p:Int→Bool) (acc:Int×ExV) (m:MeV):Int×ExV:=if p m.t then(acc.1+m.n,m.e)else acc
def QS (p:Int→Bool) (ms:List MeV):Int×ExV:=ms.foldl (JE p) (0,Zg)
def ZsQ (t:Tab) (h:WhV) (want:Int):Int→Bool:=if want= -2 then ZeW t h else if want= -3 then Q6 t h else if want= -4 then QG t h else fun _=>want == -5
def Zcs (t:Tab) (h:WhV) (ms:List MeV) (want:Int):Int×ExV:=if 0≤want then QR t h ms want false else QS (ZsQ t h want) ms
def Yd (t:Tab) (h:WhV) (n:Nat) (x:ExV) (want:Int):ExV×Int:=
 if QT t h n [x]≠0 then(Zg,QT t h n [x])
 else Qq t n n (Zcs t h (Qu t h n x) want).1 (Zcs t h (Qu t h n x) want).2 (if 0≤want then want else -1)
def Zez:Sem Next:=do return .value (←Instr.build 41 #[])
@[go_sem ↓] theorem Zlv (ρ:Operand→Value) (dst:Option Tmp) (ty:TypeId) (pos:String) (after:Array Edge) (guard:Option (Nat×Bool)):
 execOp ρ {dst,op:= .build 41 #[],type:=ty,pos,after,guard}=Zez:=by simp[execOp,Zez]
@[go_sem] theorem Zo7 (w:World):Sem.run prog Zez w= .ok (.value (.agg Zg.cells.toArray)) w:=by kernel_rfl
theorem Zdt (X:List Nat) (w:World) (R mr:Nat) (v:Zp) (t:Tab) (h:WhV) (n m:Nat) (k:Int) (x:ExV) (want:Int) (hR:Qo w R mr v t h) (hmn:m+1≤n) (hs:JF k=0→ZbI t (m+1) x) (hx:ExD X w x) (hX:∀q,q∈X→q < w.heap.size):
 Calls prog 33 #[.pointer (some ⟨R,0,none⟩),.int .i64 k,.agg x.cells.toArray,.int .i64 want] w (ZaU X (m+1) (Qq t n (m+1) k x.er want) w):=by
 have HS:=hh (fun(W:World) (Y:List Nat) (K:Int) (hv:JF k=0) (hk:Kept [] w W) (hY:∀q,q∈Y→q∈X∨w.heap.size≤q) (hYs:∀q,q∈Y→q < W.heap.size)=>ZiH R mr v t h n m Y W x K (hs hv) hmn (hR.kept hk) ((hx.later hk hY).depth (hs hv)) hYs)
 have HXS:=hh hX
 have HVD:=hh (fun W=>Zgo W k)
 have HC:Hid (Qq t n (m+1) k x.er want=if JF k≠0 then(Zg,JF k)else if(ZI (ZaW t n (m+1)) t n x.er (if want < 0 then 1 else want)).2≠0 then(Zg,(ZI (ZaW t n (m+1)) t n x.er (if want < 0 then 1 else want)).2)else((ZI (ZaW t n (m+1)) t n x.er (if want < 0 then 1 else want)).1,0)):=rfl
 clear hR hs hx hX
 generalize JF k=vk at*
 go_enter func33,ntmps33
 go_wp2_with fail
 refine(HVD.out _).mono ?_
 rintro e w1 ⟨rfl,rfl⟩
 by_cases hv:vk=0
 ·have hv':(vk != 0)=false:=by simp[hv]
  have HS1:=hh (fun W Y K=>HS.out W Y K hv)
  by_cases hw:want < 0
  ·obtain⟨r,hr⟩:∃r,ZI (ZaW t n (m+1)) t n x.er 1=r:=⟨_,rfl⟩
   have HCH:Hid (Qq t n (m+1) k x.er want=if r.2≠0 then(Zg,r.2)else(r.1,0)):=by rw[Hid,HC.out,if_neg (by simp[hv]),if_pos hw,hr]
   have HS2:=hh (fun W Y=>HS1.out W Y 1)
   rw[hr]at HS2
   clear HC HS HS1 hr
   go_wp2_with fail
   refine(HS2.out _ (w.heap.size::(w.heap.size+1)::X) kp (fun q hq=>by simp at hq;rcases hq with h | h | h;exact .inr (by omega);exact .inr (by omega);exact .inl h) (fun q hq=>by simp at hq⊢;rcases hq with h | h | h;omega;omega;have:=HXS.out q h;omega)).mono ?_
   rintro e w2 ⟨z,rfl,hz,hzk,hk2⟩
   haveI p_w2:Zb w2 _:=⟨hk2⟩
   have HZ:=hh hz
   have HZK:=hh hzk
   clear hz hzk hk2
   by_cases he:r.2=0
   ·have he':(r.2 != 0)=false:=by simp[he]
    have HO:=hh (show Qq t n (m+1) k x.er want=(r.1,0) by rw[HCH.out,if_neg (by simp[he])])
    clear HCH
    go_wp2_with fail
    refine bodyPost_ret (v:= .tuple #[.agg z.cells.toArray,.int .i64 0]) (Qm results33 (Z0 rfl inferInstance) (Zh rfl)) rfl ⟨z,by rw[HO.out],by rw[HO.out];exact HZ.out,(HZK.out.less (Y:=[w.heap.size,w.heap.size+1]) ((Kept.setRow _ _ _ (by simp)).trans (Kept.setRow _ _ _ (by simp))) (by simp)).sub (fun q hq=>by simp[hq]),kp⟩
   ·have he':(r.2 != 0)=true:=by simp[he]
    have HO:=hh (show Qq t n (m+1) k x.er want=(Zg,r.2) by rw[HCH.out,if_pos he])
    clear HCH
    go_wp2_with fail
    refine bodyPost_ret (v:= .tuple #[.agg Zg.cells.toArray,.int .i64 r.2]) (Qm results33 (Z0 rfl inferInstance) (Zh rfl)) rfl ⟨Zg,by rw[HO.out],by rw[HO.out];exact YD,(ZbU X _).mono (by omega),kp⟩
  ·obtain⟨r,hr⟩:∃r,ZI (ZaW t n (m+1)) t n x.er want=r:=⟨_,rfl⟩
   have HCH:Hid (Qq t n (m+1) k x.er want=if r.2≠0 then(Zg,r.2)else(r.1,0)):=by rw[Hid,HC.out,if_neg (by simp[hv]),if_neg hw,hr]
   have HS2:=hh (fun W Y=>HS1.out W Y want)
   rw[hr]at HS2
   clear HC HS HS1 hr
   go_wp2_with fail
   refine(HS2.out _ (w.heap.size::(w.heap.size+1)::X) kp (fun q hq=>by simp at hq;rcases hq with h | h | h;exact .inr (by omega);exact .inr (by omega);exact .inl h) (fun q hq=>by simp at hq⊢;rcases hq with h | h | h;omega;omega;have:=HXS.out q h;omega)).mono ?_
   rintro e w2 ⟨z,rfl,hz,hzk,hk2⟩
   haveI p_w2:Zb w2 _:=⟨hk2⟩
   have HZ:=hh hz
   have HZK:=hh hzk
   clear hz hzk hk2
   by_cases he:r.2=0
   ·have he':(r.2 != 0)=false:=by simp[he]
    have HO:=hh (show Qq t n (m+1) k x.er want=(r.1,0) by rw[HCH.out,if_neg (by simp[he])])
    clear HCH
    go_wp2_with fail
    refine bodyPost_ret (v:= .tuple #[.agg z.cells.toArray,.int .i64 0]) (Qm results33 (Z0 rfl inferInstance) (Zh rfl)) rfl ⟨z,by rw[HO.out],by rw[HO.out];exact HZ.out,(HZK.out.less (Y:=[w.heap.size,w.heap.size+1]) ((Kept.setRow _ _ _ (by simp)).trans (Kept.setRow _ _ _ (by simp))) (by simp)).sub (fun q hq=>by simp[hq]),kp⟩
   ·have he':(r.2 != 0)=true:=by simp[he]
    have HO:=hh (show Qq t n (m+1) k x.er want=(Zg,r.2) by rw[HCH.out,if_pos he])
    clear HCH
    go_wp2_with fail
    refine bodyPost_ret (v:= .tuple #[.agg Zg.cells.toArray,.int .i64 r.2]) (Qm results33 (Z0 rfl inferInstance) (Zh rfl)) rfl ⟨Zg,by rw[HO.out],by rw[HO.out];exact YD,(ZbU X _).mono (by omega),kp⟩
 ·have hv':(vk != 0)=true:=by simp[hv]
  have HO:=hh (show Qq t n (m+1) k x.er want=(Zg,vk) by rw[HC.out,if_pos hv])
  clear HC HS
  go_wp2_with fail
  refine bodyPost_ret (v:= .tuple #[.agg Zg.cells.toArray,.int .i64 vk]) (Qm results33 (Z0 rfl inferInstance) (Zh rfl)) rfl ⟨Zg,by rw[HO.out],by rw[HO.out];exact YD,(ZbU X _).mono (by omega),kp⟩
end
end Go.Proofs.YtfaecpkocgcofaaGreatDoor
