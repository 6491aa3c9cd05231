/- Lemmas for ResolveSettles, printed small: L6 L7 L9. -/
import Derived.Test.YtfaecpkocgcofaaGreatDoorZ41
set_option linter.all false
set_option maxRecDepth 100000
set_option maxHeartbeats 8000000
open Go.Proofs.Tryz
namespace Go.Proofs.YtfaecpkocgcofaaGreatDoor
section
open Go.RowKit
theorem ZiD (l:List Int):(QI l).Perm l:=List.mergeSort_perm _ _
theorem Zke (l:List Int):(QI l).Pairwise (·≤·):=by
 have:=List.pairwise_mergeSort (le:=fun x y:Int=>decide (x≤y)) (fun a b c h1 h2=>by simp at*;omega) (fun a b=>by simp;omega) l
 refine this.imp ?_
 intro a b h
 simpa using h
theorem ZsL {l l':List Int} (h:l.Pairwise (·≤·)) (h':l'.Pairwise (·≤·)) (hp:l.Perm l'):l=l':=by
 refine List.Perm.eq_of_pairwise (le:=fun a b:Int=>a≤b) ?_ h h' hp
 intro a b _ _ h1 h2
 omega
def ZqC (x:Int):List Int→List Int
 | []=>[x]
 | y::r=>if x≤y then x::y::r else y::ZqC x r
def ZdK:List Int→List Int
 | []=>[]
 | x::r=>ZqC x (ZdK r)
theorem Zcm (x:Int):∀l,(ZqC x l).Perm (x::l)
 | []=>List.Perm.refl _
 | y::r=>by
  unfold ZqC
  split
  ·exact List.Perm.refl _
  ·exact((Zcm x r).cons y).trans (List.Perm.swap x y r)
theorem Zh7 (x:Int):∀l,l.Pairwise (·≤·)→(ZqC x l).Pairwise (·≤·)
 | [],_=>by simp[ZqC]
 | y::r,h=>by
  unfold ZqC
  split
  ·rename_i hle
   refine List.pairwise_cons.2 ⟨fun z hz=>?_,h⟩
   rcases List.mem_cons.1 hz with rfl | hz
   ·exact hle
   ·exact Int.le_trans hle ((List.pairwise_cons.1 h).1 z hz)
  ·rename_i hle
   refine List.pairwise_cons.2 ⟨fun z hz=>?_,Zh7 x r (List.pairwise_cons.1 h).2⟩
   rcases List.mem_cons.1 ((Zcm x r).mem_iff.1 hz)with rfl | hz
   ·omega
   ·exact(List.pairwise_cons.1 h).1 z hz
theorem Zda:∀l,(ZdK l).Perm l
 | []=>List.Perm.refl _
 | x::r=>(Zcm x (ZdK r)).trans ((Zda r).cons x)
theorem Ze4:∀l,(ZdK l).Pairwise (·≤·)
 | []=>List.Pairwise.nil
 | x::r=>Zh7 x _ (Ze4 r)
theorem Za3 (l:List Int):QI l=ZdK l:=ZsL (Zke l) (Ze4 l) ((ZiD l).trans (Zda l).symm)
def Yg (n:Int):ExV:= .mk 1 0 n ⟨#[]⟩ none 0 [] none 0 [] 0 0 0
def QD (o:Int) (a b:ExV):ExV:= .mk 12 o 0 ⟨#[]⟩ none 0 [a,b] none 0 [] 0 0 0
def ZQ (s:ByteArray):ExV:= .mk 3 0 0 s none 0 [] none 0 [] 0 0 0
def ZcZ (f a:ExV):ExV:= .mk 7 0 0 ⟨#[]⟩ none 0 [f] none 0 [(none,[],0,a)] 0 0 0
def Znw (n:Int):ExV:= .mk 1 0 n ⟨#[]⟩ none 0 [] none 0 [] 0 (-1) 0
def YI (o t:Int) (a b:ExV):ExV:= .mk 12 o 0 ⟨#[]⟩ none 0 [a,b] none 0 [] 0 (-1) t
def YA (s:ByteArray) (i t:Int):ExV:= .mk 3 0 0 s none 0 [] none 0 [] 0 i t
inductive Uni:Nat→ExV→ExV→Prop
 | num (n:Int):0≤n→n≤2147483647→Uni 1 (Yg n) (Znw n)
 | two (o:Int) (a b x y:ExV) (s r:Nat):1≤o→o≤6→Uni s a x→Uni r b y→Uni (s+r+1) (QD o a b) (YI o 0 x y)
theorem Zu8:(⟨#[]⟩:ByteArray).toList= []:=by
 first
 | rfl
 | kernel_rfl
 | (unfold ByteArray.toList ByteArray.toList.loop;simp)
theorem QZ (x:ExV) (h1:(Z3 x).oper=0) (h2:(Z3 x).n=0) (h3:(Z3 x).s=⟨#[]⟩) (h4:(Z3 x).al= []):ZdT (Z3 x)=true:=by
 rw[ZdT,h1,h2,h3,h4,Zu8]
 rfl
theorem Zde {o:Int} (h:o≤6):ZN o=false:=by unfold ZN;simp;omega
theorem ZqR (t:Tab) (h:WhV) (o:Int) (a b x y:ExV) (h2:o≤6):Zjc t h (QD o a b) [[⟨0,1,false,x⟩],[⟨0,1,false,y⟩]]= [⟨0,1,false,YI o 0 x y⟩]:=by
 have ht:QL [[⟨0,1,false,x⟩],[⟨0,1,false,y⟩]]= [0]:=by
  unfold QL
  rw[Za3]
  rfl
 have hmay:ZdZ t h o 0=true:=by unfold ZdZ;rw[if_pos h2];rfl
 unfold Zjc
 rw[ht]
 show Zac [] (Zjd (ZdZ t h o) o (QD o a b) (fun ty=>(Zn9 (fun ms=>QR t h ms ty false) [[⟨0,1,false,x⟩],[⟨0,1,false,y⟩]],[[⟨0,1,false,x⟩],[⟨0,1,false,y⟩]].map fun ms=>(QR t h ms ty false).2)) 0)=_
 rw[Zjd,if_pos hmay,Zde h2]
 rfl
theorem Uni.look {t:Tab} {h:WhV} {s:Nat} {x e:ExV} (hU:Uni s x e):∀m,s≤m→Qu t h m x= [⟨0,1,false,e⟩]∧YW t h m x:=by
 induction hU with
 | num n h0 h1=>
  intro m hm
  obtain⟨k,rfl⟩:∃k,m=k+1:=⟨m - 1,by omega⟩
  have e:Qu t h (k+1) (Yg n)= [⟨0,1,false,Znw n⟩]:=rfl
  refine⟨e,.inl rfl,⟨by simp[Yg,ExV.ls],by simp[Yg,ExV.al]⟩,fun y hy=>by simp[Yg,ExV.ls]at hy,fun a ha=>by simp[Yg,ExV.al]at ha,by rw[e];simp,fun h7=>?_⟩
  have h8:(1:Int)=7:=h7
  omega
 | two o a b x y s r h1 h2 _ _ iha ihb=>
  intro m hm
  obtain⟨k,rfl⟩:∃k,m=k+1:=⟨m - 1,by omega⟩
  obtain⟨ea,oa⟩:=iha k (by omega)
  obtain⟨eb,ob⟩:=ihb k (by omega)
  have e:Qu t h (k+1) (QD o a b)=Zjc t h (QD o a b) [Qu t h k a,Qu t h k b]:=rfl
  rw[ea,eb,ZqR t h o a b x y h2]at e
  refine⟨e,.inr (.inr (.inr rfl)),⟨by simp[QD,ExV.ls],by simp[QD,ExV.al]⟩,fun y hy=>?_,fun a ha=>by simp[QD,ExV.al]at ha,by rw[e];simp,fun h7=>?_⟩
  ·simp only[QD,ExV.ls,List.mem_cons,List.not_mem_nil,or_false]at hy
   rcases hy with rfl | rfl
   ·exact oa
   ·exact ob
  ·have h8:(12:Int)=7:=h7
   omega
theorem Uni.pos {s:Nat} {x e:ExV} (hU:Uni s x e):1≤s:=by cases hU <;> omega
theorem Uni.may {assoc:List AsV→Bool} {s:Nat} {x e:ExV} (hU:Uni s x e):∀(n:Nat) (d l:Int),s≤n→d+s≤33→(s:Int)≤l→Jo assoc n d l x=(true,l - s):=by
 induction hU with
 | num v h0 h1=>
  intro n d l hn hd hl
  obtain⟨k,rfl⟩:∃k,n=k+1:=⟨n - 1,by omega⟩
  have hf:ZZ assoc (Yg v)=true:=by
   rw[ZZ,QZ _ rfl rfl rfl rfl]
   show((true && (decide (0≤v) && decide (v≤2147483647))) && true)=true
   rw[decide_eq_true h0,decide_eq_true h1]
   rfl
  rw[Jo,if_neg (by omega),if_neg (by omega),if_pos hf]
  rfl
 | two o a b x y s r h1 h2 _ _ iha ihb=>
  intro n d l hn hd hl
  obtain⟨k,rfl⟩:∃k,n=k+1:=⟨n - 1,by omega⟩
  have hf:ZZ assoc (QD o a b)=true:=by
   rw[ZZ,QZ _ rfl rfl rfl rfl]
   show((true && (decide (1≤o) && decide (o≤17))) && true)=true
   rw[decide_eq_true h1,decide_eq_true (by omega)]
   rfl
  have e1:=iha k (d+1) (l - 1) (by omega) (by omega) (by omega)
  have e2:=ihb k (d+1) (l - 1 - s) (by omega) (by omega) (by omega)
  rw[Jo,if_neg (by omega),if_neg (by omega),if_pos hf]
  show Z1 (fun l y=>Jo assoc k (d+1) l y) [a,b] (l - 1)=_
  simp only[Z1,e1,e2,if_true]
  congr 1
  omega
theorem Uni.unk {t:Tab} {h:WhV} {s:Nat} {x e:ExV} (hU:Uni s x e):∀n,YQ t h n x=false:=by
 induction hU with
 | num v h0 h1=>intro n;cases n <;> rfl
 | two o a b x y s r h1 h2 _ _ iha ihb=>
  intro n
  cases n with
  | zero=>rfl
  | succ n=>
   show((YQ t h n a || (YQ t h n b || false)) || false)=false
   rw[iha,ihb]
   rfl
theorem Uni.sel {s:Nat} {x e:ExV} (hU:Uni s x e):∀n,s≤n→Zby n x:=by
 induction hU with
 | num v h0 h1=>
  intro n hn
  obtain⟨k,rfl⟩:∃k,n=k+1:=⟨n - 1,by omega⟩
  exact⟨fun h=>by have h8:(1:Int)=4:=h;omega,fun y hy=>by simp[Yg,ExV.ls]at hy,fun a ha=>by simp[Yg,ExV.al]at ha⟩
 | two o a b x y s r h1 h2 _ _ iha ihb=>
  intro n hn
  obtain⟨k,rfl⟩:∃k,n=k+1:=⟨n - 1,by omega⟩
  refine⟨fun h=>by have h8:(12:Int)=4:=h;omega,fun y hy=>?_,fun a ha=>by simp[QD,ExV.al]at ha⟩
  simp only[QD,ExV.ls,List.mem_cons,List.not_mem_nil,or_false]at hy
  rcases hy with rfl | rfl
  ·exact iha k (by omega)
  ·exact ihb k (by omega)
theorem Uni.check {t:Tab} {h:WhV} {s:Nat} {x e:ExV} (hU:Uni s x e) (hs:s≤32) (n:Nat):QT t h n [x]=0:=by
 have h1:QK ZV x=true:=by
  rw[QK,hU.may 33 1 256 (by omega) (by omega) (by omega)]
 simp[QT,h1,hU.unk]
theorem Uni.is {t:Tab} (ht:(ZU t 0).isSome=true) {s:Nat} {x e:ExV} (hU:Uni s x e):∀n,s≤n→isP t n e=true:=by
 induction hU with
 | num v h0 h1=>
  intro n hn
  obtain⟨k,rfl⟩:∃k,n=k+1:=⟨n - 1,by omega⟩
  show((ZU t 0).isSome && true)=true
  rw[ht]
  rfl
 | two o a b x y s r h1 h2 _ _ iha ihb=>
  intro n hn
  obtain⟨k,rfl⟩:∃k,n=k+1:=⟨n - 1,by omega⟩
  show((ZU t 0).isSome && (decide (1≤o∧o≤17) && (true && (isP t k x && (isP t k y && true)))))=true
  rw[ht,iha k (by omega),ihb k (by omega),decide_eq_true (by omega)]
  rfl
theorem Uni.st {t:Tab} {s:Nat} {x e:ExV} (hU:Uni s x e):∀m,s≤m→ZbI t m e:=by
 induction hU with
 | num v h0 h1=>
  intro n hn
  obtain⟨k,rfl⟩:∃k,n=k+1:=⟨n - 1,by omega⟩
  exact⟨⟨by simp[Znw,ExV.ls],by simp[Znw,ExV.al]⟩,by show(1:Int)≠8∧(1:Int)≠9∧(1:Int)≠10∧(1:Int)≠13∧(1:Int)≠14;decide,fun y hy=>by simp[Znw,ExV.ls]at hy,fun a ha=>by simp[Znw,ExV.al]at ha,.inl rfl⟩
 | two o a b x y s r h1 h2 _ _ iha ihb=>
  intro n hn
  obtain⟨k,rfl⟩:∃k,n=k+1:=⟨n - 1,by omega⟩
  refine⟨⟨by simp[YI,ExV.ls],by simp[YI,ExV.al]⟩,by show(12:Int)≠8∧(12:Int)≠9∧(12:Int)≠10∧(12:Int)≠13∧(12:Int)≠14;decide,fun y hy=>?_,fun a ha=>by simp[YI,ExV.al]at ha,.inl rfl⟩
  simp only[YI,ExV.ls,List.mem_cons,List.not_mem_nil,or_false]at hy
  rcases hy with rfl | rfl
  ·exact iha k (by omega)
  ·exact ihb k (by omega)
theorem ZgE {I:ExV→ExV×Int} {t:Tab} {n:Nat} {z:ExV} {r:ExV×Int} (h:I z=r):ZI I t n z 0=r:=by
 rw[ZI,if_pos (.inr (by decide)),h]
theorem Zk1 (t:Tab) (n k:Nat) (o ty p:Int) (x y:ExV) (hp:YR t n (YI o ty x y)=(p,false)):ZaW t n (k+1) (YI o ty x y)=
 (let q:=Z5 (fun _ y=>ZI (ZaW t n k) t n y p) 0 [x,y]
 if q.2≠0 then((YI o ty x y).setL none 0 q.1,q.2)else(((YI o ty x y).setL none 0 q.1).setA none 0 [],0)):=by
 rw[ZaW]
 unfold JL
 rw[hp]
 rfl
theorem Uni.ins {t:Tab} {n s:Nat} {x e:ExV} (hU:Uni s x e):∀m,s≤m→ZaW t n m e=(e,0):=by
 induction hU with
 | num v h0 h1=>
  intro m hm
  obtain⟨k,rfl⟩:∃k,m=k+1:=⟨m - 1,by omega⟩
  rfl
 | two o a b x y s r h1 h2 _ _ iha ihb=>
  intro m hm
  obtain⟨k,rfl⟩:∃k,m=k+1:=⟨m - 1,by omega⟩
  have hp:YR t n (YI o 0 x y)=(0,false):=by
   show(if ZN o then _ else(0:Int),false)=_
   rw[Zde h2]
   rfl
  have hq:Z5 (fun(_:Nat) y=>ZI (ZaW t n k) t n y 0) 0 [x,y]=([x,y],0):=by
   simp only[Z5,ZgE (iha k (by omega)),ZgE (ihb k (by omega)),if_true]
  rw[Zk1 t n k o 0 0 x y hp,hq]
  rfl
theorem ZuI (t:Tab) (h:WhV) (e:ExV):QR t h [⟨0,1,false,e⟩] 0 false=(1,e):=rfl
theorem Ztt (t:Tab) (h:WhV) (e:ExV) (h1:Z9 t h 1=true):QR t h [⟨0,1,false,e⟩] 1 false=(1,e):=by
 show(if((false || (true && Z9 t h 1)) && (false || true))=true then(1,e)else(0,Zg))=_
 rw[h1]
 rfl
theorem Uni.expr0 {t:Tab} {h:WhV} {n s:Nat} {x e:ExV} (hU:Uni s x e) (hs:s≤32) (hn:s≤n):Yd t h n x 0=(e,0):=by
 rw[Yd,hU.check hs n,if_neg (by decide),(hU.look n hn).1,Zcs,if_pos (by decide),ZuI,if_pos (by decide),Qq,if_neg (show ¬JF 1≠0 by decide),if_neg (show ¬(0:Int) < 0 by decide),ZgE (hU.ins n hn)]
 rfl
def Zms (t:Tab) (n:Nat) (e:ExV):Prop:=(Zv t n e).2=0∧ -2147483648≤(Zv t n e).1∧(Zv t n e).1≤2147483647
theorem Uni.line {s:Nat} {x e:ExV} (hU:Uni s x e):e.line=0∧e.t=0:=by cases hU <;> exact⟨rfl,rfl⟩
theorem ZjL (t:Tab) (n:Nat) (v k:Int) (b:Bd) (h1:ZU t k=some b):(Zv t (n+1) (Jd v 0 k))=if v < b.1∨b.2 < v then(0,71)else(v,0):=by
 have hi:isP t (n+1) (Jd v 0 k)=true:=by
  show((ZU t k).isSome && true)=true
  rw[h1]
  rfl
 have hv:ZF t (n+1) (Jd v 0 k)=if v < b.1∨b.2 < v then none else some v:=by
  show(match ZU t k with | none=>none | some b=>ZO v b)=_
  rw[h1]
  rfl
 unfold Zv
 rw[if_pos hi,hv]
 by_cases hb:v < b.1∨b.2 < v
 ·rw[if_pos hb,if_pos hb]
 ·rw[if_neg hb,if_neg hb]
theorem Uni.val {t:Tab} (ht:(ZU t 0).isSome=true) {n s:Nat} {x e:ExV} (hU:Uni s x e) (hn:s≤n):(Zv t n e).2=0∨(Zv t n e).2=71:=by
 unfold Zv
 rw[if_pos (hU.is ht n hn)]
 split
 ·exact .inl rfl
 ·exact .inr rfl
theorem Uni.settle {t:Tab} (ht:(ZU t 0).isSome=true) (h1:ZU t 1=some (-2147483648,2147483647)) {I:ExV→ExV×Int} {n s:Nat} {x e:ExV} (hU:Uni s x e) (hn:s≤n):
 (Zms t n e∧ZI I t n e 1=(Jd (Zv t n e).1 0 1,0))∨(¬Zms t n e∧ZI I t n e 1=(e,71)):=by
 have hp:=hU.pos
 obtain⟨k,rfl⟩:∃k,n=k+1:=⟨n - 1,by omega⟩
 have hv:=hU.val ht hn
 rw[ZI,if_neg (by rw[hU.line.2];simp),if_neg (by omega),hU.line.1,ZjL t k _ 1 _ h1]
 unfold Zms
 rcases hv with h0 | h0
 ·rw[if_pos h0]
  by_cases hb:(Zv t (k+1) e).1 < -2147483648∨2147483647 < (Zv t (k+1) e).1
  ·rw[if_pos hb]
   exact .inr ⟨by omega,rfl⟩
  ·rw[if_neg hb]
   exact .inl ⟨⟨h0,by omega,by omega⟩,by rw[if_neg (by show ¬(0:Int)=71;decide)]⟩
 ·refine .inr ⟨by omega,?_⟩
  simp[h0]
theorem Uni.expr1 {t:Tab} {h:WhV} (ht:(ZU t 0).isSome=true) (h1:ZU t 1=some (-2147483648,2147483647)) (hi:Z9 t h 1=true) {n s:Nat} {x e:ExV} (hU:Uni s x e) (hs:s≤32) (hn:s≤n):
 (Zms t n e∧Yd t h n x 1=(Jd (Zv t n e).1 0 1,0))∨(¬Zms t n e∧Yd t h n x 1=(Zg,71)):=by
 rw[Yd,hU.check hs n,if_neg (by decide),(hU.look n hn).1,Zcs,if_pos (by decide),Ztt t h e hi,if_pos (by decide),Qq,if_neg (show ¬JF 1≠0 by decide),if_neg (show ¬(1:Int) < 0 by decide)]
 rcases hU.settle ht h1 (I:=ZaW t n n) hn with⟨a,b⟩ | ⟨a,b⟩
 ·rw[b];exact .inl ⟨a,rfl⟩
 ·rw[b];exact .inr ⟨a,rfl⟩
theorem ZmT (t:Tab) (s:ByteArray) (i ty:Int) (k:Nat):ZbI t (k+1) (YA s i ty):=
 ⟨⟨by simp[YA,ExV.ls],by simp[YA,ExV.al]⟩,by show(3:Int)≠8∧(3:Int)≠9∧(3:Int)≠10∧(3:Int)≠13∧(3:Int)≠14;decide,fun y hy=>by simp[YA,ExV.ls]at hy,fun a ha=>by simp[YA,ExV.al]at ha,.inl rfl⟩
theorem ZmS (t:Tab) (o ty:Int) (x y:ExV) (k:Nat) (hx:ZbI t k x) (hy:ZbI t k y):ZbI t (k+1) (YI o ty x y):=by
 refine⟨⟨by simp[YI,ExV.ls],by simp[YI,ExV.al]⟩,by show(12:Int)≠8∧(12:Int)≠9∧(12:Int)≠10∧(12:Int)≠13∧(12:Int)≠14;decide,fun z hz=>?_,fun a ha=>by simp[YI,ExV.al]at ha,.inl rfl⟩
 simp only[YI,ExV.ls,List.mem_cons,List.not_mem_nil,or_false]at hz
 rcases hz with rfl | rfl
 ·exact hx
 ·exact hy
theorem Zqz (t:Tab) (n k:Nat) (s:ByteArray) (i ty:Int) (hi:0≤i):ZaW t n (k+1) (YA s i ty)=(YA s i ty,0):=by
 have hp:YR t n (YA s i ty)=(0,true):=by
  show(if 0≤i then((0:Int),true)else(-1,false))=_
  rw[if_pos hi]
 rw[ZaW]
 unfold JL
 rw[hp]
 rfl
theorem Zst (t:Tab) (h:WhV) (x e y z:ExV) (hi:Z9 t h 1=true) (hd:Q6 t h 1=true):Zjc t h (QD 9 x y) [[⟨0,1,false,e⟩],[⟨1,1,true,z⟩]]= [⟨2,1,false,YI 9 2 e z⟩]:=by
 have ht:QL [[⟨0,1,false,e⟩],[⟨1,1,true,z⟩]]= [0,1]:=by
  unfold QL
  rw[Za3]
  rfl
 have e1:QR t h [⟨0,1,false,e⟩] 1 false=(1,e):=Ztt t h e hi
 have e2:QR t h [⟨1,1,true,z⟩] 1 false=(1,z):=rfl
 have e3:QR t h [⟨1,1,true,z⟩] 0 false=(0,Zg):=rfl
 have m1:ZdZ t h 9 1=true:=hd
 unfold Zjc
 rw[ht]
 show Zac (Zac [] (Zjd (ZdZ t h 9) 9 (QD 9 x y) (fun ty=>(Zn9 (fun ms=>QR t h ms ty false) [[⟨0,1,false,e⟩],[⟨1,1,true,z⟩]],[[⟨0,1,false,e⟩],[⟨1,1,true,z⟩]].map fun ms=>(QR t h ms ty false).2)) 0))
  (Zjd (ZdZ t h 9) 9 (QD 9 x y) (fun ty=>(Zn9 (fun ms=>QR t h ms ty false) [[⟨0,1,false,e⟩],[⟨1,1,true,z⟩]],[[⟨0,1,false,e⟩],[⟨1,1,true,z⟩]].map fun ms=>(QR t h ms ty false).2)) 1)=_
 have a0:Zac [] (Zjd (ZdZ t h 9) 9 (QD 9 x y) (fun ty=>(Zn9 (fun ms=>QR t h ms ty false) [[⟨0,1,false,e⟩],[⟨1,1,true,z⟩]],[[⟨0,1,false,e⟩],[⟨1,1,true,z⟩]].map fun ms=>(QR t h ms ty false).2)) 0)= []:=rfl
 rw[a0,Zjd,if_pos m1]
 simp only[Zn9,List.foldl,List.map,e1,e2]
 rfl
theorem Uni.ltOk {t:Tab} {h:WhV} (hi:Z9 t h 1=true) (hd:Q6 t h 1=true) {sN:ByteArray} {j:Int} (hN:∀k,Qu t h (k+1) (ZQ sN)= [⟨1,1,true,YA sN j 1⟩]) {n s:Nat} {x e:ExV} (hU:Uni s x e) (hn:s+1≤n):
 Qu t h n (QD 9 x (ZQ sN))= [⟨2,1,false,YI 9 2 e (YA sN j 1)⟩]∧YW t h n (QD 9 x (ZQ sN))∧Zby n (QD 9 x (ZQ sN))∧ZbI t n (YI 9 2 e (YA sN j 1)):=by
 have hp:=hU.pos
 obtain⟨k,rfl⟩:∃k,n=k+2:=⟨n - 2,by omega⟩
 obtain⟨ea,oa⟩:=hU.look (t:=t) (h:=h) (k+1) (by omega)
 have e1:Qu t h (k+2) (QD 9 x (ZQ sN))=Zjc t h (QD 9 x (ZQ sN)) [Qu t h (k+1) x,Qu t h (k+1) (ZQ sN)]:=rfl
 rw[ea,hN k,Zst t h x e (ZQ sN) _ hi hd]at e1
 have on:YW t h (k+1) (ZQ sN):=by
  refine⟨.inr (.inl rfl),⟨by simp[ZQ,ExV.ls],by simp[ZQ,ExV.al]⟩,fun y hy=>by simp[ZQ,ExV.ls]at hy,fun a ha=>by simp[ZQ,ExV.al]at ha,by rw[hN k];simp,fun h7=>?_⟩
  have h8:(3:Int)=7:=h7
  omega
 have ns:Zby (k+1) (ZQ sN):=⟨fun h=>by have h8:(3:Int)=4:=h;omega,fun y hy=>by simp[ZQ,ExV.ls]at hy,fun a ha=>by simp[ZQ,ExV.al]at ha⟩
 refine⟨e1,⟨.inr (.inr (.inr rfl)),⟨by simp[QD,ExV.ls],by simp[QD,ExV.al]⟩,fun y hy=>?_,fun a ha=>by simp[QD,ExV.al]at ha,by rw[e1];simp,fun h7=>?_⟩,⟨fun h=>by have h8:(12:Int)=4:=h;omega,fun y hy=>?_,fun a ha=>by simp[QD,ExV.al]at ha⟩,ZmS t 9 2 e _ (k+1) (hU.st _ (by omega)) (ZmT t sN j 1 k)⟩
 ·simp only[QD,ExV.ls,List.mem_cons,List.not_mem_nil,or_false]at hy
  rcases hy with rfl | rfl
  ·exact oa
  ·exact on
 ·have h8:(12:Int)=7:=h7
  omega
 ·simp only[QD,ExV.ls,List.mem_cons,List.not_mem_nil,or_false]at hy
  rcases hy with rfl | rfl
  ·exact hU.sel _ (by omega)
  ·exact ns
theorem Uni.ltCheck {t:Tab} {h:WhV} {sN:ByteArray} (hlex:ZbJ sN=true) (hfind:(Yk t h sN).length≠0) {n s:Nat} {x e:ExV} (hU:Uni s x e) (hs:s≤30):QT t h n [QD 9 x (ZQ sN)]=0:=by
 have hf:ZZ ZV (QD 9 x (ZQ sN))=true:=by
  rw[ZZ,QZ _ rfl rfl rfl rfl]
  rfl
 have hf2:ZZ ZV (ZQ sN)=true:=by
  rw[ZZ,QZ _ rfl rfl rfl rfl]
  show((true && ZbJ sN) && true)=true
  rw[hlex]
  rfl
 have e1:=hU.may (assoc:=ZV) 32 2 255 (by omega) (by omega) (by omega)
 have e2:Jo ZV 32 2 (255 - (s:Int)) (ZQ sN)=(true,255 - (s:Int) - 1):=by
  rw[Jo,if_neg (by omega),if_neg (by omega),if_pos hf2]
  rfl
 have h1:QK ZV (QD 9 x (ZQ sN))=true:=by
  rw[QK,Jo,if_neg (by omega),if_neg (by omega),if_pos hf]
  show(Z1 (fun l y=>Jo ZV 32 2 l y) [x,ZQ sN] 255).1=true
  simp only[Z1,e1,e2,if_true]
 have h2:YQ t h n (QD 9 x (ZQ sN))=false:=by
  cases n with
  | zero=>rfl
  | succ n=>
   show((YQ t h n x || (YQ t h n (ZQ sN) || false)) || false)=false
   have h3:YQ t h n (ZQ sN)=false:=by
    cases n with
    | zero=>rfl
    | succ n=>
     show decide ((Yk t h sN).length=0)=false
     exact decide_eq_false hfind
   rw[hU.unk,h3]
   rfl
 simp[QT,h1,h2]
theorem Uni.exprLt {t:Tab} {h:WhV} (ht:(ZU t 0).isSome=true) (h1:ZU t 1=some (-2147483648,2147483647)) (hi:Z9 t h 1=true) (hd:Q6 t h 1=true) (hb:QG t h 2=true) {sN:ByteArray} {j:Int} (hj:0≤j)
 (hN:∀k,Qu t h (k+1) (ZQ sN)= [⟨1,1,true,YA sN j 1⟩]) (hlex:ZbJ sN=true) (hfind:(Yk t h sN).length≠0) {n s:Nat} {x e:ExV} (hU:Uni s x e) (hs:s≤30) (hn:s+1≤n):
 (Zms t n e∧Yd t h n (QD 9 x (ZQ sN)) (-4)=(YI 9 2 (Jd (Zv t n e).1 0 1) (YA sN j 1),0))∨(¬Zms t n e∧Yd t h n (QD 9 x (ZQ sN)) (-4)=(Zg,71)):=by
 have hg:Zcs t h [⟨2,1,false,YI 9 2 e (YA sN j 1)⟩] (-4)=(1,YI 9 2 e (YA sN j 1)):=by
  show(if QG t h 2=true then((0:Int)+1,YI 9 2 e (YA sN j 1))else(0,Zg))=_
  rw[hb]
  rfl
 have hp:=hU.pos
 rw[Yd,hU.ltCheck hlex hfind hs,if_neg (by decide),(hU.ltOk hi hd hN hn).1,hg,if_neg (by decide),Qq,if_neg (show ¬JF 1≠0 by decide),if_pos (show(-1:Int) < 0 by decide)]
 obtain⟨k,rfl⟩:∃k,n=k+2:=⟨n - 2,by omega⟩
 have hset:ZI (ZaW t (k+2) (k+2)) t (k+2) (YI 9 2 e (YA sN j 1)) 1=ZaW t (k+2) (k+2) (YI 9 2 e (YA sN j 1)):=by
  rw[ZI,if_pos (.inl (by show(2:Int)≠0;decide))]
 have hpt:YR t (k+2) (YI 9 2 e (YA sN j 1))=(1,false):=by
  have he0:(e.t != 0)=false:=by rw[hU.line.2];rfl
  show(ZiS t (k+2) [e,YA sN j 1],false)=_
  unfold ZiS
  simp only[List.find?_cons,he0]
  rfl
 have hn1:ZI (ZaW t (k+2) (k+1)) t (k+2) (YA sN j 1) 1=(YA sN j 1,0):=by
  rw[ZI,if_pos (.inl (by show(1:Int)≠0;decide)),Zqz t (k+2) k sN j 1 hj]
 rw[hset,Zk1 t (k+2) (k+1) 9 2 1 e _ hpt]
 rcases hU.settle ht h1 (I:=ZaW t (k+2) (k+1)) (n:=k+2) (by omega)with⟨a,b⟩ | ⟨a,b⟩
 ·have hq:Z5 (fun(_:Nat) y=>ZI (ZaW t (k+2) (k+1)) t (k+2) y 1) 0 [e,YA sN j 1]=([Jd (Zv t (k+2) e).1 0 1,YA sN j 1],0):=by
   simp only[Z5,b,hn1,if_true]
  rw[hq]
  exact .inl ⟨a,rfl⟩
 ·have hq:Z5 (fun(_:Nat) y=>ZI (ZaW t (k+2) (k+1)) t (k+2) y 1) 0 [e,YA sN j 1]=([e,YA sN j 1],71):=by
   simp only[Z5,b]
   rfl
  rw[hq]
  exact .inr ⟨a,rfl⟩
def ZoJ (X:List Nat) (m:Nat) (μ:ExV) (w:World) (e:Ending) (w':World):Prop:=∃z:ExV,e= .returned (.agg z.cells.toArray)∧z.er=μ∧ExK X w' m z∧Kept [] w w'
theorem Zqo (s:ByteArray):(ZQ s).er=ZQ s:=by unfold ZQ;rw[ExV.er_mk];rfl
theorem Zql (n:Int):(Yg n).er=Yg n:=by unfold Yg;rw[ExV.er_mk];rfl
theorem Zqn (w:World) (s:ByteArray):Qe w 1 (ZQ s):=⟨.inl rfl,fun y hy=>by simp[ZQ,ExV.ls]at hy,.inl rfl,fun y hy=>by simp[ZQ,ExV.al]at hy,by simp[ZQ,ExV.ls],by simp[ZQ,ExV.al],by show(-9223372036854775808:Int)≤0;decide,by show(0:Int)≤9223372036854775807;decide,fun a ha=>by simp[ZQ,ExV.al]at ha⟩
theorem Zqk (w:World) (n:Int) (h: -9223372036854775808≤n∧n≤9223372036854775807):Qe w 1 (Yg n):=⟨.inl rfl,fun y hy=>by simp[Yg,ExV.ls]at hy,.inl rfl,fun y hy=>by simp[Yg,ExV.al]at hy,by simp[Yg,ExV.ls],by simp[Yg,ExV.al],h.1,h.2,fun a ha=>by simp[Yg,ExV.al]at ha⟩
def Zq3 (v0 v1:Value):Sem Next:=do return .value (←Instr.build 41 #[(0,v0),(3,v1)])
@[go_sem ↓] theorem Zpo (ρ:Operand→Value) (dst:Option Tmp) (x0 x1:Operand) (ty:TypeId) (pos:String) (after:Array Edge) (guard:Option (Nat×Bool)):
 execOp ρ {dst,op:= .build 41 #[(0,x0),(3,x1)],type:=ty,pos,after,guard}=Zq3 (ρ x0) (ρ x1):=by simp[execOp,Zq3]
@[go_sem] theorem ZrY (w:World) (s:ByteArray):Sem.run prog (Zq3 (.int .u8 3) (.string s)) w= .ok (.value (.agg (ZQ s).cells.toArray)) w:=by kernel_rfl
def Zuq (v0 v1:Value):Sem Next:=do return .value (←Instr.build 41 #[(0,v0),(2,v1)])
@[go_sem ↓] theorem ZqO (ρ:Operand→Value) (dst:Option Tmp) (x0 x1:Operand) (ty:TypeId) (pos:String) (after:Array Edge) (guard:Option (Nat×Bool)):
 execOp ρ {dst,op:= .build 41 #[(0,x0),(2,x1)],type:=ty,pos,after,guard}=Zuq (ρ x0) (ρ x1):=by simp[execOp,Zuq]
@[go_sem] theorem Zs9 (w:World) (n:Int):Sem.run prog (Zuq (.int .u8 1) (.int .i64 n)) w= .ok (.value (.agg (Yg n).cells.toArray)) w:=by kernel_rfl
def Zj0 (o:Int) (B:Nat) (a b:ExV):ExV:= .mk 12 o 0 ⟨#[]⟩ (some ⟨B,0,none⟩) 2 [a,b] none 0 [] 0 0 0
def ZcE (B C:Nat) (f a:ExV):ExV:= .mk 7 0 0 ⟨#[]⟩ (some ⟨B,0,none⟩) 1 [f] (some ⟨C,0,none⟩) 1 [(none,[],0,a)] 0 0 0
def Zun (v0 v1 v4:Value):Sem Next:=do return .value (←Instr.build 41 #[(0,v0),(1,v1),(4,v4)])
@[go_sem ↓] theorem ZqL (ρ:Operand→Value) (dst:Option Tmp) (x0 x1 x4:Operand) (ty:TypeId) (pos:String) (after:Array Edge) (guard:Option (Nat×Bool)):
 execOp ρ {dst,op:= .build 41 #[(0,x0),(1,x1),(4,x4)],type:=ty,pos,after,guard}=Zun (ρ x0) (ρ x1) (ρ x4):=by simp[execOp,Zun]
@[go_sem] theorem Zs6 (w:World) (o:Int) (B:Nat):Sem.run prog (Zun (.int .u8 12) (.int .u8 o) (.slice (some ⟨B,0,none⟩) 2 2)) w= .ok (.value (.agg #[.int .u8 12,.int .u8 o,.int .i64 0,.string ⟨#[]⟩,.slice (some ⟨B,0,none⟩) 2 2,.slice none 0 0,.int .i64 0,.int .i64 0,.int .i64 0])) w:=by kernel_rfl
def Zq5 (v0 v4 v5:Value):Sem Next:=do return .value (←Instr.build 41 #[(0,v0),(4,v4),(5,v5)])
@[go_sem ↓] theorem Zpq (ρ:Operand→Value) (dst:Option Tmp) (x0 x1 x4:Operand) (ty:TypeId) (pos:String) (after:Array Edge) (guard:Option (Nat×Bool)):
 execOp ρ {dst,op:= .build 41 #[(0,x0),(4,x1),(5,x4)],type:=ty,pos,after,guard}=Zq5 (ρ x0) (ρ x1) (ρ x4):=by simp[execOp,Zq5]
@[go_sem] theorem Zr0 (w:World) (B C:Nat):Sem.run prog (Zq5 (.int .u8 7) (.slice (some ⟨B,0,none⟩) 1 1) (.slice (some ⟨C,0,none⟩) 1 1)) w= .ok (.value (.agg #[.int .u8 7,.int .u8 0,.int .i64 0,.string ⟨#[]⟩,.slice (some ⟨B,0,none⟩) 1 1,.slice (some ⟨C,0,none⟩) 1 1,.int .i64 0,.int .i64 0,.int .i64 0])) w:=by kernel_rfl
def bS2 (v0 v1:Value):Sem Next:=do return .value (←Instr.buildSlice 38 2 #[(0,v0),(1,v1)])
@[go_sem ↓] theorem Zry (ρ:Operand→Value) (dst:Option Tmp) (x0 x1:Operand) (ty:TypeId) (pos:String) (after:Array Edge) (guard:Option (Nat×Bool)):
 execOp ρ {dst,op:= .buildSlice 38 2 #[(0,x0),(1,x1)],type:=ty,pos,after,guard}=bS2 (ρ x0) (ρ x1):=by simp[execOp,bS2]
@[go_sem] theorem ZtH (w:World) (a b:ExV):Sem.run prog (bS2 (.agg a.cells.toArray) (.agg b.cells.toArray)) w= .ok (.value (.slice (some ⟨w.heap.size,0,none⟩) 2 2)) (w.alloc (.cells ([a,b].map ExV.cells).flatten.toArray 41)):=by kernel_rfl
theorem Jc (X:List Nat) (w:World) (s:ByteArray):Calls prog 13 #[.string s] w (ZoJ X 1 (ZQ s) w):=by
 go_enter func13,ntmps13
 go_wp2_with fail
 exact bodyPost_ret (v:= .agg (ZQ s).cells.toArray) (Zj results13 (Z0 rfl inferInstance)) rfl ⟨_,rfl,Zqo s,fun _ _=>Zqn _ s,kp⟩
theorem YV (X:List Nat) (w:World) (n:Int) (h: -9223372036854775808≤n∧n≤9223372036854775807):Calls prog 15 #[.int .i64 n] w (ZoJ X 1 (Yg n) w):=by
 have HN:=hh h
 clear h
 go_enter func15,ntmps15
 go_wp2_with fail
 exact bodyPost_ret (v:= .agg (Yg n).cells.toArray) (Zj results15 (Z0 rfl inferInstance)) rfl ⟨_,rfl,Zql n,fun _ _=>Zqk _ n HN.out,kp⟩
theorem ZrD {X:List Nat} {w:World} {o:Int} {B m:Nat} {a b:ExV} (ha:ExK X w m a) (hb:ExK X w m b) (hB:w.heap[B]? =some (.cells ([a,b].map ExV.cells).flatten.toArray 41 (0,0))) (hX:B∉X):ExK X w (m+1) (Zj0 o B a b):=fun w' hk=>
 ⟨YJ (hk.obj hB hX) ExV.len,fun y hy=>by
  simp only[Zj0,ExV.ls,List.mem_cons,List.not_mem_nil,or_false]at hy
  rcases hy with rfl | rfl
  ·exact ha w' hk
  ·exact hb w' hk,.inl rfl,fun y hy=>by simp[Zj0,ExV.al]at hy,by simp[Zj0,ExV.ls],by simp[Zj0,ExV.al],by show(-9223372036854775808:Int)≤0;decide,by show(0:Int)≤9223372036854775807;decide,fun y hy=>by simp[Zj0,ExV.al]at hy⟩
theorem ZqV {X:List Nat} {w:World} {B C m:Nat} {f a:ExV} (hf:ExK X w m f) (ha:ExK X w m a) (hB:w.heap[B]? =some (.cells ([f].map ExV.cells).flatten.toArray 41 (0,0))) (hC:w.heap[C]? =some (.cells ([((none,[],0,a):AsV)].map AsV.cells).flatten.toArray 63 (0,0))) (hX:B∉X) (hY:C∉X):ExK X w (m+1) (ZcE B C f a):=fun w' hk=>
 ⟨YJ (hk.obj hB hX) ExV.len,fun y hy=>by
  simp only[ZcE,ExV.ls,List.mem_cons,List.not_mem_nil,or_false]at hy
  subst hy
  exact hf w' hk,YJ (hk.obj hC hY) AsV.len,fun y hy=>by
  simp only[ZcE,ExV.al,List.mem_cons,List.not_mem_nil,or_false]at hy
  subst hy
  exact ha w' hk,by simp[ZcE,ExV.ls],by simp[ZcE,ExV.al],by show(-9223372036854775808:Int)≤0;decide,by show(0:Int)≤9223372036854775807;decide,fun y hy=>by
  simp only[ZcE,ExV.al,List.mem_cons,List.not_mem_nil,or_false]at hy
  subst hy
  exact⟨.inl rfl,by simp,fun c hc=>by simp at hc⟩⟩
theorem ZpH (o:Int) (B:Nat) (a b:ExV):(Zj0 o B a b).er=QD o a.er b.er:=by unfold Zj0;rw[ExV.er_mk];rfl
theorem Zop (B C:Nat) (f a:ExV):(ZcE B C f a).er=ZcZ f.er a.er:=by unfold ZcE;rw[ExV.er_mk];rfl
theorem ZdG (X:List Nat) (w:World) (o:Int) (m:Nat) (a b:ExV) (ha:ExK X w m a) (hb:ExK X w m b) (hX:∀q,q∈X→q < w.heap.size):Calls prog 12 #[.int .u8 o,.agg a.cells.toArray,.agg b.cells.toArray] w (ZoJ X (m+1) (QD o a.er b.er) w):=by
 have HA:=hh ha
 have HB:=hh hb
 have HX:=hh hX
 clear ha hb hX
 go_enter func12,ntmps12
 go_wp2_with fail
 rw[show(#[.int .u8 12,.int .u8 o,.int .i64 0,.string ⟨#[]⟩,.slice (some ⟨w.heap.size+1+1+1,0,none⟩) 2 2,.slice none 0 0,.int .i64 0,.int .i64 0,.int .i64 0]:Array Value)=(Zj0 o (w.heap.size+1+1+1) a b).cells.toArray from rfl]
 refine bodyPost_ret (v:= .agg (Zj0 o (w.heap.size+1+1+1) a b).cells.toArray) (Zj results12 (Z0 rfl inferInstance)) rfl ⟨Zj0 o (w.heap.size+1+1+1) a b,rfl,ZpH _ _ _ _,ZrD (HA.out.kept kp) (HB.out.kept kp) ?_ (fun hm=>by have:=HX.out _ hm;omega),kp⟩
 exact Zf (o:= .cells ([a,b].map ExV.cells).flatten.toArray 41) (by simp)
theorem Zpx (X:List Nat) (w:World) (m:Nat) (a b:ExV) (ha:ExK X w m a) (hb:ExK X w m b) (hX:∀q,q∈X→q < w.heap.size):Calls prog 14 #[.agg a.cells.toArray,.agg b.cells.toArray] w (ZoJ X (m+1) (ZcZ a.er b.er) w):=by
 have HA:=hh ha
 have HB:=hh hb
 have HX:=hh hX
 clear ha hb hX
 go_enter func14,ntmps14
 go_wp2_with fail
 rw[show(#[.int .u8 7,.int .u8 0,.int .i64 0,.string ⟨#[]⟩,.slice (some ⟨w.heap.size+1+1+1,0,none⟩) 1 1,.slice (some ⟨w.heap.size+1+1+1+1,0,none⟩) 1 1,.int .i64 0,.int .i64 0,.int .i64 0]:Array Value)=(ZcE (w.heap.size+1+1+1) (w.heap.size+1+1+1+1) a b).cells.toArray from rfl]
 refine bodyPost_ret (v:= .agg (ZcE (w.heap.size+1+1+1) (w.heap.size+1+1+1+1) a b).cells.toArray) (Zj results14 (Z0 rfl inferInstance)) rfl ⟨ZcE (w.heap.size+1+1+1) (w.heap.size+1+1+1+1) a b,rfl,Zop _ _ _ _,ZqV (HA.out.kept kp) (HB.out.kept kp) ?_ ?_ (fun hm=>by have:=HX.out _ hm;omega) (fun hm=>by have:=HX.out _ hm;omega),kp⟩
 ·exact Zr (Zf (o:= .cells ([a].map ExV.cells).flatten.toArray 41) (by simp)) (by simp)
 ·exact Zf (o:= .cells ([((none,[],0,b):AsV)].map AsV.cells).flatten.toArray 63) (by simp)
end
end Go.Proofs.YtfaecpkocgcofaaGreatDoor
