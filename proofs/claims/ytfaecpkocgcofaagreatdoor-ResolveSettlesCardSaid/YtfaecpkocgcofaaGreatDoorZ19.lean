/- Lemmas for ResolveSettles, printed small: CB7. -/
import Derived.Test.YtfaecpkocgcofaaGreatDoorZ18
set_option linter.all false
set_option maxRecDepth 100000
set_option maxHeartbeats 8000000
open Go.Proofs.Tryz
namespace Go.Proofs.YtfaecpkocgcofaaGreatDoor
section
open Go.RowKit Go.Shelf
attribute [local go_sem] Oper.semAt_some
structure KpD (n B:Nat) (w w':World):Prop where
 os:w'.os=w.os
 tape:w'.tape=w.tape
 output:w'.output=w.output
 size:w.heap.size≤w'.heap.size
 block:∀k c ty fr,w.heap[k]? =some (.cells c ty fr)→(k < n∧k≠B)∨ty=95→w'.heap[k]? =some (.cells c ty fr)
theorem KpD.refl (n B:Nat) (w:World):KpD n B w w:=⟨rfl,rfl,rfl,Nat.le_refl _,fun _ _ _ _ h _=>h⟩
theorem KpD.trans {n B:Nat} {a b c:World} (h:KpD n B a b) (k:KpD n B b c):KpD n B a c:=
 ⟨k.os.trans h.os,k.tape.trans h.tape,k.output.trans h.output,Nat.le_trans h.size k.size,fun i x ty fr hi hx=>k.block i x ty fr (h.block i x ty fr hi hx) hx⟩
theorem KpD.of_kept {n B:Nat} {a b:World} (h:Kept [] a b):KpD n B a b:=
 ⟨h.os,h.tape,h.output,h.size,fun i x ty fr hi _=>h.obj hi (by simp)⟩
theorem KpD.of_grown {n B:Nat} {a b:World} {row:Option Nat} (h:a.grownBy b row) (hr:∀k,row=some k→(n≤k∨k=B)∧∀c ty fr,a.heap[k]? =some (.cells c ty fr)→ty≠95):KpD n B a b:=
 ⟨h.os,h.tape,h.output,h.size,fun i x ty fr hi hx=>(h.block i (Array.getElem?_eq_some_iff.1 hi).1 (fun e=>by
  obtain⟨h1,h2⟩:=hr i e.symm
  rcases hx with hx | hx
  ·omega
  ·exact h2 _ _ _ hi hx)).trans hi⟩
def Zpu (t:Tab) (h:WhV) (all out:List Int) (r:Int):List Int:=out++all.filter (ZeQ t h r out)
def Qt (t:Tab) (h:WhV) (all rs:List Int):List Int:=rs.foldl (Zpu t h all) []
theorem ZfT (t:Tab) (h:WhV) (all rs:List Int) (r:Int):Qt t h all (rs++ [r])=Zpu t h all (Qt t h all rs) r:=by simp[Qt]
theorem Zoj {t:Tab} {h:WhV} {all:List Int}:∀(rs acc:List Int),(∀e,e∈acc→e∈all)→∀e,e∈rs.foldl (Zpu t h all) acc→e∈all:=by
 intro rs
 induction rs with
 | nil=>intro acc ha e he;exact ha e he
 | cons r rs ih=>
  intro acc ha e he
  refine ih _ (fun x hx=>?_) e he
  rw[Zpu,List.mem_append]at hx
  rcases hx with hx | hx
  ·exact ha x hx
  ·exact(List.mem_filter.1 hx).1
theorem Zeh {t:Tab} {h:WhV} {all rs:List Int} {e:Int} (he:e∈Qt t h all rs):e∈all:=Zoj rs [] (fun _ h=>by simp at h) e he
theorem ZM.keptC {w w':World} {A:Option Addr} {xs:List Int} (h:ZM w A xs) (hk:YH [] w w'):ZM w' A xs:=by
 rcases h with h | ⟨b,o,e,hc⟩
 ·exact .inl h
 ·exact .inr ⟨b,o,e,fun j x hx=>hk.cell (hc j x hx) (by simp)⟩
theorem ZX.keptC {w w':World} {F:Nat} {v:Zp} {t:Tab} {h:WhV} {name:ByteArray} {all:List Int} (hf:ZX w F v t h name all) (hk:YH [] w w'):ZX w' F v t h name all:=by
 obtain⟨⟨a,c,h1,h2,h3,h4⟩,ht,hw⟩:=hf
 exact⟨⟨a,c,hk.block _ _ h1 rfl (by simp),h2.keptC hk,h3,h4⟩,ht.keptC hk (by simp),⟨hw.u.keptC hk,hw.u1,hw.u2,hw.s.keptC hk,hw.s1,hw.s2,hw.us5⟩⟩
theorem KpD.old {n B:Nat} {w w0 W:World} (h0:Kept [] w w0) (h:KpD n B w0 W) (hB:w.heap.size≤B) (hn:w.heap.size≤n):YH [] w W:=
 ⟨h.os.trans h0.os,h.tape.trans h0.tape,h.output.trans h0.output,Nat.le_trans h0.size h.size,fun k o hk ho _=>by
  have hl:=(Array.getElem?_eq_some_iff.1 hk).1
  have h1:=h0.obj hk (by simp)
  cases o <;> simp[Obj.isCells]at ho
  exact h.block k _ _ _ h1 (.inl ⟨by omega,by omega⟩)⟩
def Ztn (t:Tab) (h:WhV) (all:List Int) (n B:Nat) (w W0:World) (pre:List Int) (W:World):Prop:=
 (KpD n B W0 W∧∃A c,W.heap[B]? =some (.cells #[.slice A (Qt t h all pre).length c] 31 (0,0))∧W.ownsRow n 3 1 (.slice A (Qt t h all pre).length c) (Qt t h all pre).length ((Qt t h all pre).map (Value.int .i64)))∧Below w.heap.size w W
theorem Zba {W:World} {r k:Nat} {c:Array Value} {ty:TypeId} {fr:Nat×Nat} (hk:W.heap[k]? =some (.cells c ty fr)) (hr:∃o:Obj,W.heap[r]? =some o∧o.isCells=false):k≠r:=by
 rintro rfl
 obtain⟨o,ho,hc⟩:=hr
 rw[hk]at ho
 injection ho with ho
 subst ho
 cases hc
theorem Zig (t:Tab) (h:WhV) (all:List Int) (n B:Nat) (w W0:World) (hn:w.heap.size≤n):OwnFrom n (Ztn t h all n B w W0):=by
 intro s X Y row hs hg hr
 obtain⟨⟨hk,A,c,hb,ho⟩,hB⟩:=hs
 have hne:∀(k:Nat) (c:Array Value) (ty:TypeId) (fr:Nat×Nat),X.heap[k]? =some (Obj.cells c ty fr)→Y.heap[k]? =some (Obj.cells c ty fr):=fun k c ty fr hc=>
  (hg.block k (Array.getElem?_eq_some_iff.1 hc).1 (fun e=>Zba hc (hr k e.symm).2 rfl)).trans hc
 refine⟨⟨hk.trans (KpD.of_grown hg (fun k e=>⟨.inl (hr k e).1,fun c ty fr hc=>absurd rfl (Zba hc (hr k e).2)⟩)),A,c,hne _ _ _ _ hb,?_⟩,hB.grown hg hB.size (fun k e=>Nat.le_trans hn (hr k e).1)⟩
 refine⟨ho.1,?_⟩
 rcases ho.2 with h1 | ⟨g,cap,cur,h1,h2,h3,h4⟩
 ·exact .inl h1
 ·exact .inr ⟨g,cap,cur,h1,h2,hne _ _ _ _ h3,h4⟩
theorem ZaE {P:Program} {w:World} {o:Oper} {a:Act} {K:Act→World→Prop} {Q:Exit→Act→World→Prop} (s x:Operand) (t:TypeId)
 (ho:o.op= .call {callee:= .builtin .append,args:=#[s,x],argTypes:=#[t,t]})
 (base:Nat) (e:TypeId) (i:TypeInfo) (z:Value) (size bytes:Nat) (ht:P.underlying t=some (.slice e)) (hi:P.info? e=some i) (hz:i.zero=some z)
 (hsize:i.size=size) (hby:i.bytes=bytes) (hzs:z.cells.size=size) (hsz:0 < size)
 (v:Value) (n:Nat) (xs:List Value) (hs:a.eval s=v) (hown:w.ownsRow base e size v n xs)
 (A:Option Addr) (m c:Nat) (news:List Value) (hx:a.eval x= .slice A m c) (hr:YG w size A m news) (h1:∀u∈news,u.oneCell'=true)
 (h63:n+m≤maxLen) (hbytes:(n+m)*bytes≤140737488355328) (hbase:base≤w.heap.size)
 (h:∀v' w',w'.ownsRow base e size v' (n+m) (xs++news)→w.grownBy w' v.ownBlock→K (a.put o.dst v') w'):Oper.wp P o a w K Q:=by
 obtain⟨v',w',hr',h2,h3,h4⟩:=J6 (P:=P) w base t o.type e i z size bytes ht hi hz hsize hby hzs hsz v n xs hown A m c news hr h1 h63 hbytes hbase
 unfold Oper.wp execOp
 simp only[ho,resolve,invoke,builtin,Sem.run_bind,Sem.run_pure,Result.andThen_ok,List.map_toArray,List.map_cons,List.map_nil,hs,hx,hr']
 exact h v' w' h2 h3
theorem Zaj {W W':World} {base e size n:Nat} {v:Value} {xs:List Value} (h:W.ownsRow base e size v n xs) (hk:∀g c,base≤g→W.heap[g]? =some (.cells c e (0,0))→W'.heap[g]? =some (.cells c e (0,0))):W'.ownsRow base e size v n xs:=by
 refine⟨h.1,?_⟩
 rcases h.2 with h1 | ⟨g,cap,cur,h1,h2,h3,h4⟩
 ·exact .inl h1
 ·exact .inr ⟨g,cap,cur,h1,h2,hk g cur h2 h3,h4⟩
theorem Za7 {W:World} {base e size n:Nat} {v:Value} {xs:List Value} (h:W.ownsRow base e size v n xs) {k:Nat} (hk:v.ownBlock=some k):∃c,W.heap[k]? =some (.cells c e (0,0)):=by
 rcases h.2 with⟨rfl,_⟩ | ⟨g,cap,cur,rfl,h2,h3,h4⟩
 ·cases hk
 ·cases hk;exact⟨_,h3⟩
theorem KeepsOthers.of_kept {a b:World} (h:Kept [] a b):KeepsOthers a b:=⟨h.size,fun k o hk _=>h.obj hk (by simp)⟩
theorem KpD.setCell {n B:Nat} (W:World) (v:Value) {c:Array Value} {ty:TypeId} {fr:Nat×Nat} (hB:W.heap[B]? =some (.cells c ty fr)) (hty:ty≠95):KpD n B W (W.setCell ⟨B,0,none⟩ v):=
 ⟨rfl,rfl,rfl,by simp,fun k c' ty' fr' hk hx=>(heap_setCell_other W ⟨B,0,none⟩ k v (by
  rcases hx with hx | hx
  ·exact hx.2
  ·rintro rfl
   rw[hk]at hB
   cases hB
   exact hty hx)).trans hk⟩
theorem Zei {t:Tab} {h:WhV} {all:List Int}:∀(rs acc:List Int),(rs.foldl (Zpu t h all) acc).length≤acc.length+rs.length*all.length:=by
 intro rs
 induction rs with
 | nil=>intro acc;simp
 | cons r rs ih=>
  intro acc
  refine Nat.le_trans (ih _) ?_
  rw[Zpu,List.length_append,List.length_cons,Nat.add_mul,Nat.one_mul]
  have:=List.length_filter_le (ZeQ t h r acc) all
  omega
def Zmk (xs:List Int) (w:World) (e:Ending) (w':World):Prop:=∃v,e= .returned v∧w'.ownsRow w.heap.size 3 1 v xs.length (xs.map (Value.int .i64))∧Kept [] w w'
theorem ZhU {W:World} {base base' e size n:Nat} {v:Value} {xs:List Value} (h:W.ownsRow base e size v n xs) (hb:base'≤base):W.ownsRow base' e size v n xs:=by
 refine⟨h.1,?_⟩
 rcases h.2 with h1 | ⟨g,cap,cur,h1,h2,h3⟩
 ·exact .inl h1
 ·exact .inr ⟨g,cap,cur,h1,by omega,h3⟩
theorem ZgG (w:World) (F:Nat) (v:Zp) (t:Tab) (h:WhV) (name:ByteArray) (all:List Int) (hF:ZX w F v t h name all) (hl:∀e,e∈all→(Y9 t e).isSome=true) (hs:all.length≤5000) (hrn:(Y0 t h.region).length≤5000):
 Calls prog 156 #[.pointer (some ⟨F,0,none⟩)] w (Zmk (Qt t h all (Y0 t h.region)) w):=by
 have HF:=hh hF
 have HL:=hh hl
 obtain⟨a',c',_,_,_,f0,f1,f2,f3,f4,f5,_⟩:=hF.cells
 clear hF hl
 refine(callsIn_wide (n:=4)).1 ?_
 refine callsIn_of_wp_marks func156 rfl trivial ?_ rfl
 simp only[ntmps156,List.size_toArray,List.length_cons,List.length_nil,Nat.reduceAdd,Nat.reduceSub,Array.replicate_succ,Array.replicate_zero,List.push_toArray,List.append_toArray,List.nil_append,List.cons_append]
 gi_wp2
 refine Zdz ?_
 intro w1 hw1
 have HK1:Hid (Kept [] w w1):=by rw[Hid,hw1];exact(Kept.alloc _ _ _).trans (Kept.alloc _ _ _)
 have b0:w1.heap[w.heap.size]? =some (.cells #[.pointer (some ⟨F,0,none⟩)] 229 (0,0)):=by rw[hw1];exact Zr (Zf rfl) (by simp)
 have b1:w1.heap[w.heap.size+1]? =some (.cells #[.slice none 0 0] 31 (0,0)):=by rw[hw1];exact Zf (by simp)
 have hsz1:w1.heap.size=w.heap.size+2:=by rw[hw1];simp
 replace f0:=HK1.out.cell f0 (by simp)
 replace f1:=HK1.out.cell f1 (by simp)
 replace f2:=HK1.out.cell f2 (by simp)
 replace f3:=HK1.out.cell f3 (by simp)
 replace f4:=HK1.out.cell f4 (by simp)
 replace f5:=HK1.out.cell f5 (by simp)
 have g0:=(ZB b0).1
 have HB0:=hh b0
 have HB1:=hh b1
 have HSZ1:=hh hsz1
 clear hw1 b0 b1 hsz1
 refine wpIn_wide.2 ?_
 go_still_tail 9,(by kernel_rfl)
 change wpList _ _ _ _ _ w1.drew
 go_wp2_with fail
 refine(Zbm w1.drew v t h.region).mono ?_
 rintro e w' ⟨rfl,rfl⟩
 go_wp2_with fail
 gi_wp2
 refine Zdz ?_
 intro W0 hW0
 have hk0:Kept [] w1 W0:=by rw[hW0];exact((Kept.alloc _ _ _).trans (Kept.alloc _ _ _)).trans (Kept.drew _ _)
 have hvb:Yw W0 w1.heap.size v t:=by rw[hW0];exact Zr (Zf rfl) (by simp)
 have hrc:W0.heap[w1.heap.size+1]? =some (.cells #[.int .i64 h.region] 3 (0,0)):=by rw[hW0];exact Zf (by simp)
 have hsz0:W0.heap.size=w1.heap.size+2:=by rw[hW0];show((w1.alloc _).alloc _).heap.size=_;simp
 have hb1:W0.heap[w.heap.size+1]? =some (.cells #[.slice none 0 0] 31 (0,0)):=hk0.obj HB1.out (by simp)
 have hb0:W0.heap[w.heap.size]? =some (.cells #[.pointer (some ⟨F,0,none⟩)] 229 (0,0)):=hk0.obj HB0.out (by simp)
 have hkw0:Kept [] w W0:=HK1.out.trans hk0
 have hs1:=HSZ1.out
 have hBel:Below w.heap.size w W0:=hkw0.toBelow (Nat.le_refl _) (by simp)
 clear hW0
 obtain⟨n1,hn1⟩:∃n1,W0.heap.size=n1:=⟨_,rfl⟩
 have HFO:Hid (∀W,KpD n1 (w.heap.size+1) W0 W→ZX W F v t h name all):=fun W hk=>HF.out.keptC (KpD.old hkw0 hk (by omega) (by omega))
 have hI0:Ztn t h all n1 (w.heap.size+1) w W0 [] W0:=⟨⟨KpD.refl _ _ _,none,0,hb1,World.ownsRow_nil _ _ _ _⟩,hBel⟩
 refine wpIn_rangeFunc_ownH rfl (by omega) (gf:=238) (lb:=#[.pointer (some ⟨w1.heap.size+1,0,none⟩),.pointer (some ⟨w1.heap.size,0,none⟩)]) rfl trivial (enters_of func238 (by kernel_rfl) rfl)
  (J8 3 (by omega) (w1.heap.size+1) w1.heap.size v t h.region (KpD n1 (w.heap.size+1)) W0 (fun h k=>h.trans k) (fun h=>KpD.of_kept h) (fun h hb=>h.block _ _ _ _ hb (.inr rfl)) (fun W hk=>⟨(HFO.out W hk).tab,hk.block _ _ _ _ hvb (.inl ⟨by omega,by omega⟩)⟩) (ZB hrc).1)
  (fun h k=>h.trans k) (fun W l u u' hl h hc _=>KpD.of_grown (grownBy_putObj' W l u') (fun k e=>by cases e;exact⟨.inl (by omega),fun c ty fr hcc=>by rw[h]at hcc;injection hcc with hcc;subst hcc;cases hc⟩)) (Below.refl _ _) (fun _=>rfl)
  (Ztn t h all n1 (w.heap.size+1) w W0) (fun _ _ _=>False) (by rw[hn1];exact Zig _ _ _ _ _ _ _ (by omega)) (fun _ _ _ _ _ hs _ _=>hs) hI0
  (fun x a' W=>∃Br,W.heap[Br]? =some (.cells #[.int .i64 x] 3 (0,0))∧a'={tmps:=#[.pointer (some ⟨F,0,none⟩),.pointer (some ⟨w.heap.size,0,none⟩),.slice none 0 0,.pointer (some ⟨w.heap.size+1,0,none⟩),.pointer (some ⟨Br,0,none⟩),.pointer (some ⟨F,0,none⟩),.pointer (some ⟨F,0,none⟩),.pointer (some ⟨F,0,none⟩),
   .agg #[.slice v.ta t.types.length v.tc,.slice v.sa t.subs.length v.sc,.slice v.ea t.ents.length v.ec,.slice v.ga v.gn v.gc,.slice v.ia v.im v.ic],.pointer (some ⟨F,0,none⟩),.pointer (some ⟨F,0,none⟩),.pointer (some ⟨F,5,none⟩),.pointer (some ⟨F,5,none⟩),.int .i64 h.region,
   .func (.func 238) #[] #[.pointer (some ⟨w1.heap.size+1,0,none⟩),.pointer (some ⟨w1.heap.size,0,none⟩)],.int .i64 x,undef,undef,undef,undef,undef,undef,undef,undef,undef],defers:=[]})
  (fun x a' s X Y row hs hg hr=>by
   obtain⟨Br,hb,e⟩:=hs
   exact⟨Br,(hg.block Br (Array.getElem?_eq_some_iff.1 hb).1 (fun e=>Zba hb (hr Br e.symm).2 rfl)).trans hb,e⟩) ?assign ?body ?done ?stop
 case assign=>
  rintro l pre x W K hi hK
  have hle:w.heap.size≤n1:=by omega
  clear hs1 hsz0 hn1
  gi_wp2
  exact hK _ _ ((KeepsOthers.alloc _ _).from _) (KpD.of_kept (Kept.alloc _ _ _)) (OwnFrom.alloc (Zig t h all n1 (w.heap.size+1) w W0 hle) _ hi) ⟨W.heap.size,heap_alloc_new _ _,rfl⟩
 case body=>
  rintro l pre x a' W hl hloop hi ⟨Br,hbr,rfl⟩ hlen
  have hle:w.heap.size+2≤n1:=by omega
  obtain⟨⟨hkd,A,c,hbo,hown⟩,hbel⟩:=hi
  have hf:=HFO.out W hkd
  obtain⟨aa,cc,hall,hall1,hall2,_,_,_,_,_,_,_,_,_,_,f10⟩:=hf.cells
  have hbf:W.heap[w.heap.size]? =some (.cells #[.pointer (some ⟨F,0,none⟩)] 229 (0,0)):=hkd.block _ _ _ _ hb0 (.inl ⟨by omega,by omega⟩)
  have gf:=(ZB hbf).1
  have HBO:=hh hbo
  have HOWN:=hh hown
  have HKD:=hh hkd
  have HBEL:=hh hbel
  have HFW:=hh hf
  have HBR:=hh hbr
  have HBF:=hh hbf
  have HN1:=hh hn1
  have HALL:=hh hall
  have hnW:n1≤W.heap.size:=by have:=hkd.size;omega
  clear hs1 hsz0 hn1 hbo hown hkd hbel hf hbr hbf hb0 hb1 hrc hvb hall f0 f1 f2 f3 f4 f5 g0 hBel hI0
  gi_wp2
  refine ZbW (S:=fun wx=>wx.cell? ⟨w.heap.size,0,none⟩=some (.pointer (some ⟨F,0,none⟩))∧wx.cell? ⟨F,10,none⟩=some (.slice aa all.length cc)) (by kernel_rfl) (by kernel_rfl) (fun _ _ h=>h) ⟨by simpa using gf,by simpa using f10⟩ ?_
  intro hS
  refine wpAnyH_take (i:=1) (v:= .pointer (some ⟨F,0,none⟩)) rfl (by kernel_rfl) (by kernel_rfl) (by kernel_rfl) (fun _ _ _ h=>h) (Or.inl ⟨by rfl,?_⟩) hS ?_
  ·rintro wx ⟨h1,h2⟩
   go_simp
  refine wpAnyH_take (i:=2) (v:= .pointer (some ⟨F,0,none⟩)) rfl (by kernel_rfl) (by kernel_rfl) (by kernel_rfl) (fun _ _ _ h=>h) (Or.inl ⟨by rfl,?_⟩) hS ?_
  ·rintro wx ⟨h1,h2⟩
   go_simp
  refine wpAnyH_take (i:=3) (v:= .pointer (some ⟨F,10,none⟩)) rfl (by kernel_rfl) (by kernel_rfl) (by kernel_rfl) (fun _ _ _ h=>h) (Or.inl ⟨by rfl,?_⟩) hS ?_
  ·rintro wx ⟨h1,h2⟩
   go_simp
  refine wpAnyH_take (i:=4) (v:= .slice aa all.length cc) rfl (by kernel_rfl) (by kernel_rfl) (by kernel_rfl) (fun _ _ _ h=>h) (Or.inl ⟨by rfl,?_⟩) hS ?_
  ·rintro wx ⟨h1,h2⟩
   go_simp
  refine wpAnyH_take (i:=5) (v:= .func (.func 227) #[] #[.pointer (some ⟨w.heap.size,0,none⟩),.pointer (some ⟨Br,0,none⟩),.pointer (some ⟨w.heap.size+1,0,none⟩)]) rfl (by kernel_rfl) (by kernel_rfl) (by kernel_rfl) (fun _ _ _ h=>h) (Or.inl ⟨by rfl,?_⟩) hS ?_
  ·rintro wx ⟨h1,h2⟩
   go_simp
  have hcbo:=(ZB HBO.out).1
  obtain⟨_,hin,ho1,ho2,_⟩:=(Yb.of_owns HOWN.out).at_
  have hkept:Calls prog 158 #[.slice aa all.length cc,.func (.func 227) #[] #[.pointer (some ⟨w.heap.size,0,none⟩),.pointer (some ⟨Br,0,none⟩),.pointer (some ⟨w.heap.size+1,0,none⟩)]] W.drew _:=
   Zb6 W.drew aa cc all hall1 hall2 (HALL.out.kept (Kept.drew _ _)) (by omega) 227 #[.pointer (some ⟨w.heap.size,0,none⟩),.pointer (some ⟨Br,0,none⟩),.pointer (some ⟨w.heap.size+1,0,none⟩)] (ZeQ t h x (Qt t h all pre)) (Go.Proofs.enters_of func227 (by kernel_rfl) rfl)
    (fun Wz e hk he=>by
     obtain⟨k,y,rfl,hy,_⟩:=Zag (HL.out e he)
     have hkz:Kept [] W Wz:=(Kept.drew _ _).trans hk
     exact Zhn Wz F w.heap.size Br (w.heap.size+1) v t h name all k y hy x (HFW.out.kept hkz) (hkz.cell gf (by simp)) (hkz.cell (ZB HBR.out).1 (by simp)) A c (Qt t h all pre) (hkz.cell hcbo (by simp)) ho1 ho2 (hin.kept hkz) (fun e' he'=>HL.out e' (Zeh he')))
  have HKEPT:=hh hkept
  have HIN:=hh hin
  clear hkept hin
  have hlo:(Qt t h all pre).length≤5000*5000:=by
   have h1:=Zei (t:=t) (h:=h) (all:=all) pre []
   have h2:pre.length*all.length≤5000*5000:=Nat.mul_le_mul (by omega) hs
   unfold Qt
   simp only[List.length_nil,Nat.zero_add]at h1
   omega
  have HTAIL:Hid (∀(w2:World) (A2:Option Addr) (c2:Nat) (ws:World) (vs:Value),Kept [] W.drew w2→(w2.ownsRow W.drew.heap.size 3 1 (.slice A2 (all.filter (ZeQ t h x (Qt t h all pre))).length c2) (all.filter (ZeQ t h x (Qt t h all pre))).length ((all.filter (ZeQ t h x (Qt t h all pre))).map (Value.int .i64)))→
   ws.ownsRow n1 3 1 vs ((Qt t h all pre).length+(all.filter (ZeQ t h x (Qt t h all pre))).length) ((Qt t h all pre).map (Value.int .i64)++(all.filter (ZeQ t h x (Qt t h all pre))).map (Value.int .i64))→w2.grownBy ws (Value.slice A (Qt t h all pre).length c).ownBlock→
   (KeepsFrom n1 W (ws.setCell ⟨w.heap.size+1,0,none⟩ vs)∧KpD n1 (w.heap.size+1) W (ws.setCell ⟨w.heap.size+1,0,none⟩ vs)∧Ztn t h all n1 (w.heap.size+1) w W0 (pre++ [x]) (ws.setCell ⟨w.heap.size+1,0,none⟩ vs))):=by
   intro w2 A2 c2 ws vs hk2 _ hos hg
   have hk2':Kept [] W w2:=(Kept.drew _ _).trans hk2
   have how2:w2.ownsRow n1 3 1 (.slice A (Qt t h all pre).length c) (Qt t h all pre).length ((Qt t h all pre).map (Value.int .i64)):=Zaj HOWN.out (fun g c _ hc=>hk2'.obj hc (by simp))
   have hge:=ZaD how2
   have hbw2:w2.heap[w.heap.size+1]? =some (.cells #[.slice A (Qt t h all pre).length c] 31 (0,0)):=hk2'.obj HBO.out (by simp)
   have hbws:ws.heap[w.heap.size+1]? =some (.cells #[.slice A (Qt t h all pre).length c] 31 (0,0)):=
    (hg.block _ (Array.getElem?_eq_some_iff.1 hbw2).1 (fun e=>by have:=hge _ e.symm;omega)).trans hbw2
   have hK1:KpD n1 (w.heap.size+1) w2 ws:=KpD.of_grown hg (fun k e=>⟨.inl (hge k e),fun c' ty fr hc h43=>by
    obtain⟨cu,hcu⟩:=Za7 how2 e
    rw[hcu]at hc
    cases hc
    cases h43⟩)
   have hK2:KpD n1 (w.heap.size+1) W (ws.setCell ⟨w.heap.size+1,0,none⟩ vs):=((KpD.of_kept hk2').trans hK1).trans (KpD.setCell ws vs hbws (by decide))
   refine⟨?_,hK2,⟨HKD.out.trans hK2,?_⟩,?_⟩
   ·refine(((KeepsOthers.of_kept hk2').trans (KeepsOthers.of_grownBy hg (fun j o e ho=>?_))).trans (KeepsOthers.setCell ws _ _)).from _
    obtain⟨cu,hcu⟩:=Za7 how2 e
    rw[hcu]at ho
    cases ho
    rfl
   ·obtain⟨A3,c3,rfl⟩:=Zq hos
    have hl3:(Qt t h all (pre++ [x])).length=(Qt t h all pre).length+(all.filter (ZeQ t h x (Qt t h all pre))).length:=by rw[ZfT,Zpu,List.length_append]
    refine⟨A3,c3,?_,?_⟩
    ·rw[heap_setCell_same _ _ _ _ _ _ hbws,hl3]
     rfl
    ·rw[hl3,ZfT,Zpu,List.map_append]
     exact Zaj hos (fun g c' hgb hc=>(heap_setCell_other ws ⟨w.heap.size+1,0,none⟩ g _ (by show g≠w.heap.size+1;omega)).trans hc)
   ·exact((HBEL.out.trans (hk2'.toBelow (by omega) (by simp))).grown hg (by have:=hk2'.size;omega) (fun k e=>by have:=hge k e;omega)).setCell (p:=⟨w.heap.size+1,0,none⟩) (by show w.heap.size≤w.heap.size+1;omega) _
  obtain⟨i0,hi,hz0,hz1,hz2⟩:=info_parts ZaJ
  have HBWS:Hid (∀(w2 ws:World),Kept [] W.drew w2→w2.grownBy ws (Value.slice A (Qt t h all pre).length c).ownBlock→ws.heap[w.heap.size+1]? =some (.cells #[.slice A (Qt t h all pre).length c] 31 (0,0))):=by
   intro w2 ws hk2 hg
   have hk2':Kept [] W w2:=(Kept.drew _ _).trans hk2
   have how2:w2.ownsRow n1 3 1 (.slice A (Qt t h all pre).length c) (Qt t h all pre).length ((Qt t h all pre).map (Value.int .i64)):=Zaj HOWN.out (fun g c _ hc=>hk2'.obj hc (by simp))
   have hge:=ZaD how2
   have hbw2:w2.heap[w.heap.size+1]? =some (.cells #[.slice A (Qt t h all pre).length c] 31 (0,0)):=hk2'.obj HBO.out (by simp)
   exact(hg.block _ (Array.getElem?_eq_some_iff.1 hbw2).1 (fun e=>by have:=hge _ e.symm;omega)).trans hbw2
  have HSWS:Hid (∀(w2 ws:World),Kept [] W.drew w2→w2.grownBy ws (Value.slice A (Qt t h all pre).length c).ownBlock→ws.cell? ⟨w.heap.size,0,none⟩=some (.pointer (some ⟨F,0,none⟩))∧ws.cell? ⟨F,10,none⟩=some (.slice aa all.length cc)):=by
   intro w2 ws hk2 hg
   have hk2':Kept [] W w2:=(Kept.drew _ _).trans hk2
   have how2:w2.ownsRow n1 3 1 (.slice A (Qt t h all pre).length c) (Qt t h all pre).length ((Qt t h all pre).map (Value.int .i64)):=Zaj HOWN.out (fun g c _ hc=>hk2'.obj hc (by simp))
   have hgs:∀(p:Addr) (u:Value) (cc:Array Value) (ty:TypeId) (fr:Nat×Nat),W.heap[p.block]? =some (.cells cc ty fr)→ty≠3→W.cell? p=some u→ws.cell? p=some u:=fun p u cc ty fr ho hne hc=>by
    have ho2:=hk2'.obj ho (by simp)
    rw[World.cell?_of_block (w:=w2) (hg.block p.block (Array.getElem?_eq_some_iff.1 ho2).1 (fun e=>by
     obtain⟨cu,hcu⟩:=Za7 how2 e.symm
     rw[ho2]at hcu
     cases hcu
     exact hne rfl))]
    exact hk2'.cell hc (by simp)
   obtain⟨⟨_,_,hF80,_⟩,_⟩:=HFW.out
   exact⟨hgs _ _ _ _ _ HBF.out (by decide) gf,hgs _ _ _ _ _ hF80 (by decide) f10⟩
  have HFNE:Hid (w.heap.size+1≠F):=by
   obtain⟨⟨_,_,hF80,_⟩,_⟩:=HFW.out
   rintro rfl
   have:=HBO.out
   rw[hF80]at this
   injection this with h1
   injection h1 with _ h2
   exact absurd h2 (by decide)
  have HNW:=hh hnW
  have HLO:=hh hlo
  have HLE:=hh hle
  clear hnW hlo hl hlen hle
  refine wpAnyH_ready (rs:=[0,6]) (by kernel_rfl) (by simp) ?_
  refine AllReadyH.cons rfl (fun K hK=>?_) ?_
  ·rw[if_pos (by rfl)]
   go_simp
   refine hK.out _ _ hS (fun _=>?_)
   clear hK K
   refine wpAnyH_ready (rs:=[6]) (by kernel_rfl) (by simp) ?_
   refine AllReadyH.cons rfl (fun K hK=>?_) AllReadyH.nil
   rw[if_pos (by rfl)]
   go_simp
   refine HKEPT.out.mono ?_
   rintro e w2 ⟨v2,rfl,ho2,hk2⟩
   refine hK.out _ _ ⟨hk2.cell hS.1 (by simp),hk2.cell hS.2 (by simp)⟩ (fun hS2=>?_)
   clear hK K
   obtain⟨A2,c2,rfl⟩:=Zq ho2
   refine wpAnyH_ready (rs:=[7]) (by kernel_rfl) (by simp) ?_
   refine AllReadyH.cons rfl (fun K hK=>?_) AllReadyH.nil
   rw[if_pos (by rfl)]
   have hk2':Kept [] W w2:=(Kept.drew _ _).trans hk2
   have how2:w2.ownsRow n1 3 1 (.slice A (Qt t h all pre).length c) (Qt t h all pre).length ((Qt t h all pre).map (Value.int .i64)):=Zaj HOWN.out (fun g c _ hc=>hk2'.obj hc (by simp))
   have hsrc:=(Yb.of_owns ho2).at_.2.1.src
   have hfl:=List.length_filter_le (ZeQ t h x (Qt t h all pre)) all
   have hbase:n1≤w2.heap.size:=Nat.le_trans HNW.out hk2'.size
   have hA:(Qt t h all pre).length+(all.filter (ZeQ t h x (Qt t h all pre))).length≤maxLen:=by have:=HLO.out;unfold maxLen;omega
   have hB:((Qt t h all pre).length+(all.filter (ZeQ t h x (Qt t h all pre))).length)*8≤140737488355328:=by have:=HLO.out;omega
   refine ZaE _ _ 31 rfl n1 3 i0 (.int .i64 0) 1 8 underlying31 hi hz0 hz1 hz2 rfl (by decide) (.slice A (Qt t h all pre).length c) (Qt t h all pre).length ((Qt t h all pre).map (Value.int .i64)) rfl how2 A2 _ c2 _ rfl hsrc (Zd3 _) hA hB hbase ?_
   intro vs ws hos hg
   refine hK.out _ _ (HSWS.out w2 ws hk2 hg) (fun hS3=>?_)
   clear hK K
   refine wpAnyH_ready (rs:=[8]) (by kernel_rfl) (by simp) ?_
   refine AllReadyH.cons rfl (fun K hK=>?_) AllReadyH.nil
   rw[if_pos (by rfl)]
   have hbws:=HBWS.out w2 ws hk2 hg
   have hcw:=ZB hbws
   have hcw1:=hcw.1
   have hcw2:=hcw.2
   have HT:=hh (HTAIL.out w2 A2 c2 ws vs hk2 ho2 hos hg)
   obtain⟨A3,c3,rfl⟩:=Zq hos
   clear hos hg hsrc how2 ho2 hk2 hk2' hbws hcw
   go_simp
   refine hK.out _ _ ?_ (fun _=>?_)
   ·exact⟨by rw[World.cell?_setCell_far _ _ _ _ (show w.heap.size+1≠w.heap.size by omega)];exact hS3.1,by rw[World.cell?_setCell_far _ _ _ _ (show w.heap.size+1≠F from HFNE.out)];exact hS3.2⟩
   ·refine wpAnyH_done (by kernel_rfl) ?_ _
    obtain⟨t1,t2,t3⟩:=HT.out
    exact⟨by rw[HN1.out];exact t1,t2,t3⟩
  ·refine AllReadyH.cons rfl (fun K hK=>?_) AllReadyH.nil
   rw[if_pos (by rfl)]
   go_simp
   refine HKEPT.out.mono ?_
   rintro e w2 ⟨v2,rfl,ho2,hk2⟩
   refine hK.out _ _ ⟨hk2.cell hS.1 (by simp),hk2.cell hS.2 (by simp)⟩ (fun hS2=>?_)
   clear hK K
   obtain⟨A2,c2,rfl⟩:=Zq ho2
   refine wpAnyH_ready (rs:=[0]) (by kernel_rfl) (by simp) ?_
   refine AllReadyH.cons rfl (fun K hK=>?_) AllReadyH.nil
   rw[if_pos (by rfl)]
   have hcb2:w2.cell? ⟨w.heap.size+1,0,none⟩=_:=hk2.cell (w:=W.drew) (by simpa using hcbo) (by simp)
   go_simp
   refine hK.out _ _ hS2 (fun _=>?_)
   clear hK K hcb2
   refine wpAnyH_ready (rs:=[7]) (by kernel_rfl) (by simp) ?_
   refine AllReadyH.cons rfl (fun K hK=>?_) AllReadyH.nil
   rw[if_pos (by rfl)]
   have hk2':Kept [] W w2:=(Kept.drew _ _).trans hk2
   have how2:w2.ownsRow n1 3 1 (.slice A (Qt t h all pre).length c) (Qt t h all pre).length ((Qt t h all pre).map (Value.int .i64)):=Zaj HOWN.out (fun g c _ hc=>hk2'.obj hc (by simp))
   have hsrc:=(Yb.of_owns ho2).at_.2.1.src
   have hfl:=List.length_filter_le (ZeQ t h x (Qt t h all pre)) all
   have hbase:n1≤w2.heap.size:=Nat.le_trans HNW.out hk2'.size
   have hA:(Qt t h all pre).length+(all.filter (ZeQ t h x (Qt t h all pre))).length≤maxLen:=by have:=HLO.out;unfold maxLen;omega
   have hB:((Qt t h all pre).length+(all.filter (ZeQ t h x (Qt t h all pre))).length)*8≤140737488355328:=by have:=HLO.out;omega
   refine ZaE _ _ 31 rfl n1 3 i0 (.int .i64 0) 1 8 underlying31 hi hz0 hz1 hz2 rfl (by decide) (.slice A (Qt t h all pre).length c) (Qt t h all pre).length ((Qt t h all pre).map (Value.int .i64)) rfl how2 A2 _ c2 _ rfl hsrc (Zd3 _) hA hB hbase ?_
   intro vs ws hos hg
   refine hK.out _ _ (HSWS.out w2 ws hk2 hg) (fun hS3=>?_)
   clear hK K
   refine wpAnyH_ready (rs:=[8]) (by kernel_rfl) (by simp) ?_
   refine AllReadyH.cons rfl (fun K hK=>?_) AllReadyH.nil
   rw[if_pos (by rfl)]
   have hbws:=HBWS.out w2 ws hk2 hg
   have hcw:=ZB hbws
   have hcw1:=hcw.1
   have hcw2:=hcw.2
   have HT:=hh (HTAIL.out w2 A2 c2 ws vs hk2 ho2 hos hg)
   obtain⟨A3,c3,rfl⟩:=Zq hos
   clear hos hg hsrc how2 ho2 hk2 hk2' hbws hcw
   go_simp
   refine hK.out _ _ ?_ (fun _=>?_)
   ·exact⟨by rw[World.cell?_setCell_far _ _ _ _ (show w.heap.size+1≠w.heap.size by omega)];exact hS3.1,by rw[World.cell?_setCell_far _ _ _ _ (show w.heap.size+1≠F from HFNE.out)];exact hS3.2⟩
   ·refine wpAnyH_done (by kernel_rfl) ?_ _
    obtain⟨t1,t2,t3⟩:=HT.out
    exact⟨by rw[HN1.out];exact t1,t2,t3⟩
 case done=>
  rintro D ys W hD rfl ⟨⟨hk,A,c,hb,ho⟩,hB⟩ hK
  have hcb:=(ZB hb).1
  have hDl:w.heap.size+2≤D:=by omega
  have HK:=hh hK
  have HO:=hh ho
  have HB:=hh hB
  have hle:w.heap.size≤n1:=by omega
  clear hs1 hsz0 hn1
  gi_wp2
  refine⟨by simp,.inl ⟨_,_,rfl,run_takeDeferred HK.out,?_⟩⟩
  refine⟨_,results_tmp rfl _ _ _,?_⟩
  refine⟨.slice A (Qt t h all (Y0 t h.region)).length c,rfl,ZhU (ownsRow_putObj HO.out _ HK.out rfl) hle,Kept.of_below (HB.out.trans (belowK_b (w:=w) (Nat.le_refl _) W D _ _ (by omega) HK.out rfl rfl))⟩
 case stop=>
  rintro D c pre W hD hpre h hK
  exact h.elim
end
end Go.Proofs.YtfaecpkocgcofaaGreatDoor
