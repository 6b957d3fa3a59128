/-
  Part of the proof: the machine that runs a program by fixed orders, and that each of its runs is a run of the model; or a run of it in parts. No conditions.
-/
import Derived.Test.YtbojbpalkegahaaGreatDoorC42b
import Derived.WalkKit
import Derived.Lib.Walk
import Derived.Lib.SliceRun
import Derived.Lib.JoinLaws
import Derived.Lib.AppendZeros
import Derived.Lib.AppendZerosOnto
import Derived.Lib.Overlaps
import Derived.Laws.Externs
import Derived.Laws.IdiomCopy
import Derived.Laws.NewBlocks
import Derived.Shelf.RegionOpenPlain
import Derived.Shelf.Spec.SlicesInsert
import Derived.Test.YtbojbpalkegahaaGreatDoorChecked
import Derived.OwnWalk
import Derived.Deep.RegionLaw
import Derived.Below
import Derived.Test.YtbojbpalkegahaaGreatDoorIdSim5
import Derived.Shelf.Small.Strs
import Derived.Shelf.Strconv.Itoa3
import Derived.Shelf.Strings.Split
import Derived.Shelf.Strconv.AtoiAll
import Derived.Ground.NamesProg
import Derived.Lib.Agree
import Derived.Laws.Strings
import Derived.Lib.Repeat
import Derived.Shelf.Strings.Repeat
import Derived.Shelf.Strings.OnBuilder
import Derived.Defers
import Derived.Recover
import Derived.Lib.IndexBytes
namespace Go.AD
theorem PC {H:AA} {b:Nat} {ro:Bool} {o o1:AJ} (hlt:b < H.next) (hf:∀x,H.next≤x→H.get x=none) (h0:BR (D0 b H.next 1) (Kl ro o)=some o1):JD H b ro [o] (H.put b o1):=by
 refine⟨rfl,fun x hx _=>?_,fun x hx=>?_,fun i p hp=>?_⟩
 ·rw[AA.AN,if_neg hx]
 ·have hx:H.next≤x:=hx
  rw[AA.AN,if_neg (by omega)];exact hf x hx
 ·cases i with
  | zero=>cases hp;exact⟨o1,h0,by show(H.put b o1).get b=_;rw[AA.AN,if_pos rfl]⟩
  | succ i=>cases i<;>cases hp
theorem JW {H:AA} {b:Nat} {ro:Bool} {o o1 p p1:AJ} (hlt:b < H.next) (hf:∀x,H.next≤x→H.get x=none) (h0:BR (D0 b H.next 2) (Kl ro o)=some o1) (h1:BR (D0 b H.next 2) (Kl ro p)=some p1):
 JD H b ro [o,p] ((H.put b o1).alloc p1):=by
 refine⟨rfl,fun x hx EB=>?_,fun x hx=>?_,fun i q hq=>?_⟩
 ·rw[AA.AR,if_neg (by show x≠H.next;omega),AA.AN,if_neg hx]
 ·have hx:H.next+1≤x:=hx
  rw[AA.AR,if_neg (by show x≠H.next;omega),AA.AN,if_neg (by omega)];exact hf x (by omega)
 ·cases i with
  | zero=>
   cases hq
   refine⟨o1,h0,?_⟩
   show((H.put b o1).alloc p1).get b=_
   rw[AA.AR,if_neg (by show b≠H.next;omega),AA.AN,if_pos rfl]
  | succ i=>cases i with
   | zero=>
    cases hq
    refine⟨p1,h1,?_⟩
    show((H.put b o1).alloc p1).get H.next=_
    rw[AA.AR,if_pos (show H.next=(H.put b o1).next from rfl)]
   | succ i=>cases i<;>cases hq
theorem BS {H:AA} {b:Nat} {o:AJ} {r seen:List Nat} {f:Nat} (h:H.get b=some o) (hs:seen.any (Nat.beq b)=false):Ax H 0 (f+1) (b::r) seen=Ax H 0 f (Em o++r) (seen++[b]):=by
 rw[Ax]
 have:Nat.blt b 0=false:=rfl
 simp only[this,hs,Bool.or_false,cond_false,h]
theorem B2 (H:AA) (N:Nat):∀(f:Nat) (todo seen:List Nat) (x:Nat),x∈seen→x∈Ax H N f todo seen
 | 0,_,_,_,h=>h
 | f+1,[],_,_,h=>h
 | f+1,b::r,seen,x,h=>by
  rw[Ax]
  cases hc:(Nat.blt b N||seen.any (Nat.beq b))
  ·simp only[cond_false]
   split
   ·exact B2 H N f _ _ x (by simp[h])
   ·exact B2 H N f r seen x h
  ·simp only[cond_true]
   exact B2 H N f r seen x h
theorem PZ {D:Nat→Prop} {v:Value} {H H2:AA} {s:Pk} {b:Nat} {o o1:AJ} (hr:Dl s [o]) (hD:b∈Af 4 v∨D b) (hg:H.get b=some o1) (hro:o1.ro=false) (hp:o1.Ga=true) (hren:BR (fun i=>[b][i]?) o=some o1)
 (k:CB D v (DU s [b] H) H2)
 (hx0:D7 s=[]:=by rfl) (hroot:∀T,¬o.void T:=by intro _;exact id):CB D v H H2:=by
 refine .step s [o] [b] [b] hr (by simp) rfl (by simp) (fun x hx=>by simp at hx;rw[hx];exact hD) (fun x hx=>?_) (fun i x q hx hq=>?_) (fun q T hq=>by cases hq;exact hroot T) k
 ·simp only[List.mem_singleton]at hx
  subst hx
  rw[BS hg rfl]
  exact B2 H 0 _ _ _ x (by simp)
 ·cases i with
  | zero=>cases hx;cases hq;exact⟨o1,hg,hro,hp,by rw[hx0,Ew];exact hren⟩
  | succ i=>cases i<;>cases hx
theorem S1 {D:Nat→Prop} {v:Value} {H H2:AA} {s:Pk} {b n:Nat} {o o1 p p1:AJ} (hr:Dl s [o,p]) (hD:b∈Af 4 v∨D b) (hne:n≠b) (hg:H.get b=some o1) (hro:o1.ro=false) (hp:o1.Ga=true) (hren:BR (fun i=>[b,n][i]?) o=some o1)
 (href:Em o1=[n]) (hg2:H.get n=some p1) (hro2:p1.ro=false) (hp2:p1.Ga=true) (hren2:BR (fun i=>[b,n][i]?) p=some p1) (k:CB D v (DU s [b,n] H) H2)
 (hx0:D7 s=[]:=by rfl) (hroot:∀T,¬o.void T:=by intro _;exact id):CB D v H H2:=by
 have hn:Nat.beq n b=false:=by
  cases hq:Nat.beq n b
  ·rfl
  ·exact absurd (Nat.eq_of_beq_eq_true hq) hne
 have hreach:∀x,x=b∨x=n→x∈Ax H 0 200 [b] []:=by
  intro x hx
  rw[BS hg rfl,href,List.append_nil,List.nil_append,BS hg2 (by simp[hn])]
  refine B2 H 0 _ _ _ x ?_
  rcases hx with rfl | rfl<;>simp
 refine .step s [o,p] [b,n] [b] hr (by simp) rfl (by simp[Ne.symm hne]) (fun x hx=>by simp at hx;rw[hx];exact hD) (fun x hx=>hreach x (by simpa using hx)) (fun i x q hx hq=>?_) (fun q T hq=>by cases hq;exact hroot T) k
 cases i with
 | zero=>cases hx;cases hq;exact⟨o1,hg,hro,hp,by rw[hx0,Ew];exact hren⟩
 | succ i=>cases i with
  | zero=>cases hx;cases hq;exact⟨p1,hg2,hro2,hp2,by rw[hx0,Ew];exact hren2⟩
  | succ i=>cases i<;>cases hx
end Go.AD

set_option maxRecDepth 1000000
namespace Go.AD
open Go.Proofs
theorem An {X:Ctx} {f:FuncId} {p:FJ} {rest:Pf} (h:∀args H (K:Value→AA→Prop),p args H K→∃v H',Bp X f args .normal H=some (v,H')∧K v H') (hr:FD X rest):FD X (fun g=>bif Nat.beq g f then some p else rest g):=by
 intro g F hg args H K hF
 cases hb:Nat.beq g f
 ·simp only[hb,cond_false]at hg
  exact hr g F hg args H K hF
 ·simp only[hb,cond_true,Option.some.injEq]at hg
  subst hg
  have:=Nat.eq_of_beq_eq_true hb;subst this
  exact h args H K hF
noncomputable def fe:List (FuncId × Cn):=[(BG,A3 AL 9 [] Od)]
noncomputable def XA:Ctx:=Cp Tryz.prog AL fe
noncomputable def aX:Pf:=fun g=>bif Nat.beq g BG then some (B0 AL 9 [] Od)else Cv g
theorem I0:FD XA aX:=An (fun _ _ _ h=>Ak (by kernel_rfl) h) (Av _)
theorem Wg:Aw Tryz.prog AL fe:=Aw.cons VA (Aw.nil _ _)
noncomputable def Og:List AJ:=[.cells [.bool true,.slice none 0 0] 0 false]
noncomputable def Lb (l:List (EK.C Ab)):List AJ:=[.cells [.bool true,.slice (some ⟨10,0,some 0⟩) l.length AF] 0 false,.vec Ab l false]
noncomputable def p9:Value:= .pointer (some ⟨9,0,none⟩)
end Go.AD

set_option maxRecDepth 1000000
namespace Go.AD
open Go.Proofs
def PW (H:AA) (l:List (EK.C Ab)):Prop:=
 (l=[]∧H.get 9=some (.cells [.bool true,.slice none 0 0] 0 false))∨∃m,m≠9∧H.get 9=some (.cells [.bool true,.slice (some ⟨m,0,some 0⟩) l.length AF] 0 false)∧H.get m=some (.vec Ab l false)
structure Aj where
 ok:List (EK.C Ab)→List Value→Prop
 v:List (EK.C Ab)→List Value→Value
 nx:List (EK.C Ab)→List Value→List (EK.C Ab)
noncomputable def Aj.G (q:Aj) (args:List Value) (objs:List AJ):GT:=
 match args,objs with
 | .pointer (some ⟨9,0,none⟩)::rest,[.abs (.pack (.table l)) _]=> .ask (q.ok l rest) (.ret ⟨q.v l rest,[some (.abs (.pack (.table (q.nx l rest))) false)],[]⟩)
 | _,_=> .fail
noncomputable def Jo (l:List (EK.C Ab)):AA:=BW ⟨.leaf,9⟩ [.abs (.pack (.table l)) false]
theorem JK (l:List (EK.C Ab)):∀x,10≤x→(Jo l).get x=none:=by
 intro x hx
 unfold Jo
 rw[E6]
 show(if x < 9 then _ else _)=_
 rw[if_neg (by omega),List.getElem?_eq_none (by simp;omega)]
 rfl
theorem Qz:(Jo []).put 9 (.cells [.bool true,.slice none 0 0] 0 false)=BW ⟨.leaf,9⟩ Og:=by kernel_rfl
theorem Pn (l:List (EK.C Ab)):((Jo l).put 9 (.cells [.bool true,.slice (some ⟨10,0,some 0⟩) l.length AF] 0 false)).alloc (.vec Ab l false)=BW ⟨.leaf,9⟩ (Lb l):=by kernel_rfl
theorem Xv {v:Value} {H:AA} {l:List (EK.C Ab)} (hv:Ch 6 v=true) (h:H.get 9=some (.abs (.pack (.table l)) false)):Ci AL 9 1 [true] ⟨v,[some (.abs (.pack (.table l)) false)],[]⟩ v H:=by
 refine⟨[],List.nodup_nil,fun b hb=>(by cases hb),rfl,LY 6 v hv,fun j b o hj=>(by cases hj),fun j o hj hm ho=>?_⟩
 cases j with
 | zero=>cases ho;exact⟨_,rfl,h⟩
 | succ j=>omega
theorem K5 {fs:List (FuncId × Cn)} (hfs:Aw Tryz.prog AL fs) {f:FuncId} {n:Nat} (he:entry Tryz.prog f=some (n,Bb Tryz.prog f [])) {q:Aj}
 (hrun:∀l rest,q.ok l rest→rest.length+1≤n∧Ch 6 (q.v l rest)=true∧Af 4 (q.v l rest)=[]∧
  (l=[]→As (Cp Tryz.prog AL fs) 10 f (fun v H=>v=q.v l rest∧PW H (q.nx l rest)) (st f n (p9::rest) (BW ⟨.leaf,9⟩ Og)))∧
  As (Cp Tryz.prog AL fs) 10 f (fun v H=>v=q.v l rest∧PW H (q.nx l rest)) (st f n (p9::rest) (BW ⟨.leaf,9⟩ (Lb l)))):Da Tryz.prog AL f (A3 AL 9 [true] q.G):=by
 refine Bs hfs (by kernel_rfl) he (by kernel_rfl) fun argsc objs x hx hro=>?_
 unfold Aj.G at hx
 split at hx
 ·rename_i rest l ro
  simp only[GT.run]at hx
  split at hx
  ·rename_i hok
   cases hx
   have hr0:ro=false:=hro 0 _ rfl rfl
   subst hr0
   obtain⟨g1,g2,g3,g4,g5⟩:=hrun l rest hok
   refine⟨by simpa using g1,?_⟩
   refine A4.shut (Q:=fun v H=>v=q.v l rest∧PW H (q.nx l rest)) ?_ ?_
   ·show A4 (Cp Tryz.prog AL fs) 10 (fun b=>9≤b∧b < 10) f _ (st f n (p9::rest) (Jo l))
    refine A4.opened (b:=9) (s:= .table l) (ro:=false) ⟨by omega,by omega⟩ (by rfl) (fun ops p k h=>by cases h) fun objs hr=>?_
    cases hr with
    | EM=>
     have hN:A4 (Cp Tryz.prog AL fs) 10 (fun b=>9≤b∧b < 10) f (fun v H=>v=q.v [] rest∧PW H (q.nx [] rest)) (st f n (p9::rest) ((Jo []).put 9 (.cells [.bool true,.slice none 0 0] 0 false))):=by
      rw[Qz];exact(g4 rfl).Ko
     exact⟨_,PC (H:=Jo []) (b:=9) (ro:=false) (o1:= .cells [.bool true,.slice none 0 0] 0 false) (show 9 < 10 by decide) (JK []) rfl,hN⟩
    | table l=>
     have hN:A4 (Cp Tryz.prog AL fs) 10 (fun b=>9≤b∧b < 10) f (fun v H=>v=q.v l rest∧PW H (q.nx l rest)) (st f n (p9::rest) (((Jo l).put 9 (.cells [.bool true,.slice (some ⟨10,0,some 0⟩) l.length AF] 0 false)).alloc (.vec Ab l false))):=by
      rw[Pn];exact g5.Ko
     exact⟨_,JW (H:=Jo l) (b:=9) (ro:=false) (o1:= .cells [.bool true,.slice (some ⟨10,0,some 0⟩) l.length AF] 0 false) (p1:= .vec Ab l false) (show 9 < 10 by decide) (JK l) rfl rfl,hN⟩
   ·rintro v H ⟨rfl,hT⟩
    rcases hT with⟨e,h9⟩ | ⟨m,hm,h9,hm2⟩
    ·refine⟨_,PZ (s:= .table (q.nx l rest)) (o:= .cells [.bool true,.slice none 0 0] 0 false) (by rw[e];exact .EM) (.inr ⟨Nat.le_refl 9,Nat.lt_succ_self 9⟩) h9 rfl rfl rfl (.refl _),Xv g2 ?_⟩
     exact(CY (by simp)).root 9 rfl
    ·refine⟨_,S1 (s:= .table (q.nx l rest)) (n:=m) (.table _) (.inr ⟨Nat.le_refl 9,Nat.lt_succ_self 9⟩) hm h9 rfl rfl rfl rfl hm2 rfl rfl rfl (.refl _),Xv g2 ?_⟩
     exact(CY (by simp[Ne.symm hm])).root 9 rfl
  ·cases hx
 ·cases hx
end Go.AD

set_option maxRecDepth 1000000
namespace Go.AD
open Go.Proofs
theorem dC {v:Value} {H:AA} {o:AJ} (hv:Af 4 v=[]) (h:([9]++Af 4 v).map H.get=[some o]):H.get 9=some o:=by
 rw[hv]at h
 simpa using h
theorem dy {v:Value} {H:AA} {m:Nat} {o p:AJ} (hv:Af 4 v=[]) (h:([9,m]++Af 4 v).map H.get=[some o,some p]):H.get 9=some o∧H.get m=some p:=by
 rw[hv]at h
 simpa using h
end Go.AD

set_option linter.unusedVariables false
set_option linter.unusedSimpArgs false
namespace Go.AD
variable {P:Program}
theorem D1 (w:World) (dT sT ty elem:TypeId) (k b o dLen dCap:Nat) (a:Addr) (sLen sCap m:Nat) (cs:List Value)
 (hu:P.underlying dT=some (.slice elem)) (hs:(P.info? elem).map (·.size)=some k) (hm:m=Nat.min sLen dLen) (hn:cs.length=m * k)
 (hsrc:∀j v,cs[j]? = some v→w.cell? (a.add j)=some v) (hc:∀j,j < cs.length→(w.cell? ⟨b,o+j,none⟩).isSome=true) (hf:∀j,j < cs.length→w.frozen? ⟨b,o+j,none⟩=false) (h1:∀v∈cs,v.oneCell'=true):
 (Builtin.copy_ #[dT,sT] ty #[.slice (some ⟨b,o,none⟩) dLen dCap,.slice (some a) sLen sCap]).run P w= .ok (goInt m) (w.setCells b o cs):=by
 have hl:=run_loadCells_list (P:=P) w a cs hsrc
 have hst:=run_storeCells_cells (P:=P) b o cs 0 w (by simpa using hc) (by simpa using hf) h1
 cases hq:P.info? elem with
 | none=>simp[hq]at hs
 | some i=>
  have hi:i.size=k:=by simpa [hq] using hs
  simp[Builtin.copy_,run_underlying hu,Builtin.lenOf,Builtin.firstCells,sizeOf,typeInfo,hq,hi,←hm,←hn,hl,hst]
end Go.AD

set_option linter.unusedVariables false
set_option linter.unusedSimpArgs false
namespace Go.AD
open Go.Proofs Go.RowKit Go.Lib
set_option maxHeartbeats 4000000 in
set_option maxRecDepth 100000 in
theorem Pq (b off n c i vb voff m vc:Nat) (cs vs:List Value) (w:World) (hi:i < n) (hm:0 < m) (hroom:n+m≤c) (hc63:c≤9223372036854775807) (hvb:vb≠b)
 (hcl:cs.length=n * 2) (hvl:vs.length=m * 2)
 (hcs:∀j v,cs[j]? = some v→w.cell? ⟨b,off+j,none⟩=some v) (hsp:∀j,j < (n+m) * 2→(w.cell? ⟨b,off+j,none⟩).isSome=true) (hfz:∀j,j < (n+m) * 2→w.frozen? ⟨b,off+j,none⟩=false)
 (hvs:∀j v,vs[j]? = some v→w.cell? ⟨vb,voff+j,none⟩=some v) (h1c:∀v∈cs,v.oneCell'=true) (h1v:∀v∈vs,v.oneCell'=true)
 (tA tB:TypeId) (kA kB:Nat) (hsa:w.shape? vb=some (tA,kA)) (hsb:w.shape? b=some (tB,kB)) (hkB:kB≠0) (hfa:w.frozen? ⟨vb,voff,none⟩=false) (hfe:w.frozen? ⟨vb,kA,none⟩=false):
 Calls Tryz.prog 69 #[.slice (some ⟨b,off,none⟩) n c,.int .i64 i,.slice (some ⟨vb,voff,none⟩) m vc] w fun e w'=>
  e= .returned (.slice (some ⟨b,off,none⟩) (n+m) c)∧w'=(w.drew.setCells b (off+(i+m) * 2) (cs.drop (i * 2))).setCells b (off+i * 2) vs:=by
 have mixed:Tryz.prog.follows .mixedOrders=true:=by kernel_rfl
 have hz1:¬((m:Int)=0):=by omega
 have hz2:¬((i:Int)=(n:Int)):=by omega
 have hsz:(Tryz.prog.info? 101).map (·.size)=some 2:=by kernel_rfl
 have hov:∀lb cb,(callFunc 73 #[.slice (some ⟨vb,voff,none⟩) m vc,.slice (some ⟨b,off+(i+m) * 2,none⟩) lb cb]).run Tryz.prog w= .ok (.value (.bool false)) w:=fun lb cb=>by
  rw[run_callFunc_extern Tryz.func73 (by kernel_rfl) (by kernel_rfl) (by kernel_rfl) (e:=Extern.SlicesOverlaps.overlaps #[95,95] #[4]) (by kernel_rfl),
   Lib.run_overlaps_apart w 95 4 101 Tryz.underlying95 2 (fun w=>Tryz.sizeOf101 w) ⟨vb,voff,none⟩ ⟨b,off+(i+m) * 2,none⟩ m vc lb cb hvb tA tB kA kB hsa hsb hkB hfa hfe]
  rfl
 have hdl:(cs.drop (i * 2)).length=(n - i) * 2:=by rw[List.length_drop,hcl,Nat.sub_mul]
 have hw1:IntKind.i64.wrap ((i:Int)+(m:Int))=(i:Int)+(m:Int):=by rw[IntKind.wrap_i64];omega
 have hb1:(0:Int)≤(i:Int)+(m:Int):=by omega
 have hin:i≤n:=by omega
 have htn:((i:Int)+(m:Int)).toNat=i+m:=by omega
 have hb2:¬(c=i+m):=by omega
 have hb3:(i:Int)≤(n:Int)+(m:Int):=by omega
 have hb4:¬(c=i):=by omega
 have hcp1:∀ty dc sc,(Builtin.copy_ #[95,95] ty #[.slice (some ⟨b,off+(i+m) * 2,none⟩) (n+m - (i+m)) dc,.slice (some ⟨b,off+i * 2,none⟩) (n+m - i) sc]).run Tryz.prog w.drew= .ok (goInt ((n - i:Nat):Int)) (w.drew.setCells b (off+(i+m) * 2) (cs.drop (i * 2))):=fun ty dc sc=>
  D1 w.drew _ _ ty 101 2 b (off+(i+m) * 2) (n+m - (i+m)) dc ⟨b,off+i * 2,none⟩ (n+m - i) sc (n - i) (cs.drop (i * 2)) Tryz.underlying95 hsz (by simp only[Nat.min_def];split<;>omega) hdl
   (fun j v hj=>by rw[Addr.add_lit,Nat.add_assoc];exact hcs (i * 2+j) v (by rwa [List.getElem?_drop]at hj))
   (fun j hj=>by rw[Nat.add_assoc];exact hsp _ (by omega)) (fun j hj=>by rw[Nat.add_assoc];exact hfz _ (by omega)) (fun v hv=>h1c v (List.mem_of_mem_drop hv))
 obtain⟨W1,hW1⟩:∃W1,W1=w.drew.setCells b (off+(i+m) * 2) (cs.drop (i * 2)):=⟨_,rfl⟩
 have hsp1:∀k,k < (n+m) * 2→(W1.cell? ⟨b,off+k,none⟩).isSome=true:=fun k hk=>by
  rw[hW1]
  exact isSome_setCells b _ _ _ (fun j hj=>by rw[Nat.add_assoc];exact hsp _ (by omega)) _ (hsp k hk)
 have hcp2:∀(W:World),(∀x,W.cell? x=W1.cell? x)→(∀x,W.frozen? x=W1.frozen? x)→∀ty dc,(Builtin.copy_ #[95,95] ty #[.slice (some ⟨b,off+i * 2,none⟩) (n+m - i) dc,.slice (some ⟨vb,voff,none⟩) m vc]).run Tryz.prog W= .ok (goInt m) (W.setCells b (off+i * 2) vs):=fun W hWc hWf ty dc=>
  D1 W _ _ ty 101 2 b (off+i * 2) (n+m - i) dc ⟨vb,voff,none⟩ m vc m vs Tryz.underlying95 hsz (by simp only[Nat.min_def];split<;>omega) hvl
   (fun j v hj=>by
    rw[Addr.add_lit,hWc,hW1,World.cell?_setCells_out b _ _ _ _ (fun h _=>absurd h hvb)]
    exact hvs j v hj)
   (fun j hj=>by rw[hWc,Nat.add_assoc];exact hsp1 _ (by omega)) (fun j hj=>by rw[hWf,hW1,World.frozen?_setCells,Nat.add_assoc];exact hfz _ (by omega)) h1v
 rw[←hW1]at hcp1
 go_enter Tryz.func69,Tryz.ntmps69
 go_wp2_with (simp only[hov])
 go_region_law_o (refine step_copy_runI rfl _ _ 95 95 rfl _ _ (by simp[Act.eval,Act.put]) (by simp[Act.eval,Act.put]) (hcp1 _ _ _) ?_)
 go_wp2_with (at_builtin;refine wpList_copy_runI _ rfl _ _ 95 95 rfl _ _ rfl rfl (hcp2 _ (fun _=>rfl) (fun _=>rfl) _ _) ?_)
 go_ret
 first | exact⟨rfl,rfl⟩ | exact⟨rfl,by rw[hW1]⟩
set_option maxHeartbeats 4000000 in
set_option maxRecDepth 100000 in
theorem RS (b off n c i vb voff m vc:Nat) (cs vs:List Value) (w:World) (hi:i < n) (hm:0 < m) (hnc:n≤c) (hroom:c < n+m) (hbig:(2 * (n+m)+192) * 32≤281474976710656)
 (hcl:cs.length=n * 2) (hvl:vs.length=m * 2)
 (hcs:∀j v,cs[j]? = some v→w.cell? ⟨b,off+j,none⟩=some v)
 (hvs:∀j v,vs[j]? = some v→w.cell? ⟨vb,voff+j,none⟩=some v) (h1c:∀v∈cs,v.oneCell'=true) (h1v:∀v∈vs,v.oneCell'=true):
 Calls Tryz.prog 69 #[.slice (some ⟨b,off,none⟩) n c,.int .i64 i,.slice (some ⟨vb,voff,none⟩) m vc] w fun e w'=>
  ∃(G:Nat) (ROW:Array Value),n+m≤G∧ROW.size=G * 2∧ROW.toList.take (i * 2)=cs.take (i * 2)∧e= .returned (.slice (some ⟨w.heap.size,0,none⟩) (n+m) G)∧G≤9223372036854775807∧
   w'=(((w.alloc (.cells ROW 101)).drew.setCells w.heap.size (i * 2) vs).drew).setCells w.heap.size ((i+m) * 2) (cs.drop (i * 2)):=by
 have mixed:Tryz.prog.follows .mixedOrders=true:=by kernel_rfl
 obtain⟨i0,z0,hi0,hz0,hzs,hzb,hzc⟩:∃i0 z0,Tryz.prog.info? 101=some i0∧i0.zero=some z0∧i0.size=2∧i0.bytes=32∧z0.cells.size=2:=⟨Tryz.t101,Tryz.t101.zero.getD default,by kernel_rfl,by kernel_rfl,by kernel_rfl,by kernel_rfl,by kernel_rfl⟩
 have hz1:¬((m:Int)=0):=by omega
 have hz2:¬((i:Int)=(n:Int)):=by omega
 have hz3:(c:Int) < (n:Int)+(m:Int):=by omega
 have hsz:(Tryz.prog.info? 101).map (·.size)=some 2:=by rw[hi0];simp[hzs]
 have hbw:b < w.heap.size:=block_lt_of_cell (hcs 0 _ (List.getElem?_eq_getElem (by omega)))
 have hvw:vb < w.heap.size:=block_lt_of_cell (hvs 0 _ (List.getElem?_eq_getElem (by omega)))
 have hkk:(n:Int)+(m:Int) - (i:Int)=((n+m - i:Nat):Int):=by omega
 have hik:i+(n+m - i)=n+m:=by omega
 have hold:(Builtin.firstCells i0.size i (.slice (some ⟨b,off,none⟩) i c)).run Tryz.prog w.drew= .ok (cs.take (i * 2)).toArray w.drew:=by
  rw[hzs]
  exact run_firstCells_some w.drew 2 i ⟨b,off,none⟩ i c (cs.take (i * 2)) (by rw[List.length_take];omega) (fun j v hj=>by
   rw[Addr.add_lit]
   rw[List.getElem?_take]at hj
   split at hj
   ·exact hcs j v hj
   ·cases hj)
 have hncl:=JE (need:=n+m) (cap:=c) hroom
 have hfits:Builtin.nextslicecap (n+m) c * 32≤281474976710656:=Nat.le_trans (Nat.mul_le_mul_right _ hncl) hbig
 have hrz:∀ty,(Builtin.append_ #[95,3] ty #[.slice (some ⟨b,off,none⟩) i c,.int .i64 ((n:Int)+(m:Int) - (i:Int))]).run Tryz.prog w=
  .ok (.slice (some ⟨w.heap.size,0,none⟩) (n+m) (grownCap w (n+m) c 101)) (w.drew.alloc (.cells ((cs.take (i * 2)).toArray++Builtin.zeroCells z0.cells (n+m - i)++Builtin.zeroCells z0.cells (grownCap w (n+m) c 101 - (n+m))) 101)):=fun ty=>by
  have h:=Lib.run_append_grow_zeros w 95 3 ty 101 i0 _ .i64 .i64 Tryz.underlying95 Tryz.underlying3 hi0 hz0 (some ⟨b,off,none⟩) i c (cs.take (i * 2)) hold (n+m - i) (by omega) (by omega) (by omega) (by omega) (by rw[hzb];omega) (by rw[hzb,hik];exact hfits)
  rw[hik]at h
  rw[hkk]
  exact h
 obtain⟨G,hG⟩:∃G,G=grownCap w (n+m) c 101:=⟨_,rfl⟩
 have hGn:n+m≤G:=by rw[hG];exact grownCap_ge w _ _ _
 obtain⟨ROW,hROW⟩:∃ROW:Array Value,ROW=(cs.take (i * 2)).toArray++Builtin.zeroCells z0.cells (n+m - i)++Builtin.zeroCells z0.cells (G - (n+m)):=⟨_,rfl⟩
 rw[←hG]at hrz
 rw[←hROW]at hrz
 have hRl:ROW.size=G * 2:=by
  rw[hROW]
  simp[Dp,hzc,hcl]
  omega
 have hRt:ROW.toList.take (i * 2)=cs.take (i * 2):=by
  rw[hROW]
  simp only[Array.toList_append,List.append_assoc]
  rw[List.take_append_of_le_length (by simp[hcl];omega),List.take_take,Nat.min_self]
 obtain⟨W1,hW1⟩:∃W1,W1=w.drew.alloc (.cells ROW 101):=⟨_,rfl⟩
 rw[←hW1]at hrz
 have hN:∀j,j < (n+m) * 2→(W1.cell? ⟨w.heap.size,j,none⟩).isSome=true:=fun j hj=>by
  rw[hW1,World.cell?_alloc_at (w:=w.drew) ROW _ w.heap.size j rfl,Array.getElem?_eq_getElem (by omega)];rfl
 have hNf:∀j,W1.frozen? ⟨w.heap.size,j,none⟩=false:=fun j=>by rw[hW1];exact World.frozen?_alloc_at (w:=w.drew) ROW _ w.heap.size j rfl
 have hOb:∀j v,w.cell? ⟨b,j,none⟩=some v→W1.cell? ⟨b,j,none⟩=some v:=fun j v h=>by rw[hW1,World.cell?_alloc_past (w:=w.drew) _ b j hbw];exact h
 have hOv:∀j v,w.cell? ⟨vb,j,none⟩=some v→W1.cell? ⟨vb,j,none⟩=some v:=fun j v h=>by rw[hW1,World.cell?_alloc_past (w:=w.drew) _ vb j hvw];exact h
 have hcpA:∀(W:World),(∀x,W.cell? x=W1.cell? x)→(∀x,W.frozen? x=W1.frozen? x)→∀ty dc,(Builtin.copy_ #[95,95] ty #[.slice (some ⟨w.heap.size,i * 2,none⟩) (n+m - i) dc,.slice (some ⟨vb,voff,none⟩) m vc]).run Tryz.prog W= .ok (goInt m) (W.setCells w.heap.size (i * 2) vs):=fun W hWc hWf ty dc=>
  D1 W _ _ ty 101 2 w.heap.size (i * 2) (n+m - i) dc ⟨vb,voff,none⟩ m vc m vs Tryz.underlying95 hsz (by simp only[Nat.min_def];split<;>omega) hvl
   (fun j v hj=>by rw[Addr.add_lit,hWc];exact hOv _ v (hvs j v hj))
   (fun j hj=>by rw[hWc];exact hN _ (by omega)) (fun j hj=>by rw[hWf];exact hNf _) h1v
 have hG63:G≤9223372036854775807:=by
  have:=grownCap_le_maxLen w (n+m) c 101 (by unfold maxLen;omega)
  rw[←hG]at this
  unfold maxLen at this
  omega
 have hGi:¬(G=i):=by omega
 have hGim:¬(G=i+m):=by omega
 have hci:¬(c=i):=by omega
 have hbN:b≠w.heap.size:=by omega
 have hdl:(cs.drop (i * 2)).length=(n - i) * 2:=by rw[List.length_drop,hcl,Nat.sub_mul]
 have hcpB:∀(W:World),(∀x,W.cell? x=(W1.setCells w.heap.size (i * 2) vs).cell? x)→(∀x,W.frozen? x=(W1.setCells w.heap.size (i * 2) vs).frozen? x)→∀ty dc sc,(Builtin.copy_ #[95,95] ty #[.slice (some ⟨w.heap.size,(i+m) * 2,none⟩) (n+m - (i+m)) dc,.slice (some ⟨b,off+i * 2,none⟩) (n - i) sc]).run Tryz.prog W= .ok (goInt ((n - i:Nat):Int)) (W.setCells w.heap.size ((i+m) * 2) (cs.drop (i * 2))):=fun W hWc hWf ty dc sc=>
  D1 W _ _ ty 101 2 w.heap.size ((i+m) * 2) (n+m - (i+m)) dc ⟨b,off+i * 2,none⟩ (n - i) sc (n - i) (cs.drop (i * 2)) Tryz.underlying95 hsz (by simp only[Nat.min_def];split<;>omega) hdl
   (fun j v hj=>by
    rw[Addr.add_lit,hWc,World.cell?_setCells_out _ _ _ _ _ (fun h _=>absurd h hbN),Nat.add_assoc]
    exact hOb _ v (hcs (i * 2+j) v (by rwa [List.getElem?_drop]at hj)))
   (fun j hj=>by rw[hWc];exact isSome_setCells _ _ _ _ (fun t ht=>hN _ (by omega)) _ (hN _ (by omega)))
   (fun j hj=>by rw[hWf,World.frozen?_setCells];exact hNf _) (fun v hv=>h1c v (List.mem_of_mem_drop hv))
 subst hW1
 have hE1:∀x,((w.alloc (.cells ROW 101)).drew).cell? x=(w.drew.alloc (.cells ROW 101)).cell? x:=fun x=>rfl
 have hE2:∀x,((w.alloc (.cells ROW 101)).drew).frozen? x=(w.drew.alloc (.cells ROW 101)).frozen? x:=fun x=>rfl
 have hF1:∀x,(((w.alloc (.cells ROW 101)).drew.setCells w.heap.size (i * 2) vs).drew).cell? x=((w.drew.alloc (.cells ROW 101)).setCells w.heap.size (i * 2) vs).cell? x:=fun x=>rfl
 have hF2:∀x,(((w.alloc (.cells ROW 101)).drew.setCells w.heap.size (i * 2) vs).drew).frozen? x=((w.drew.alloc (.cells ROW 101)).setCells w.heap.size (i * 2) vs).frozen? x:=fun x=>rfl
 have hw1:IntKind.i64.wrap ((i:Int)+(m:Int))=(i:Int)+(m:Int):=by rw[IntKind.wrap_i64];omega
 have hb1:(0:Int)≤(i:Int)+(m:Int):=by omega
 have hin:i≤n:=by omega
 have htn:((i:Int)+(m:Int)).toNat=i+m:=by omega
 have hb3:(i:Int)≤(n:Int):=by omega
 clear hkk hik hold hROW hG hncl hfits
 go_enter Tryz.func69,Tryz.ntmps69
 go_wp2_with (first
  | (at_builtin;refine Lib.wpList_append_run _ rfl _ _ _ _ rfl _ _ rfl rfl _ _ (hrz _) ?_)
  | (at_builtin;refine wpList_copy_runI _ rfl _ _ 95 95 rfl _ _ rfl rfl (hcpA _ hE1 hE2 _ _) ?_)
  | (at_builtin;refine wpList_copy_runI _ rfl _ _ 95 95 rfl _ _ rfl rfl (hcpB _ (fun _=>rfl) (fun _=>rfl) _ _ _) ?_))
 go_region_law_o (refine step_copy_runI rfl _ _ 95 95 rfl (.slice (some ⟨w.heap.size,(i+m) * 2,none⟩) (n+m - (i+m)) (G - (i+m))) (.slice (some ⟨b,off+i * 2,none⟩) (n - i) (c - i)) (by simp[Act.eval,Act.put]) (by simp[Act.eval,Act.put]) (hcpB _ hF1 hF2 3 (G - (i+m)) (c - i)) ?_)
 go_wp2
 go_ret
 exact⟨G,ROW,hGn,hRl,hRt,rfl,hG63,rfl⟩
end Go.AD

set_option linter.unusedVariables false
set_option linter.unusedSimpArgs false
namespace Go.AD
variable {P:Program}
theorem KA (w:World) (t e ty:TypeId) (z:Value) (ht:P.underlying t=some (.slice e)) (hv:∀w,(zeroValue e).run P w= .ok z w) (h1:∀v∈z.cells.toList,v.oneCell'=true) (b o n c:Nat) (hn:0 < n)
 (hc:∀j,j < n * z.cells.size→(w.cell? ⟨b,o+j,none⟩).isSome=true) (hf:∀j,j < n * z.cells.size→w.frozen? ⟨b,o+j,none⟩=false):
 (Builtin.clear_ #[t] ty #[.slice (some ⟨b,o,none⟩) n c]).run P w= .ok (.tuple #[]) (w.setCells b o (Builtin.zeroCells z.cells n).toList):=by
 have hl:(Builtin.zeroCells z.cells n).toList.length=n * z.cells.size:=by simp[Builtin.zeroCells]
 have hm:∀v∈(Builtin.zeroCells z.cells n).toList,v.oneCell'=true:=by
  intro v hv'
  simp only[Builtin.zeroCells,Array.toList_map,List.mem_map]at hv'
  obtain⟨i,hi,rfl⟩:=hv'
  have hi:i < n * z.cells.size:=by simpa using hi
  have hp:0 < z.cells.size:=by
   rcases Nat.eq_zero_or_pos z.cells.size with h | h
   ·rw[h,Nat.mul_zero]at hi;omega
   ·exact h
  have hlt:=Nat.mod_lt i hp
  rw[getElem!_pos z.cells (i % z.cells.size) hlt]
  exact h1 _ (by simp)
 have hst:=run_storeCells_cells (P:=P) b o (Builtin.zeroCells z.cells n).toList 0 w (by rw[hl];simpa using hc) (by rw[hl];simpa using hf) hm
 simp only[Nat.add_zero]at hst
 obtain⟨m,rfl⟩:∃m,n=m+1:=⟨n - 1,by omega⟩
 simp[Builtin.clear_,run_underlying ht,hv,hst]
end Go.AD

namespace Go.AD
open Classical in
noncomputable def Gj (sz:Nat):Cn:=fun args H=>
 match args with
 | [.slice (some ⟨b,0,some q⟩) n cap,.int .i64 x,.int .i64 y]=>
  match H.get b with
  | some (.vec k l false)=>
   if k.length=sz∧cap=AF∧k.all SK.plain=true∧q+n≤l.length∧0≤x∧x < y∧y≤n then
    some (.slice (some ⟨H.next,0,some 0⟩) (n - (y.toNat - x.toNat)) AF,(H.del b).alloc (.vec k (((l.drop q).take n).take x.toNat++((l.drop q).take n).drop y.toNat) false))
   else none
  | _=>none
 | _=>none
noncomputable def OX (sz:Nat):FJ:=fun args H K=>
 match args with
 | [.slice (some ⟨b,0,some q⟩) n cap,.int .i64 x,.int .i64 y]=>
  match H.get b with
  | some (.vec k l false)=>
   bif Nat.beq k.length sz&&Nat.beq cap AF&&k.all SK.plain then
    (q+n≤l.length∧0≤x∧x < y∧y≤n)∧K (.slice (some ⟨H.next,0,some 0⟩) (n - (y.toNat - x.toNat)) AF) ((H.del b).alloc (.vec k (((l.drop q).take n).take x.toNat++((l.drop q).take n).drop y.toNat) false))
   else False
  | _=>False
 | _=>False
theorem Rs {X:Ctx} {f:FuncId} {sz:Nat} (hX:X.FL f=some (Gj sz)) {args:List Value} {H:AA} {K:Value→AA→Prop} (h:OX sz args H K):∃v H',Bp X f args .normal H=some (v,H')∧K v H':=by
 unfold OX at h
 split at h
 ·rename_i b q n cap x y
  split at h
  ·rename_i k l hb
   cases hc:(Nat.beq k.length sz&&Nat.beq cap AF&&k.all SK.plain)
   ·rw[hc]at h;cases h
   ·rw[hc]at h
    refine⟨_,_,?_,h.2⟩
    unfold Bp
    simp only[hX]
    unfold Gj
    simp only[hb]
    simp only[Bool.and_eq_true]at hc
    exact if_pos ⟨Nat.eq_of_beq_eq_true hc.1.1,Nat.eq_of_beq_eq_true hc.1.2,hc.2,h.1⟩
  ·cases h
 ·cases h
def WU (P:Program) (f:FuncId) (k:Nat):Prop:=∀(b off n c i j:Nat) (cs:List Value) (w:World),i < j→j≤n→n≤c→c≤9223372036854775807→cs.length=n * k→
 (∀t v,cs[t]? = some v→w.cell? ⟨b,off+t,none⟩=some v)→(∀t,t < n * k→w.frozen? ⟨b,off+t,none⟩=false)→(∀v∈cs,v.oneCell'=true)→
 Calls P f #[.slice (some ⟨b,off,none⟩) n c,.int .i64 i,.int .i64 j] w fun e w'=>
  ∃zs:List Value,zs.length=(j - i) * k∧e= .returned (.slice (some ⟨b,off,none⟩) (n - (j - i)) c)∧w'=(w.drew.setCells b (off+i * k) (cs.drop (j * k))).setCells b (off+(n - (j - i)) * k) zs
theorem Q1 (A D Z:List Value) (x y:Nat) (hy:x+D.length=y) (hl:y+Z.length≤A.length):(BK (BK A x D) y Z).take (x+D.length)=A.take x++D:=by
 unfold BK
 have h1:(A.take x++(D++A.drop (x+D.length))).take y=A.take x++D:=by
  rw[←List.append_assoc,List.take_append_of_le_length (by simp;omega),List.take_of_length_le (by simp;omega)]
 rw[h1,List.take_append_of_le_length (by simp;omega),List.take_of_length_le (by simp;omega)]
section
variable {P:Program} {laid:List (Nat × List Value)}
theorem Ri {f:FuncId} {sz:Nat} (hent:∃n c,entry P f=some (n,c)) (hk0:0 < sz) (hk1:sz≠1) (hD:WU P f sz):Da P laid f (Gj sz):=by
 refine⟨hent,?_⟩
 intro base W0 μ H W args args' v H' hW h hl ha hF
 unfold Gj at hF
 split at hF
 ·rename_i b q n cap x y
  split at hF
  ·rename_i k l hb
   split at hF
   ·rename_i hc
    obtain⟨rfl,rfl,hpl,hq,hx0,hxy,hyn⟩:=hc
    obtain⟨i,rfl⟩:∃i:Nat,x=i:=⟨x.toNat,by omega⟩
    obtain⟨j,rfl⟩:∃j:Nat,y=j:=⟨y.toNat,by omega⟩
    simp only[Int.toNat_natCast,Option.some.injEq,Prod.mk.injEq]at hF
    obtain⟨rfl,rfl⟩:=hF
    have hij:i < j:=by omega
    have hjn:j≤n:=by omega
    generalize hqq:args'.toList=qq at ha
    cases ha with
    | cons h1 ha=>cases ha with
     | cons h2 ha=>cases ha with
      | cons h3 ha=>
       cases ha
       cases h2
       cases h3
       rcases E5 h hb h1 with⟨h1f,hnr,_⟩ | ⟨_,hn0,_⟩
       rotate_left
       ·omega
       have hdv:=h.JN hb fun T hT hv=>hnr T hT hv.2.1
       have hg:(H.put b (.cells (Ar k l) k.length false)).get b=some (.cells (Ar k l) k.length false):=by rw[AA.AN,if_pos rfl]
       have hT:∃T,μ b=some T:=by cases h1 with | Bt _ _ _ _ _ _ T hm _ _ _=>exact⟨T,hm⟩ | DC _ _ _ T _ hm _=>exact⟨T,hm⟩
       have h1:=Mo h1f
       generalize hoff:q * k.length=off at h1
       cases h1 with
       | slice _ _ _ _ cap' o' T hm hcr ho=>
        have hargs:args'=#[.slice (some ⟨T.c,o',none⟩) n cap',.int .i64 (i:Int),.int .i64 (j:Int)]:=by rw[←Array.toList_inj,hqq]
        subst hargs
        have hcr':n≤cap'∧off+cap' * T.e≤T.r∧(T.e=1∨cap'≤9223372036854775807):=by
         rcases hcr with⟨c1,c2⟩ | ⟨c1,c2,c3,c4,c5⟩
         ·omega
         ·exact⟨c3,c4,c5⟩
        obtain⟨c3,c4,c5⟩:=hcr'
        have hoo:o'=T.d+off:=by
         rcases ho with ho | ⟨e1,_⟩
         ·exact ho
         ·omega
        subst hoo
        obtain⟨ob,hob,hor⟩:=hdv.obj b _ hg T hm
        have hqe:off+n * k.length≤l.length * k.length:=by rw[←hoff,←Nat.add_mul];exact Nat.mul_le_mul_right _ hq
        have hO1:((Ar k l).drop off).take (n * k.length)=Ar k ((l.drop q).take n):=by rw[←hoff,De,EC]
        have hOl:(Ar k ((l.drop q).take n)).length=n * k.length:=by rw[B4,List.length_take,List.length_drop,Nat.min_eq_left (by omega)]
        generalize hM:(l.drop q).take n=M at hO1 hOl ⊢
        have hres:Ar k (M.take i++M.drop j)=(Ar k M).take (i * k.length)++(Ar k M).drop (j * k.length):=by rw[C2,EC,De]
        cases hor with
        | cells _ _ _ arr t lo hi2 hTe hcl hsz hfz=>
         rw[←hTe]at c4 c5
         have hold:Aq μ (Ar k M) ((arr.toList.drop (T.d+off)).take (n * k.length)):=by
          rw[←hO1]
          have:=(hcl.drop off).take (n * k.length)
          rw[List.drop_take,List.drop_drop,List.take_take,Nat.min_eq_left (by rw[B4];omega)]at this
          exact this
         generalize hO':(arr.toList.drop (T.d+off)).take (n * k.length)=O' at hold
         have hlo:=hold.length
         have hcsC:∀p v,O'[p]? = some v→W.cell? ⟨T.c,T.d+off+p,none⟩=some v:=fun p v hp=>Hr hob (by rw[hO'];exact hp)
         have h1O:=He hold (OT k hpl M)
         have hie:i * k.length≤j * k.length:=Nat.mul_le_mul_right _ (by omega)
         have hje:j * k.length≤n * k.length:=Nat.mul_le_mul_right _ hjn
         have hne:n * k.length≤cap' * k.length:=Nat.mul_le_mul_right _ c3
         have e1:(j - i) * k.length=j * k.length - i * k.length:=Nat.sub_mul _ _ _
         have e2:(n - (j - i)) * k.length=n * k.length - (j * k.length - i * k.length):=by rw[Nat.sub_mul,e1]
         have hdl:(O'.drop (j * k.length)).length=n * k.length - j * k.length:=by rw[List.length_drop];omega
         refine Calls.mono (hD T.c (T.d+off) n cap' i j O' W hij hjn c3 (by omega) (by omega) hcsC ?_ h1O) ?_
         ·intro p hp
          have:=hfz rfl (T.d+off+p) (.inl (by omega))
          simp only[World.frozen?,hob,Bool.and_eq_false_iff,decide_eq_false_iff_not]
          omega
         ·rintro ex W' ⟨zs,hz,rfl,rfl⟩
          obtain⟨a1,r1,r2,r2b,r3,r4,r5,r6⟩:=Dd T.c t (lo,hi2) (O'.drop (j * k.length)) (T.d+off+i * k.length) arr W.drew hob (by omega)
          obtain⟨a2,s1,s2,s2b,s3,s4,s5,s6⟩:=Dd T.c t (lo,hi2) zs (T.d+off+(n - (j - i)) * k.length) a1 _ r1 (by omega)
          obtain⟨hdel,hdelE⟩:=hdv.del hm
          obtain⟨φ,qa⟩:=hdv.abs
          have hmap:=hdel.G3 (T:=⟨T.c,T.d+off,T.r - off,k.length⟩) (o:= .cells (Ar k (M.take i++M.drop j)) k.length false) (W':=(W.drew.setCells T.c (T.d+off+i * k.length) (O'.drop (j * k.length))).setCells T.c (T.d+off+(n - (j - i)) * k.length) zs)
           (by rw[s3,r3];exact Nat.le_refl _) (fun p _ hp=>by rw[s4 p hp,r4 p hp];rfl)
           (fun b' p T' hb' hm' hv=>by
            intro e1
            obtain⟨e2,hb2⟩:=AA.A2 hb'
            exact e2 (hdv.inj b' b _ _ hb2 hg T' T hm' hm hv id e1))
           ⟨φ,⟨fun b' a ro T' h1 h2=>qa.rep b' a ro T' (AA.A2 h1).2 h2,fun b' a ro T' h1 h2 b2 o2 T2 h3 h4 h5=>qa.Be b' a ro T' (AA.A2 h1).2 h2 b2 o2 T2 (AA.A2 h3).2 h4 h5⟩,
            fun b' a ro h1 ⟨T',h2⟩=>(qa.Be b' a ro T' (AA.A2 h1).2 h2 b _ T hg hm (Ne.symm (AA.A2 h1).1) id).1⟩
           s1 (hdv.own b _ hg rfl T hm id) ?_ (by rw[s5,r5];rfl) (by rw[s6,r6];rfl)
          ·obtain⟨g1,g2⟩:=D6 (by omega) (H1:=H.del b) (m:=n - (j - i)) (v':= .slice (some ⟨T.c,T.d+off,none⟩) (n - (j - i)) cap') hmap.1
            (.slice H.next 0 _ _ _ _ ⟨T.c,T.d+off,T.r - off,k.length⟩ (Ah.A8 _ _ _) (.inr ⟨by omega,by omega,by omega,by show 0+cap' * k.length≤T.r - off;omega,.inr (by omega)⟩) (.inl rfl))
            (fun p _=>by
             rw[AA.B5,AA.B5,AA.AN]
             by_cases e:p=b<;>simp[e]) rfl
           refine⟨_,_,rfl,g1,g2,?_⟩
           refine(hdelE.trans hmap.2).congr (fun p hp hmp=>?_) (fun p hp hmp=>?_) rfl rfl
           ·have:p≠b:=by rintro rfl;rw[hm]at hmp;cases hmp
            rw[AA.AN,if_neg this]
           ·have:p≠b:=by rintro rfl;rw[hm]at hmp;cases hmp
            have hp:p < H.next:=hp
            rw[AA.AR,AA.AR,if_neg (by show p≠H.next;omega),if_neg (by show p≠H.next;omega),AA.B5,AA.B5,AA.AN,if_neg this,if_neg this,if_neg this]
          ·refine .cells ⟨T.c,T.d+off,T.r - off,k.length⟩ _ _ false _ t lo hi2 rfl ?_ ?_ ?_
           ·show Aq μ _ (List.take _ (List.drop (T.d+off) a2.toList))
            have hA:arr.toList=arr.toList.take (T.d+off)++arr.toList.drop (T.d+off):=(List.take_append_drop _ _).symm
            have hAl:(arr.toList.take (T.d+off)).length=T.d+off:=by rw[List.length_take,Array.length_toList];omega
            have hA1l:n * k.length≤(arr.toList.drop (T.d+off)).length:=by
             have e5:arr.toList.length=arr.size:=Array.length_toList
             rw[List.length_drop,e5];omega
            generalize hA0:arr.toList.take (T.d+off)=A0 at hA hAl
            generalize hA1:arr.toList.drop (T.d+off)=A1 at hA hO' hA1l
            have hs2:a2.toList=A0++BK (BK A1 (i * k.length) (O'.drop (j * k.length))) ((n - (j - i)) * k.length) zs:=by
             rw[s2,r2,hA]
             rw[show T.d+off+i * k.length=A0.length+i * k.length by omega,ID]
             rw[show T.d+off+(n - (j - i)) * k.length=A0.length+(n - (j - i)) * k.length by omega,ID]
            have hrl:((Ar k M).take (i * k.length)++(Ar k M).drop (j * k.length)).length=i * k.length+(O'.drop (j * k.length)).length:=by
             simp only[List.length_append,List.length_take,List.length_drop];omega
            rw[hs2,hres,hrl,List.drop_left' hAl]
            have hjn2:j * k.length - i * k.length≤n * k.length:=Nat.le_trans (Nat.sub_le _ _) hje
            rw[Q1 A1 (O'.drop (j * k.length)) zs (i * k.length) ((n - (j - i)) * k.length) (by omega) (by rw[hz,e1,e2,Nat.sub_add_cancel hjn2];exact hA1l)]
            rw[show A1.take (i * k.length)=O'.take (i * k.length) by rw[←hO',List.take_take,Nat.min_eq_left (by omega)]]
            exact(hold.take _).append (hold.drop _)
           ·show a2.size=T.d+off+(T.r - off)
            omega
           ·intro _ p hp
            refine hfz rfl p ?_
            have:a2.size=arr.size:=by omega
            rw[←this];exact hp
   ·cases hF
  ·cases hF
 ·cases hF
end
end Go.AD

set_option linter.unusedVariables false
set_option linter.unusedSimpArgs false
namespace Go.AD
open Go.Proofs Go.RowKit Go.Lib
set_option maxHeartbeats 4000000 in
set_option maxRecDepth 1000000 in
theorem UN:WU Tryz.prog 67 2:=by
 intro b off n c i j cs w hij hjn hnc hc63 hcl hcs hfz h1c
 have mixed:Tryz.prog.follows .mixedOrders=true:=by kernel_rfl
 obtain⟨i0,z0,hi0,hz0,hzs,hzc,hz1⟩:∃i0 z0,Tryz.prog.info? 101=some i0∧i0.zero=some z0∧i0.size=2∧z0.cells.size=2∧z0.cells.toList.all (·.oneCell')=true:=⟨Tryz.t101,Tryz.t101.zero.getD default,by kernel_rfl,by kernel_rfl,by kernel_rfl,by kernel_rfl,by kernel_rfl⟩
 have hzv:∀w,(zeroValue 101).run Tryz.prog w= .ok z0 w:=fun w=>by simp[zeroValue,typeInfo,hi0,hz0]
 obtain⟨news,hnews⟩:∃news,news=cs.drop (j * 2):=⟨_,rfl⟩
 have hlen:news.length=(n - j) * 2:=by rw[hnews,List.length_drop,hcl,Nat.sub_mul]
 obtain⟨A,hA,hsrc⟩:∃A:Addr,(if c=j then some (⟨b,off,none⟩:Addr)else some ⟨b,off+j * 2,none⟩)=some A∧Hid (∀t u,news[t]? = some u→w.drew.cell? (A.add t)=some u):=by
  by_cases h:c=j
  ·refine⟨⟨b,off,none⟩,by simp[h],fun t u hu=>?_⟩
   have h0:news.length=0:=by rw[hlen,show n - j=0 by omega,Nat.zero_mul]
   rw[List.length_eq_zero_iff.1 h0]at hu
   simp at hu
  ·refine⟨⟨b,off+j * 2,none⟩,by simp[h],fun t u hu=>?_⟩
   rw[Addr.add_lit,Nat.add_assoc]
   rw[hnews,List.getElem?_drop]at hu
   exact hcs _ _ hu
 have s1:Hid (news.length=(n - j) * 2):=hlen
 have s2:Hid (∀u∈news,u.oneCell'=true):=fun u hu=>h1c u (by rw[hnews]at hu;exact List.mem_of_mem_drop hu)
 have hsome:∀t,t < n * 2→(w.cell? ⟨b,off+t,none⟩).isSome=true:=fun t ht=>by
  rw[hcs t _ (List.getElem?_eq_getElem (by omega))];rfl
 have s3:Hid (∀t,t < news.length→(w.drew.cell? ⟨b,off+i * 2+t,none⟩).isSome=true∧w.drew.frozen? ⟨b,off+i * 2+t,none⟩=false):=by
  intro t ht
  rw[hlen]at ht
  rw[Nat.add_assoc]
  exact⟨hsome _ (by omega),hfz _ (by omega)⟩
 obtain⟨W1,hW1⟩:∃W1,W1=w.drew.setCells b (off+i * 2) news:=⟨_,rfl⟩
 obtain⟨zs,hzs2⟩:∃zs,zs=(Builtin.zeroCells z0.cells (n - (i+(n - j)))).toList:=⟨_,rfl⟩
 have hzl:zs.length=(j - i) * 2:=by rw[hzs2];simp[Builtin.zeroCells,hzc];omega
 have hcl2:∀ty,(Builtin.clear_ #[95] ty #[.slice (some ⟨b,off+(i+(n - j)) * 2,none⟩) (n - (i+(n - j))) (c - (i+(n - j)))]).run Tryz.prog W1= .ok (.tuple #[]) (W1.setCells b (off+(i+(n - j)) * 2) zs):=fun ty=>by
  rw[hzs2]
  refine KA W1 95 101 ty z0 Tryz.underlying95 hzv (fun v hv=>List.all_eq_true.1 hz1 v hv) b (off+(i+(n - j)) * 2) _ _ (by omega) (fun t ht=>?_) (fun t ht=>?_)
  ·rw[hzc]at ht
   rw[hW1,Nat.add_assoc]
   exact isSome_setCells b _ _ _ (fun p hp=>by rw[hlen]at hp;rw[Nat.add_assoc];exact hsome _ (by omega)) _ (hsome _ (by omega))
  ·rw[hzc]at ht
   rw[hW1,World.frozen?_setCells,Nat.add_assoc]
   exact hfz _ (by omega)
 have hW:Hid (W1=w.drew.setCells b (off+i * 2) news):=hW1
 have X:Hid (news=cs.drop (j * 2)):=hnews
 have Y:Hid (zs.length=(j - i) * 2):=hzl
 have hic:i≤c:=by omega
 have hjc:j≤c:=by omega
 have hin:i≤n:=by omega
 clear hW1 hcs hfz h1c hnews hlen hzl hsome hzs2
 go_enter Tryz.func67,Tryz.ntmps67
 go_wp2_with fail
 go_region_law_o (refine step_append_room rfl (.tmp 22) (.tmp 25) 95 rfl 101 i0 2 Tryz.underlying95 hi0 hzs b off i c (by simp[Act.eval,Act.put]) A (n - j) (c - j) news (by simp[Act.eval,Act.put]) s1.out hsrc.out s2.out (by omega) s3.out ?_;rw[←hW.out])
 go_wp2
 go_ret
 refine⟨zs,Y.out,by rw[show n - (j - i)=i+(n - j) by omega];rfl,?_⟩
 rw[←X.out,←hW.out,show n - (j - i)=i+(n - j) by omega]
theorem WS (laid:List (Nat × List Value)):Da Tryz.prog laid 67 (Gj 2):=
 Ri ⟨_,_,show entry Tryz.prog 67=some (33,Bb Tryz.prog 67 []) by kernel_rfl⟩ (by decide) (by decide) UN
end Go.AD

namespace Go.AD
open Classical in
noncomputable def Dr (sz bytes:Nat):Cn:=fun args H=>
 match args with
 | [.slice (some ⟨b,0,some q⟩) n cap,.int .i64 x,.slice (some ⟨vb,voff,none⟩) m _]=>
  match H.get b,H.get vb with
  | some (.vec k l false),some (.cells vcs ve false)=>
   if k.length=sz∧cap=AF∧k.all SK.plain=true∧vb≠b∧m≠0∧ve≠1∧q+n≤l.length∧0≤x∧x < n∧BO bytes (n+m)=true then
    match Qj k m ((vcs.drop voff).take (m * k.length))with
    | some new=>some (.slice (some ⟨H.next,0,some 0⟩) (n+m) AF,(H.del b).alloc (.vec k (((l.drop q).take n).take x.toNat++(new++((l.drop q).take n).drop x.toNat)) false))
    | none=>none
   else none
  | _,_=>none
 | _=>none
noncomputable def K3 (sz bytes:Nat):FJ:=fun args H K=>
 match args with
 | [.slice (some ⟨b,0,some q⟩) n cap,.int .i64 x,.slice (some ⟨vb,voff,none⟩) m _]=>
  match H.get b,H.get vb with
  | some (.vec k l false),some (.cells vcs ve false)=>
   bif Nat.beq k.length sz&&Nat.beq cap AF&&k.all SK.plain&& !(Nat.beq vb b)&& !(Nat.beq m 0)&& !(Nat.beq ve 1)then
    match Qj k m ((vcs.drop voff).take (m * k.length))with
    | some new=>(q+n≤l.length∧0≤x∧x < n∧BO bytes (n+m)=true)∧K (.slice (some ⟨H.next,0,some 0⟩) (n+m) AF) ((H.del b).alloc (.vec k (((l.drop q).take n).take x.toNat++(new++((l.drop q).take n).drop x.toNat)) false))
    | none=>False
   else False
  | _,_=>False
 | _=>False
theorem JB {a b:Nat} (h:Nat.beq a b=false):a≠b:=by
 rintro rfl
 rw[Nat.beq_refl]at h;cases h
theorem K7 {a b:Nat} (h:a≠b):Nat.beq a b=false:=by
 cases hq:Nat.beq a b
 ·rfl
 ·exact absurd (Nat.eq_of_beq_eq_true hq) h
theorem RJ {X:Ctx} {f:FuncId} {sz B:Nat} (hX:X.FL f=some (Dr sz B)) {args:List Value} {H:AA} {K:Value→AA→Prop} (h:K3 sz B args H K):∃v H',Bp X f args .normal H=some (v,H')∧K v H':=by
 unfold K3 at h
 split at h
 ·rename_i b q n cap x vb voff m vcap
  split at h
  ·rename_i k l vcs ve hb hvb
   cases hc:(Nat.beq k.length sz&&Nat.beq cap AF&&k.all SK.plain&& !(Nat.beq vb b)&& !(Nat.beq m 0)&& !(Nat.beq ve 1))
   ·rw[hc]at h;cases h
   ·rw[hc]at h
    simp only[cond_true]at h
    split at h
    ·rename_i new hnew
     refine⟨_,_,?_,h.2⟩
     unfold Bp
     simp only[hX]
     unfold Dr
     simp only[hb,hvb]
     simp only[Bool.and_eq_true,Bool.not_eq_true']at hc
     obtain⟨⟨⟨⟨⟨c1,c2⟩,c3⟩,c4⟩,c5⟩,c6⟩:=hc
     rw[if_pos ⟨Nat.eq_of_beq_eq_true c1,Nat.eq_of_beq_eq_true c2,c3,JB c4,JB c5,JB c6,h.1⟩]
     simp only[hnew]
    ·cases h
  ·cases h
 ·cases h
section
variable {P:Program} {laid:List (Nat × List Value)}
theorem QA {f:FuncId} {sz B:Nat} {E:TypeId} (hent:∃n c,entry P f=some (n,c)) (hk0:0 < sz) (hk1:sz≠1) (hS:QK P f sz) (hG:TS P f sz B E):Da P laid f (Dr sz B):=by
 refine⟨hent,?_⟩
 intro base W0 μ H W args args' v H' hW h hl ha hF
 unfold Dr at hF
 split at hF
 ·rename_i b q n cap x vb voff m vcap
  split at hF
  ·rename_i k l vcs ve hb hvb
   split at hF
   ·rename_i hc
    obtain⟨rfl,rfl,hpl,hne,hm0,hve,hq,hx0,hxn,hbig⟩:=hc
    split at hF
    ·rename_i new hnew
     obtain⟨i,rfl⟩:∃i:Nat,x=i:=⟨x.toNat,by omega⟩
     simp only[Int.toNat_natCast,Option.some.injEq,Prod.mk.injEq]at hF
     obtain⟨rfl,rfl⟩:=hF
     generalize hqq:args'.toList=qq at ha
     cases ha with
     | cons h1 ha=>cases ha with
      | cons h2 ha=>cases ha with
       | cons h3 ha=>
        cases ha
        rcases E5 h hb h1 with⟨h1f,hnr,_⟩ | ⟨_,hn0,_⟩
        rotate_left
        ·omega
        have hdv:=h.JN hb fun T hT hv=>hnr T hT hv.2.1
        have hg:(H.put b (.cells (Ar k l) k.length false)).get b=some (.cells (Ar k l) k.length false):=by rw[AA.AN,if_pos rfl]
        have hgv:(H.put b (.cells (Ar k l) k.length false)).get vb=some (.cells vcs ve false):=by rw[AA.AN,if_neg hne];exact hvb
        have hT:∃T,μ b=some T:=by cases h1 with | Bt _ _ _ _ _ _ T hm _ _ _=>exact⟨T,hm⟩ | DC _ _ _ T _ hm _=>exact⟨T,hm⟩
        obtain⟨d1,d2,d3⟩:=MY k (by omega) _ _ _ hnew
        rw[List.take_take,Nat.min_self]at d1
        have hll:((vcs.drop voff).take (m * k.length)).length=m * k.length:=by rw[←d1,B4,d2]
        have hmk:Nat.beq (m * k.length) 0=false:=K7 (Nat.mul_ne_zero hm0 (by omega))
        have hsrc:DJ k.length (.slice (some ⟨vb,voff,none⟩) m vcap) (H.put b (.cells (Ar k l) k.length false))=some (m,Ar k new):=by
         unfold DJ
         simp only[hmk,cond_false,hgv,hll,Nat.beq_refl,cond_true,d1]
        have hold:((Ar k l).drop (q * k.length)).take (n * k.length)=Ar k ((l.drop q).take n):=by rw[De,EC]
        have hOl:(Ar k ((l.drop q).take n)).length=n * k.length:=by rw[B4,List.length_take,List.length_drop,Nat.min_eq_left (by omega)]
        have hok:=OT k hpl
        generalize hM:(l.drop q).take n=M at hold hOl ⊢
        have hres:Ar k (M.take i++(new++M.drop i))=(Ar k M).take (i * k.length)++(Ar k new++(Ar k M).drop (i * k.length)):=by rw[C2,C2,EC,De]
        obtain⟨b5,b6⟩:=Hm hbig
        have hins:K9 k.length B [.slice (some ⟨b,q * k.length,none⟩) n AF,.int .i64 (Int.ofNat i),.slice (some ⟨vb,voff,none⟩) m vcap] (H.put b (.cells (Ar k l) k.length false))=
         some (.slice (some ⟨H.next,0,none⟩) (n+m) (AF+(n+m)),((H.put b (.cells (Ar k l) k.length false)).del b).alloc (.cells (Ar k (M.take i++(new++M.drop i))) k.length false)):=by
         unfold K9
         have g1:Nat.ble AF AF=true:=Nat.ble_eq_true_of_le (Nat.le_refl _)
         have g2:Nat.blt i n=true:=Nat.ble_eq_true_of_le (by omega)
         have g3:Nat.beq vb b=false:=K7 hne
         have g4:Nat.beq m 0=false:=K7 hm0
         have g5:P1 ((H.put b (.cells (Ar k l) k.length false)).get vb)=true:=by
          rw[hgv]
          unfold P1
          simp only[K7 hve,Bool.not_false]
         simp only[g1,g2,g3,g4,g5,Bool.and_self,Bool.not_false,cond_true,hsrc]
         unfold cC
         simp only[hg,hold,hOl,Nat.beq_refl,hok,b5,b6,Bool.and_self,cond_true,hres]
         rfl
        have hrun:=(RB (laid:=laid) hent hk0 hk1 hS hG).2 base W0 μ _ W _ args' _ _ hW hdv hl (by rw[hqq];exact .cons h1f (.cons h2 (.cons h3 .nil))) hins
        refine Calls.mono hrun ?_
        rintro e W' ⟨v',μ',rfl,r2,r3,r4⟩
        obtain⟨g1,g2⟩:=D6 (by omega) (H1:=H.del b) r2 r3 (fun p _=>by
         rw[AA.B5,AA.B5,AA.AN]
         by_cases e:p=b<;>simp[e]) rfl
        refine⟨v',μ',rfl,g1,g2,?_⟩
        obtain⟨T,hT⟩:=hT
        refine r4.congr (fun p hp hmp=>?_) (fun p hp hmp=>?_) rfl rfl
        ·have:p≠b:=by rintro rfl;rw[hT]at hmp;cases hmp
         rw[AA.AN,if_neg this]
        ·have:p≠b:=by rintro rfl;rw[hT]at hmp;cases hmp
         have hp:p < H.next:=hp
         rw[AA.AR,AA.AR,if_neg (by show p≠H.next;omega),if_neg (by show p≠H.next;omega),AA.B5,AA.B5,AA.AN,if_neg this,if_neg this,if_neg this]
    ·cases hF
   ·cases hF
  ·cases hF
 ·cases hF
end
end Go.AD

set_option maxRecDepth 1000000
namespace Go.AD
open Go.Proofs
theorem Zy (k:ByteArray) (Q:Value→List (Option AJ)→Prop):Gv XA aX Bn [9] Q 300 (st Bn 26 [p9,.string k] (BW ⟨.leaf,9⟩ Og))=(
 (((.bool false):Value)=(.bool false))∧(Q (.tuple ⟨[(.string ({ data:=#[] })),(.bool false)]⟩) [some (.cells [(.bool true),(.slice none 0 0)] 0 false)])):=by kernel_rfl
theorem aB (l:List (EK.C Ab)) (k:ByteArray) (Q:Value→List (Option AJ)→Prop):Gv XA aX Bn [9,10] Q 300 (st Bn 26 [p9,.string k] (BW ⟨.leaf,9⟩ (Lb l)))=(
 (List.length l=List.length l∧AF=AF∧BE l∧List.length l < 4611686018427387904)∧(bif decide (↑(AM l k) < Int.ofNat (List.length l))then(bif decide (0≤↑(AM l k))&&Nat.blt (Int.toNat ↑(AM l k)) (List.length l)then(bif Nat.blt (0+Int.toNat ↑(AM l k)) (List.length l)then(bif ByteArray.toList (Prod.fst (List.getD l (0+Int.toNat ↑(AM l k)) (EK.AQ Ab)))==ByteArray.toList k then(((.bool true):Value)=(.bool true))∧(((.bool (ByteArray.toList (Prod.fst (List.getD l (0+Int.toNat ↑(AM l k)) (EK.AQ Ab)))==ByteArray.toList k)):Value)=(.bool true))∧(((.string k):Value)=(.string k))∧(bif Nat.blt (0+Int.toNat ↑(AM l k)) (List.length l)then(((.string (Prod.fst (List.getD l (0+Int.toNat ↑(AM l k)) (EK.AQ Ab)))):Value)=(.string (Prod.fst (List.getD l (0+Int.toNat ↑(AM l k)) (EK.AQ Ab)))))∧(((.pointer (some ⟨10,0,(some (0+Int.toNat ↑(AM l k)))⟩)):Value)=(.pointer (some ⟨10,0,(some (0+Int.toNat ↑(AM l k)))⟩)))∧(bif decide (0≤↑(AM l k))&&Nat.blt (Int.toNat ↑(AM l k)) (List.length l)then(((.pointer (some ⟨10,0,(some (0+Int.toNat ↑(AM l k)))⟩)):Value)=(.pointer (some ⟨10,0,(some (0+Int.toNat ↑(AM l k)))⟩)))∧(((.int .i64 (↑(AM l k))):Value)=(.int .i64 (↑(AM l k))))∧(((.slice (some ⟨10,0,(some 0)⟩) (List.length l) 18446744073709551616):Value)=(.slice (some ⟨10,0,(some 0)⟩) (List.length l) 18446744073709551616))∧(bif decide (0≤↑(AM l k))&&Nat.blt (Int.toNat ↑(AM l k)) (List.length l)then(bif Nat.blt (0+Int.toNat ↑(AM l k)) (List.length l)then(Q (.tuple ⟨[(.string (Prod.snd (List.getD l (0+Int.toNat ↑(AM l k)) (EK.AQ Ab)))),(.bool true)]⟩) [some (.cells [(.bool true),(.slice (some ⟨10,0,(some 0)⟩) (List.length l) 18446744073709551616)] 0 false),some (.vec Ab l false)])else False)else False)else False)else False)else(((.bool false):Value)=(.bool false))∧(((.bool (ByteArray.toList (Prod.fst (List.getD l (0+Int.toNat ↑(AM l k)) (EK.AQ Ab)))==ByteArray.toList k)):Value)=(.bool false))∧(((.string k):Value)=(.string k))∧(bif Nat.blt (0+Int.toNat ↑(AM l k)) (List.length l)then(((.string (Prod.fst (List.getD l (0+Int.toNat ↑(AM l k)) (EK.AQ Ab)))):Value)=(.string (Prod.fst (List.getD l (0+Int.toNat ↑(AM l k)) (EK.AQ Ab)))))∧(((.pointer (some ⟨10,0,(some (0+Int.toNat ↑(AM l k)))⟩)):Value)=(.pointer (some ⟨10,0,(some (0+Int.toNat ↑(AM l k)))⟩)))∧(bif decide (0≤↑(AM l k))&&Nat.blt (Int.toNat ↑(AM l k)) (List.length l)then(((.pointer (some ⟨10,0,(some (0+Int.toNat ↑(AM l k)))⟩)):Value)=(.pointer (some ⟨10,0,(some (0+Int.toNat ↑(AM l k)))⟩)))∧(((.int .i64 (↑(AM l k))):Value)=(.int .i64 (↑(AM l k))))∧(((.slice (some ⟨10,0,(some 0)⟩) (List.length l) 18446744073709551616):Value)=(.slice (some ⟨10,0,(some 0)⟩) (List.length l) 18446744073709551616))∧(Q (.tuple ⟨[(.string ({ data:=#[] })),(.bool false)]⟩) [some (.cells [(.bool true),(.slice (some ⟨10,0,(some 0)⟩) (List.length l) 18446744073709551616)] 0 false),some (.vec Ab l false)])else False)else False))else False)else False)else(((.bool false):Value)=(.bool false))∧(Q (.tuple ⟨[(.string ({ data:=#[] })),(.bool false)]⟩) [some (.cells [(.bool true),(.slice (some ⟨10,0,(some 0)⟩) (List.length l) 18446744073709551616)] 0 false),some (.vec Ab l false)]))):=by kernel_rfl
theorem ad (Q:Value→List (Option AJ)→Prop):Gv XA aX CP [9] Q 300 (st CP 6 [p9] (BW ⟨.leaf,9⟩ Og))=(
 (Q (.int .i64 0) [some (.cells [(.bool true),(.slice none 0 0)] 0 false)])):=by kernel_rfl
theorem ZQ (l:List (EK.C Ab)) (Q:Value→List (Option AJ)→Prop):Gv XA aX CP [9,10] Q 300 (st CP 6 [p9] (BW ⟨.leaf,9⟩ (Lb l)))=(
 (Q (.int .i64 (Int.ofNat (List.length l))) [some (.cells [(.bool true),(.slice (some ⟨10,0,(some 0)⟩) (List.length l) 18446744073709551616)] 0 false),some (.vec Ab l false)])):=by kernel_rfl
theorem Zg (l:List (EK.C Ab)) (k v:ByteArray) (n:Nat) (x:Int) (Q:Value→List (Option AJ)→Prop):Gv XA aX BL [] Q 300 (st BL 95 [.slice (some ⟨9,0,some 0⟩) n AF,.int .i64 x,.slice (some ⟨10,0,none⟩) 1 1] (BW ⟨.leaf,9⟩ [.vec Ab l false,.cells [.string k,.string v] 2 true]))=(
 (bif decide (0≤Int.ofNat n)&&Nat.ble (Int.toNat (Int.ofNat n)) n&&decide (0≤x)&&Nat.ble (Int.toNat x) (Int.toNat (Int.ofNat n))then(bif x==Int.ofNat n then(bif true&&Nat.ble (0+n) (List.length l)&&BO 32 (n+1)then(Q (.slice (some ⟨11,0,(some 0)⟩) (n+1) 18446744073709551616) [some (.vec ([SK.str]++([SK.str]++[])) (List.take n (List.drop 0 l)++[(k,v)]) false)])else False)else False)else False)):=by kernel_rfl
end Go.AD

set_option maxRecDepth 1000000
namespace Go.AD
open Go.Proofs
def DA (l:List (EK.C Ab)) (k:ByteArray):Option ByteArray:=
 if AM l k < l.length∧((l.getD (AM l k) (EK.AQ Ab)).1.toList==k.toList)=true then some (l.getD (AM l k) (EK.AQ Ab)).2 else none
def M5 (o:Option ByteArray):Value:= .tuple ⟨[.string (o.getD { data:=#[] }),.bool o.isSome]⟩
theorem FZ (o:Option ByteArray):Ch 6 (M5 o)=true∧Af 4 (M5 o)=[]:=by
 cases o<;>exact⟨rfl,rfl⟩
noncomputable def Au:Aj:=
 ⟨fun l rest=>BE l∧l.length < 4611686018427387904∧∃k,rest=[.string k],fun l rest=>match rest with
  | [.string k]=>M5 (DA l k)
  | _=>A5,fun l _=>l⟩
theorem cb {a n:Nat} (h:a < n):Nat.blt (0+Int.toNat (a:Int)) n=true:=by
 rw[Nat.zero_add,Int.toNat_natCast];exact Nat.ble_eq_true_of_le h
theorem ca {a n:Nat} (h:a < n):(decide ((0:Int)≤(a:Int))&&Nat.blt (Int.toNat (a:Int)) n)=true:=by
 rw[Int.toNat_natCast,show Nat.blt a n=true from Nat.ble_eq_true_of_le h];simp
theorem Y2:Da Tryz.prog AL Bn (A3 AL 9 [true] Au.G):=by
 refine K5 Wg (by kernel_rfl) (n:=26) ?_
 rintro l rest ⟨hs,hn,k,rfl⟩
 refine⟨by simp,(FZ _).1,(FZ _).2,?_,?_⟩
 ·rintro rfl
  have hv:Au.v [] [.string k]= .tuple ⟨[.string { data:=#[] },.bool false]⟩:=by
   show M5 (DA [] k)=_
   unfold DA
   rw[if_neg (by simp)];rfl
  rw[hv]
  refine(B8.Gq (B6 I0 (ids:=[9]) (Q:=fun v os=>v= .tuple ⟨[.string { data:=#[] },.bool false]⟩∧os=[some (.cells [.bool true,.slice none 0 0] 0 false)]) 300 _ (by rw[Zy];exact⟨rfl,rfl,rfl⟩))).mono ?_
  rintro v H ⟨rfl,h⟩
  exact⟨rfl,.inl ⟨rfl,dC rfl h⟩⟩
 ·have hE:As XA 10 Bn (fun v H=>v=M5 (DA l k)∧([9,10]++Af 4 v).map H.get=[some (.cells [.bool true,.slice (some ⟨10,0,some 0⟩) l.length AF] 0 false),some (.vec Ab l false)]) (st Bn 26 [p9,.string k] (BW ⟨.leaf,9⟩ (Lb l))):=by
   refine B8.Gq (B6 I0 (ids:=[9,10]) (Q:=fun v os=>v=M5 (DA l k)∧os=[some (.cells [.bool true,.slice (some ⟨10,0,some 0⟩) l.length AF] 0 false),some (.vec Ab l false)]) 300 _ ?_)
   rw[aB]
   refine⟨⟨rfl,rfl,hs,hn⟩,AT (fun h=>?_) (fun h=>?_)⟩
   ·have hlt:AM l k < l.length:=by
     have:(AM l k:Int) < (l.length:Int):=h
     omega
    refine AE (ca hlt) (AE (cb hlt) (Az (fun hc=>?_) (fun hc=>?_)))
    ·have e:DA l k=some (l.getD (0+Int.toNat (AM l k:Int)) (EK.AQ Ab)).2:=by
      unfold DA
      rw[Nat.zero_add,Int.toNat_natCast]at hc ⊢
      rw[if_pos ⟨hlt,hc⟩]
     refine⟨rfl,by rw[hc],rfl,AE (cb hlt) ⟨rfl,rfl,AE (ca hlt) ⟨rfl,rfl,rfl,AE (ca hlt) (AE (cb hlt) ⟨by rw[e];rfl,by unfold AF;rfl⟩)⟩⟩⟩
    ·have e:DA l k=none:=by
      unfold DA
      rw[Nat.zero_add,Int.toNat_natCast]at hc
      rw[if_neg (by rintro⟨_,h2⟩;rw[hc]at h2;cases h2)]
     exact⟨rfl,by rw[hc],rfl,AE (cb hlt) ⟨rfl,rfl,AE (ca hlt) ⟨rfl,rfl,rfl,by rw[e];rfl,by unfold AF;rfl⟩⟩⟩
   ·have e:DA l k=none:=by
     unfold DA
     rw[if_neg (by rintro⟨h2,_⟩;exact h (by show(AM l k:Int) < (l.length:Int);omega))]
    exact⟨rfl,by rw[e];rfl,by unfold AF;rfl⟩
  refine hE.mono ?_
  rintro v H ⟨rfl,h⟩
  obtain⟨h1,h2⟩:=dy (FZ _).2 h
  exact⟨rfl,.inr ⟨10,by decide,h1,h2⟩⟩
noncomputable def cz:Aj:=
 ⟨fun _ rest=>rest=[],fun l _=> .int .i64 l.length,fun l _=>l⟩
theorem ZK:Da Tryz.prog AL CP (A3 AL 9 [true] cz.G):=by
 refine K5 Wg (by kernel_rfl) (n:=6) ?_
 rintro l rest rfl
 refine⟨by simp,rfl,rfl,?_,?_⟩
 ·rintro rfl
  refine(B8.Gq (B6 I0 (ids:=[9]) (Q:=fun v os=>v= .int .i64 0∧os=[some (.cells [.bool true,.slice none 0 0] 0 false)]) 300 _ (by rw[ad];exact⟨rfl,rfl⟩))).mono ?_
  rintro v H ⟨rfl,h⟩
  exact⟨rfl,.inl ⟨rfl,dC rfl h⟩⟩
 ·refine(B8.Gq (B6 I0 (ids:=[9,10]) (Q:=fun v os=>v= .int .i64 l.length∧os=[some (.cells [.bool true,.slice (some ⟨10,0,some 0⟩) l.length AF] 0 false),some (.vec Ab l false)]) 300 _ (by rw[ZQ];exact⟨rfl,by unfold AF;rfl⟩))).mono ?_
  rintro v H ⟨rfl,h⟩
  obtain⟨h1,h2⟩:=dy rfl h
  exact⟨rfl,.inr ⟨10,by decide,h1,h2⟩⟩
end Go.AD

set_option maxRecDepth 1000000
namespace Go.AD
open Go.Proofs
noncomputable def HK (args:List Value) (objs:List AJ):GT:=
 match args,objs with
 | [.slice (some ⟨9,0,some 0⟩) n c,.int .i64 x,.slice (some ⟨10,0,none⟩) 1 1],[.vec [.str,.str] l _,.cells [.string k,.string v] 2 _]=>
  .ask (n=l.length∧c=AF∧x=n∧BO 32 (n+1)=true) (.ret ⟨.slice (some ⟨11,0,some 0⟩) (n+1) AF,[none,none],[.vec Ab (l++[(k,v)]) false]⟩)
 | [.slice none 0 0,.int .i64 (.ofNat 0),.slice (some ⟨9,0,none⟩) 1 1],[.cells [.string k,.string v] 2 _]=> .ret ⟨.slice (some ⟨10,0,some 0⟩) 1 AF,[none],[.vec Ab [(k,v)] false]⟩
 | _,_=> .fail
noncomputable def Uo:Cn:=fun args H=>match Dr 2 32 args H with
 | some r=>some r
 | none=>A3 AL 9 [true,false] HK args H
noncomputable def bX:FJ:=fun args H K=>match args with
 | [.slice a n c,.int .i64 x,s]=>bif decide (x < (n:Int))then K3 2 32 [.slice a n c,.int .i64 x,s] H K else B0 AL 9 [true,false] HK [.slice a n c,.int .i64 x,s] H K
 | _=>False
theorem Z0 (k v:ByteArray) (Q:Value→List (Option AJ)→Prop):Gv XA aX BL [10] Q 300 (st BL 95 [.slice none 0 0,.int .i64 0,.slice (some ⟨9,0,none⟩) 1 1] (BW ⟨.leaf,9⟩ [.cells [.string k,.string v] 2 false]))=(
 (Q (.slice (some ⟨10,0,none⟩) 1 18446744073709551617) [some (.cells [(.string k),(.string v)] 2 false),some (.cells [(.string k),(.string v)] 2 false)])):=by kernel_rfl
noncomputable def fp:List (FuncId × Cn):=(BL,Uo)::(HR,Gj 2)::fe
noncomputable def XS:Ctx:=Cp Tryz.prog AL fp
noncomputable def eG:Pf:=fun g=>bif Nat.beq g BL then some bX else bif Nat.beq g HR then some (OX 2)else aX g
theorem YS (k v:ByteArray) (Q:Value→List (Option AJ)→Prop):Gv XS eG Bq [9,12] Q 500 (st Bq 61 [p9,.string k,.string v] (BW ⟨.leaf,9⟩ Og))=(
 (((.bool false):Value)=(.bool false))∧(Q (.tuple ⟨[(.string ({ data:=#[] })),(.bool false),(.int .i64 0)]⟩) [some (.cells [(.bool true),(.slice (some ⟨12,0,(some 0)⟩) 1 18446744073709551616)] 0 false),some (.vec ([SK.str,SK.str]) ([(k,v)]) false)])):=by kernel_rfl
theorem aZ (l:List (EK.C Ab)) (k v:ByteArray) (Q:Value→List (Option AJ)→Prop):Gv XS eG Bq [9,10,13] Q 500 (st Bq 61 [p9,.string k,.string v] (BW ⟨.leaf,9⟩ (Lb l)))=(
 (List.length l=List.length l∧AF=AF∧BE l∧List.length l < 4611686018427387904)∧(bif decide (((AM l k):Int) < Int.ofNat (List.length l))then(bif decide (0≤((AM l k):Int))&&Nat.blt (Int.toNat ((AM l k):Int)) (List.length l)then(bif Nat.blt (0+Int.toNat ((AM l k):Int)) (List.length l)then(bif ByteArray.toList (Prod.fst (List.getD l (0+Int.toNat ((AM l k):Int)) (EK.AQ Ab)))==ByteArray.toList k then(((.bool true):Value)=(.bool true))∧(((.bool (ByteArray.toList (Prod.fst (List.getD l (0+Int.toNat ((AM l k):Int)) (EK.AQ Ab)))==ByteArray.toList k)):Value)=(.bool true))∧(((.string k):Value)=(.string k))∧(bif Nat.blt (0+Int.toNat ((AM l k):Int)) (List.length l)then(((.string (Prod.fst (List.getD l (0+Int.toNat ((AM l k):Int)) (EK.AQ Ab)))):Value)=(.string (Prod.fst (List.getD l (0+Int.toNat ((AM l k):Int)) (EK.AQ Ab)))))∧(((.pointer (some ⟨10,0,(some (0+Int.toNat ((AM l k):Int)))⟩)):Value)=(.pointer (some ⟨10,0,(some (0+Int.toNat ((AM l k):Int)))⟩)))∧(bif decide (0≤((AM l k):Int))&&Nat.blt (Int.toNat ((AM l k):Int)) (List.length l)then(((.pointer (some ⟨10,0,(some (0+Int.toNat ((AM l k):Int)))⟩)):Value)=(.pointer (some ⟨10,0,(some (0+Int.toNat ((AM l k):Int)))⟩)))∧(((.int .i64 (((AM l k):Int))):Value)=(.int .i64 (((AM l k):Int))))∧(((.slice (some ⟨10,0,(some 0)⟩) (List.length l) 18446744073709551616):Value)=(.slice (some ⟨10,0,(some 0)⟩) (List.length l) 18446744073709551616))∧(bif decide (0≤((AM l k):Int))&&Nat.blt (Int.toNat ((AM l k):Int)) (List.length l)then(bif Nat.blt (0+Int.toNat ((AM l k):Int)) (List.length l)then(((.string v):Value)=(.string v))∧(((.int .i64 (((AM l k):Int))):Value)=(.int .i64 (((AM l k):Int))))∧(((.slice (some ⟨10,0,(some 0)⟩) (List.length l) 18446744073709551616):Value)=(.slice (some ⟨10,0,(some 0)⟩) (List.length l) 18446744073709551616))∧(((.pointer (some ⟨9,1,none⟩)):Value)=(.pointer (some ⟨9,1,none⟩)))∧(((.pointer (some ⟨9,0,none⟩)):Value)=(.pointer (some ⟨9,0,none⟩)))∧(((.pointer (some ⟨9,0,none⟩)):Value)=(.pointer (some ⟨9,0,none⟩)))∧(bif decide (0≤((AM l k):Int))&&Nat.blt (Int.toNat ((AM l k):Int)) (List.length l)then(bif Nat.blt (0+Int.toNat ((AM l k):Int)) (List.length l)then(Q (.tuple ⟨[(.string (Prod.snd (List.getD l (0+Int.toNat ((AM l k):Int)) (EK.AQ Ab)))),(.bool true),(.int .i64 0)]⟩) [some (.cells [(.bool true),(.slice (some ⟨10,0,(some 0)⟩) (List.length l) 18446744073709551616)] 0 false),some (.vec Ab (List.set l (0+Int.toNat ((AM l k):Int)) (Prod.fst (List.getD l (0+Int.toNat ((AM l k):Int)) (EK.AQ Ab)),v)) false),none])else False)else False)else False)else False)else False)else False)else(((.bool false):Value)=(.bool false))∧(((.bool (ByteArray.toList (Prod.fst (List.getD l (0+Int.toNat ((AM l k):Int)) (EK.AQ Ab)))==ByteArray.toList k)):Value)=(.bool false))∧(((.string k):Value)=(.string k))∧(bif Nat.blt (0+Int.toNat ((AM l k):Int)) (List.length l)then(((.string (Prod.fst (List.getD l (0+Int.toNat ((AM l k):Int)) (EK.AQ Ab)))):Value)=(.string (Prod.fst (List.getD l (0+Int.toNat ((AM l k):Int)) (EK.AQ Ab)))))∧(((.pointer (some ⟨10,0,(some (0+Int.toNat ((AM l k):Int)))⟩)):Value)=(.pointer (some ⟨10,0,(some (0+Int.toNat ((AM l k):Int)))⟩)))∧(bif decide (0≤((AM l k):Int))&&Nat.blt (Int.toNat ((AM l k):Int)) (List.length l)then(((.pointer (some ⟨10,0,(some (0+Int.toNat ((AM l k):Int)))⟩)):Value)=(.pointer (some ⟨10,0,(some (0+Int.toNat ((AM l k):Int)))⟩)))∧(((.int .i64 (((AM l k):Int))):Value)=(.int .i64 (((AM l k):Int))))∧
 (((.slice (some ⟨10,0,(some 0)⟩) (List.length l) 18446744073709551616):Value)=(.slice (some ⟨10,0,(some 0)⟩) (List.length l) 18446744073709551616))∧(bif decide (((AM l k):Int) < ((List.length l):Int))then(0+List.length l≤List.length l∧0≤((AM l k):Int)∧((AM l k):Int) < ((List.length l):Int)∧BO 32 (List.length l+1)=true)∧(Q (.tuple ⟨[(.string ({ data:=#[] })),(.bool false),(.int .i64 0)]⟩) [some (.cells [(.bool true),(.slice (some ⟨13,0,(some 0)⟩) (List.length l+1) 18446744073709551616)] 0 false),none,some (.vec Ab (List.take (Int.toNat ((AM l k):Int)) (List.take (List.length l) (List.drop 0 l))++([(k,v)]++List.drop (Int.toNat ((AM l k):Int)) (List.take (List.length l) (List.drop 0 l)))) false)])else(List.length l=List.length l∧AF=AF∧((AM l k):Int)=((List.length l):Int)∧BO 32 (List.length l+1)=true)∧(Q (.tuple ⟨[(.string ({ data:=#[] })),(.bool false),(.int .i64 0)]⟩) [some (.cells [(.bool true),(.slice (some ⟨13,0,(some 0)⟩) (List.length l+1) 18446744073709551616)] 0 false),none,some (.vec ([SK.str,SK.str]) (l++[(k,v)]) false)]))else False)else False))else False)else False)else(((.bool false):Value)=(.bool false))∧(bif decide (((AM l k):Int) < ((List.length l):Int))then(0+List.length l≤List.length l∧0≤((AM l k):Int)∧((AM l k):Int) < ((List.length l):Int)∧BO 32 (List.length l+1)=true)∧(Q (.tuple ⟨[(.string ({ data:=#[] })),(.bool false),(.int .i64 0)]⟩) [some (.cells [(.bool true),(.slice (some ⟨13,0,(some 0)⟩) (List.length l+1) 18446744073709551616)] 0 false),none,some (.vec Ab (List.take (Int.toNat ((AM l k):Int)) (List.take (List.length l) (List.drop 0 l))++([(k,v)]++List.drop (Int.toNat ((AM l k):Int)) (List.take (List.length l) (List.drop 0 l)))) false)])else(List.length l=List.length l∧AF=AF∧((AM l k):Int)=((List.length l):Int)∧BO 32 (List.length l+1)=true)∧(Q (.tuple ⟨[(.string ({ data:=#[] })),(.bool false),(.int .i64 0)]⟩) [some (.cells [(.bool true),(.slice (some ⟨13,0,(some 0)⟩) (List.length l+1) 18446744073709551616)] 0 false),none,some (.vec ([SK.str,SK.str]) (l++[(k,v)]) false)])))):=by kernel_rfl
theorem ZR (k:ByteArray) (Q:Value→List (Option AJ)→Prop):Gv XS eG BA [9] Q 500 (st BA 32 [p9,.string k] (BW ⟨.leaf,9⟩ Og))=(
 (((.bool false):Value)=(.bool false))∧(Q (.tuple ⟨[(.string ({ data:=#[] })),(.bool false)]⟩) [some (.cells [(.bool true),(.slice none 0 0)] 0 false)])):=by kernel_rfl
theorem Zo (l:List (EK.C Ab)) (k:ByteArray) (Q:Value→List (Option AJ)→Prop):Gv XS eG BA [9,10,13] Q 500 (st BA 32 [p9,.string k] (BW ⟨.leaf,9⟩ (Lb l)))=(
 (List.length l=List.length l∧AF=AF∧BE l∧List.length l < 4611686018427387904)∧(bif decide (((AM l k):Int) < Int.ofNat (List.length l))then(bif decide (0≤((AM l k):Int))&&Nat.blt (Int.toNat ((AM l k):Int)) (List.length l)then(bif Nat.blt (0+Int.toNat ((AM l k):Int)) (List.length l)then(bif ByteArray.toList (Prod.fst (List.getD l (0+Int.toNat ((AM l k):Int)) (EK.AQ Ab)))==ByteArray.toList k then(((.bool true):Value)=(.bool true))∧(((.bool (ByteArray.toList (Prod.fst (List.getD l (0+Int.toNat ((AM l k):Int)) (EK.AQ Ab)))==ByteArray.toList k)):Value)=(.bool true))∧(((.string k):Value)=(.string k))∧(bif Nat.blt (0+Int.toNat ((AM l k):Int)) (List.length l)then(((.string (Prod.fst (List.getD l (0+Int.toNat ((AM l k):Int)) (EK.AQ Ab)))):Value)=(.string (Prod.fst (List.getD l (0+Int.toNat ((AM l k):Int)) (EK.AQ Ab)))))∧(((.pointer (some ⟨10,0,(some (0+Int.toNat ((AM l k):Int)))⟩)):Value)=(.pointer (some ⟨10,0,(some (0+Int.toNat ((AM l k):Int)))⟩)))∧(bif decide (0≤((AM l k):Int))&&Nat.blt (Int.toNat ((AM l k):Int)) (List.length l)then(((.pointer (some ⟨10,0,(some (0+Int.toNat ((AM l k):Int)))⟩)):Value)=(.pointer (some ⟨10,0,(some (0+Int.toNat ((AM l k):Int)))⟩)))∧(((.int .i64 (((AM l k):Int))):Value)=(.int .i64 (((AM l k):Int))))∧(((.slice (some ⟨10,0,(some 0)⟩) (List.length l) 18446744073709551616):Value)=(.slice (some ⟨10,0,(some 0)⟩) (List.length l) 18446744073709551616))∧(bif decide (0≤((AM l k):Int))&&Nat.blt (Int.toNat ((AM l k):Int)) (List.length l)then(bif Nat.blt (0+Int.toNat ((AM l k):Int)) (List.length l)then(List.length l=List.length l∧AF=AF∧BE l∧List.length l < 4611686018427387904)∧(0+List.length l≤List.length l∧0≤((AM l k):Int)∧((AM l k):Int) < IntKind.wrap .i64 (((AM l k):Int)+1)∧IntKind.wrap .i64 (((AM l k):Int)+1)≤((List.length l):Int))∧(Q (.tuple ⟨[(.string (Prod.snd (List.getD l (0+Int.toNat ((AM l k):Int)) (EK.AQ Ab)))),(.bool true)]⟩) [some (.cells [(.bool true),(.slice (some ⟨13,0,(some 0)⟩) (List.length l - (Int.toNat (IntKind.wrap .i64 (((AM l k):Int)+1)) - Int.toNat ((AM l k):Int))) 18446744073709551616)] 0 false),none,some (.vec Ab (List.take (Int.toNat ((AM l k):Int)) (List.take (List.length l) (List.drop 0 l))++List.drop (Int.toNat (IntKind.wrap .i64 (((AM l k):Int)+1))) (List.take (List.length l) (List.drop 0 l))) false)])else False)else False)else False)else False)else(((.bool false):Value)=(.bool false))∧(((.bool (ByteArray.toList (Prod.fst (List.getD l (0+Int.toNat ((AM l k):Int)) (EK.AQ Ab)))==ByteArray.toList k)):Value)=(.bool false))∧(((.string k):Value)=(.string k))∧(bif Nat.blt (0+Int.toNat ((AM l k):Int)) (List.length l)then(((.string (Prod.fst (List.getD l (0+Int.toNat ((AM l k):Int)) (EK.AQ Ab)))):Value)=(.string (Prod.fst (List.getD l (0+Int.toNat ((AM l k):Int)) (EK.AQ Ab)))))∧(((.pointer (some ⟨10,0,(some (0+Int.toNat ((AM l k):Int)))⟩)):Value)=(.pointer (some ⟨10,0,(some (0+Int.toNat ((AM l k):Int)))⟩)))∧(bif decide (0≤((AM l k):Int))&&Nat.blt (Int.toNat ((AM l k):Int)) (List.length l)then(((.pointer (some ⟨10,0,(some (0+Int.toNat ((AM l k):Int)))⟩)):Value)=(.pointer (some ⟨10,0,(some (0+Int.toNat ((AM l k):Int)))⟩)))∧(((.int .i64 (((AM l k):Int))):Value)=(.int .i64 (((AM l k):Int))))∧(((.slice (some ⟨10,0,(some 0)⟩) (List.length l) 18446744073709551616):Value)=(.slice (some ⟨10,0,(some 0)⟩) (List.length l) 18446744073709551616))∧
 (Q (.tuple ⟨[(.string ({ data:=#[] })),(.bool false)]⟩) [some (.cells [(.bool true),(.slice (some ⟨10,0,(some 0)⟩) (List.length l) 18446744073709551616)] 0 false),some (.vec Ab l false),none])else False)else False))else False)else False)else(((.bool false):Value)=(.bool false))∧(Q (.tuple ⟨[(.string ({ data:=#[] })),(.bool false)]⟩) [some (.cells [(.bool true),(.slice (some ⟨10,0,(some 0)⟩) (List.length l) 18446744073709551616)] 0 false),some (.vec Ab l false),none]))):=by kernel_rfl
end Go.AD

set_option maxRecDepth 1000000
namespace Go.AD
open Go.Proofs
theorem OC {m b:Nat} {muts:List Bool} {Ja:List (Option AJ)} {v v':Value} {o o1:AJ} {Hf:AA} (holds:∀(j:Nat) (o:AJ),Ja[j]?≠some (some o)) (hb:9+m≤b) (hv:EG (Ci.F6 AL 9 m [b]) v=some v')
 (ho:BR (Ci.F6 AL 9 m [b]) o=some o1) (h:Hf.get b=some o1):Ci AL 9 m muts ⟨v,Ja,[o]⟩ v' Hf:=by
 refine⟨[b],by simp,fun c hc=>by simp at hc;omega,rfl,hv,fun j c p hj hp=>?_,fun j p _ _ hp=>absurd hp (holds j p)⟩
 cases j with
 | zero=>cases hj;cases hp;exact⟨o1,ho,h⟩
 | succ j=>cases j<;>cases hj
theorem P7:Da Tryz.prog AL BL (A3 AL 9 [true,false] HK):=by
 refine Bs Wg (by kernel_rfl) (n:=95) (by kernel_rfl) (by kernel_rfl) fun argsc objs x hx hro=>?_
 unfold HK at hx
 split at hx
 ·rename_i n c x0 l ro k v ro2
  simp only[GT.run]at hx
  split at hx
  ·rename_i hc
   cases hx
   obtain⟨rfl,rfl,rfl,hbig⟩:=hc
   have hr0:ro=false:=hro 0 _ rfl rfl
   subst hr0
   refine⟨by simp,?_⟩
   have h0:As XA 11 BL (fun w H=>w= .slice (some ⟨11,0,some 0⟩) (l.length+1) AF∧H.get 11=some (.vec Ab (l++[(k,v)]) false)) (st BL 95 [.slice (some ⟨9,0,some 0⟩) l.length AF,.int .i64 (l.length:Int),.slice (some ⟨10,0,none⟩) 1 1] (BW ⟨.leaf,9⟩ [.vec Ab l false,.cells [.string k,.string v] 2 true])):=by
    refine(B8.Gq (B6 I0 (ids:=[]) (Q:=fun w os=>w= .slice (some ⟨11,0,some 0⟩) (l.length+1) AF∧os=[some (.vec Ab (l++[(k,v)]) false)]) 300 _ ?_)).mono ?_
    ·rw[Zg]
     refine AE ?_ (AE ?_ (AE ?_ ⟨by unfold AF;rfl,?_⟩))
     ·simp
     ·simp
     ·simp[hbig]
     ·rw[List.drop_zero,List.take_of_length_le (Nat.le_refl _)];rfl
    ·rintro w H ⟨rfl,h⟩
     exact⟨rfl,by simpa [Af] using h⟩
   refine A4.mono (Q:=fun w H=>w= .slice (some ⟨11,0,some 0⟩) (l.length+1) AF∧H.get 11=some (.vec Ab (l++[(k,v)]) false)) h0.Ko ?_
   rintro w H ⟨rfl,h⟩
   refine OC (b:=11) (fun j o hj=>?_) (Nat.le_refl _) rfl rfl h
   cases j with
   | zero=>cases hj
   | succ j=>cases j<;>cases hj
  ·cases hx
 ·rename_i k v ro
  cases hx
  have hr0:ro=false:=hro 0 _ rfl rfl
  subst hr0
  refine⟨by simp,?_⟩
  have h0:As XA 10 BL (fun w H=>w= .slice (some ⟨10,0,none⟩) 1 (AF+1)∧H.get 10=some (.cells [.string k,.string v] 2 false)) (st BL 95 [.slice none 0 0,.int .i64 0,.slice (some ⟨9,0,none⟩) 1 1] (BW ⟨.leaf,9⟩ [.cells [.string k,.string v] 2 false])):=by
   refine(B8.Gq (B6 I0 (ids:=[10]) (Q:=fun w os=>w= .slice (some ⟨10,0,none⟩) 1 (AF+1)∧os=[some (.cells [.string k,.string v] 2 false),some (.cells [.string k,.string v] 2 false)]) 300 _ ?_)).mono ?_
   ·rw[Z0]
    exact⟨by unfold AF;rfl,rfl⟩
   ·rintro w H ⟨rfl,h⟩
    refine⟨rfl,?_⟩
    have h:[H.get 10,H.get 10]=_:=h
    simpa using h
  refine A4.row (k:=Ab) (Q:=fun w H=>w= .slice (some ⟨10,0,none⟩) 1 (AF+1)∧H.get 10=some (.cells [.string k,.string v] 2 false)) h0.Ko ?_
  rintro w H ⟨rfl,h⟩
  refine⟨10,1,[(k,v)],rfl,h,?_⟩
  refine OC (b:=10) (fun j o hj=>?_) (Nat.le_refl _) rfl rfl (by rw[AA.AN,if_pos rfl])
  cases j<;>cases hj
 ·cases hx
end Go.AD

set_option maxRecDepth 1000000
namespace Go.AD
open Go.Proofs
theorem XP:Da Tryz.prog AL BL (Dr 2 32):=QA ⟨95,_,show entry Tryz.prog 69=some (95,Bb Tryz.prog 69 []) by kernel_rfl⟩ (by decide) (by decide) Pq RS
theorem Vo:Da Tryz.prog AL BL Uo:=by
 refine⟨P7.1,fun base W0 μ H W args args' v H' a b c d hF=>?_⟩
 unfold Uo at hF
 split at hF
 ·rename_i r hr
  cases hF
  exact XP.2 base W0 μ H W args args' v H' a b c d hr
 ·exact P7.2 base W0 μ H W args args' v H' a b c d hF
theorem Ul {a:Option Addr} {n c:Nat} {x:Int} {s:Value} {H:AA} (h:¬x < (n:Int)):Dr 2 32 [.slice a n c,.int .i64 x,s] H=none:=by
 unfold Dr
 split
 ·rename_i heq
  cases heq
  split
  ·split
   ·rename_i hc
    exact absurd hc.2.2.2.2.2.2.2.2.1 h
   ·rfl
  ·rfl
 ·rfl
theorem ae {X:Ctx} {f:FuncId} (hX:X.FL f=some Uo) {args:List Value} {H:AA} {K:Value→AA→Prop} (h:bX args H K):∃v H',Bp X f args .normal H=some (v,H')∧K v H':=by
 unfold bX at h
 split at h
 ·rename_i a n c x s
  by_cases hx:x < (n:Int)
  ·rw[decide_eq_true hx]at h
   have h:K3 2 32 [.slice a n c,.int .i64 x,s] H K:=h
   let X2:Ctx:=⟨X.P,X.laid,fun _=>some (Dr 2 32),X.Bh⟩
   obtain⟨v,H',h1,h2⟩:=RJ (X:=X2) (f:=f) (sz:=2) (B:=32) rfl h
   refine⟨v,H',?_,h2⟩
   unfold Bp at h1 ⊢
   simp only[hX]
   have h1:Dr 2 32 [.slice a n c,.int .i64 x,s] H=some (v,H'):=h1
   unfold Uo
   rw[h1]
  ·rw[decide_eq_false hx]at h
   have h:B0 AL 9 [true,false] HK [.slice a n c,.int .i64 x,s] H K:=h
   let X2:Ctx:=⟨X.P,X.laid,fun _=>some (A3 AL 9 [true,false] HK),X.Bh⟩
   obtain⟨v,H',h1,h2⟩:=Ak (X:=X2) (f:=f) rfl h
   refine⟨v,H',?_,h2⟩
   unfold Bp at h1 ⊢
   simp only[hX]
   have h1:A3 AL 9 [true,false] HK [.slice a n c,.int .i64 x,s] H=some (v,H'):=h1
   unfold Uo
   rw[Ul hx]
   exact h1
 ·cases h
theorem eW:Aw Tryz.prog AL fp:=Aw.cons Vo (Aw.cons (WS _) Wg)
theorem O8:FD XS eG:=An (fun _ _ _ h=>ae (by kernel_rfl) h) (An (fun _ _ _ h=>Rs (by kernel_rfl) h) (An (fun _ _ _ h=>Ak (by kernel_rfl) h) (Av _)))
end Go.AD

set_option maxRecDepth 1000000
namespace Go.AD
open Go.Proofs
noncomputable def EY (l:List (EK.C Ab)) (k v:ByteArray):List (EK.C Ab):=
 match DA l k with
 | some _=>l.set (AM l k) ((l.getD (AM l k) (EK.AQ Ab)).1,v)
 | none=>l.take (AM l k)++([(k,v)]++l.drop (AM l k))
noncomputable def Et (l:List (EK.C Ab)) (k:ByteArray):List (EK.C Ab):=
 match DA l k with
 | some _=>l.take (AM l k)++l.drop (AM l k+1)
 | none=>l
def Tj (o:Option ByteArray):Value:= .tuple ⟨[.string (o.getD { data:=#[] }),.bool o.isSome,.int .i64 0]⟩
theorem KE (o:Option ByteArray):Ch 6 (Tj o)=true∧Af 4 (Tj o)=[]:=by
 cases o<;>exact⟨rfl,rfl⟩
theorem QV {l:List (EK.C Ab)} {k:ByteArray} (h:AM l k < l.length) (hc:((l.getD (0+Int.toNat (AM l k:Int)) (EK.AQ Ab)).1.toList==k.toList)=true):DA l k=some (l.getD (AM l k) (EK.AQ Ab)).2:=by
 unfold DA
 rw[Nat.zero_add,Int.toNat_natCast]at hc
 rw[if_pos ⟨h,hc⟩]
theorem Pp {l:List (EK.C Ab)} {k:ByteArray} (hc:((l.getD (0+Int.toNat (AM l k:Int)) (EK.AQ Ab)).1.toList==k.toList)=false):DA l k=none:=by
 unfold DA
 rw[Nat.zero_add,Int.toNat_natCast]at hc
 rw[if_neg (by rintro⟨_,h2⟩;rw[hc]at h2;cases h2)]
theorem K4 {l:List (EK.C Ab)} {k:ByteArray} (h:¬AM l k < l.length):DA l k=none:=by
 unfold DA
 rw[if_neg (by rintro⟨h2,_⟩;exact h h2)]
noncomputable def J4:Aj:=
 ⟨fun l rest=>BE l∧l.length < 1000000∧∃k v,rest=[.string k,.string v],fun l rest=>match rest with
  | [.string k,.string _]=>Tj (DA l k)
  | _=>A5,fun l rest=>match rest with
  | [.string k,.string v]=>EY l k v
  | _=>l⟩
theorem NF {n:Nat} (h:n < 1000000):BO 32 (n+1)=true:=by
 unfold BO
 rw[Nat.ble_eq_true_of_le (by omega),Nat.ble_eq_true_of_le (by omega)];rfl
noncomputable def EF (m n:Nat):AJ:= .cells [.bool true,.slice (some ⟨m,0,some 0⟩) n AF] 0 false
theorem ZD:Da Tryz.prog AL Bq (A3 AL 9 [true] J4.G):=by
 refine K5 eW (by kernel_rfl) (n:=61) ?_
 rintro l rest ⟨hs,hn,k,v,rfl⟩
 refine⟨by simp,(KE _).1,(KE _).2,?_,?_⟩
 ·rintro rfl
  have hat:DA [] k=none:=K4 (by simp)
  have hv:J4.v [] [.string k,.string v]= .tuple ⟨[.string { data:=#[] },.bool false,.int .i64 0]⟩:=by
   show Tj (DA [] k)=_
   rw[hat];rfl
  have hnx:J4.nx [] [.string k,.string v]=[(k,v)]:=by
   show EY [] k v=_
   unfold EY
   rw[hat];simp
  rw[hv,hnx]
  refine(B8.Gq (B6 O8 (ids:=[9,12]) (Q:=fun w os=>w= .tuple ⟨[.string { data:=#[] },.bool false,.int .i64 0]⟩∧os=[some (EF 12 1),some (.vec Ab [(k,v)] false)]) 500 _ (by rw[YS];exact⟨rfl,rfl,by unfold EF AF;rfl⟩))).mono ?_
  rintro w H ⟨rfl,h⟩
  have h:[H.get 9,H.get 12]=_:=h
  simp only[List.cons.injEq,and_true]at h
  exact⟨rfl,.inr ⟨12,by decide,h.1,h.2⟩⟩
 ·have hlen:(EY l k v).length=(match DA l k with | some _=>l.length | none=>l.length+1):=by
   have:=LQ l k
   unfold EY
   cases DA l k with
   | some _=>simp
   | none=>simp only[List.length_append,List.length_take,List.length_drop,List.length_cons,List.length_nil];omega
  have hE:As XS 10 Bq (fun w H=>w=Tj (DA l k)∧((∃o3,([9,10,13]++Af 4 w).map H.get=[some (EF 10 (EY l k v).length),some (.vec Ab (EY l k v) false),o3])∨
   ([9,10,13]++Af 4 w).map H.get=[some (EF 13 (EY l k v).length),none,some (.vec Ab (EY l k v) false)])) (st Bq 61 [p9,.string k,.string v] (BW ⟨.leaf,9⟩ (Lb l))):=by
   refine B8.Gq (B6 O8 (ids:=[9,10,13]) (Q:=fun w os=>w=Tj (DA l k)∧((∃o3,os=[some (EF 10 (EY l k v).length),some (.vec Ab (EY l k v) false),o3])∨os=[some (EF 13 (EY l k v).length),none,some (.vec Ab (EY l k v) false)])) 500 _ ?_)
   rw[aZ]
   refine⟨⟨rfl,rfl,hs,by omega⟩,AT (fun h=>?_) (fun h=>?_)⟩
   ·have hlt:AM l k < l.length:=by
     have:(AM l k:Int) < (l.length:Int):=h
     omega
    refine AE (ca hlt) (AE (cb hlt) (Az (fun hc=>?_) (fun hc=>?_)))
    ·have e:=QV hlt hc
     have e2:EY l k v=l.set (AM l k) ((l.getD (AM l k) (EK.AQ Ab)).1,v):=by unfold EY;rw[e]
     rw[e]at hlen
     refine⟨rfl,by rw[hc],rfl,AE (cb hlt) ⟨rfl,rfl,AE (ca hlt) ⟨rfl,rfl,rfl,AE (ca hlt) (AE (cb hlt) ⟨rfl,rfl,rfl,rfl,rfl,rfl,AE (ca hlt) (AE (cb hlt) ⟨?_,.inl ⟨none,?_⟩⟩)⟩)⟩⟩⟩
     ·rw[e,Nat.zero_add,Int.toNat_natCast];rfl
     ·rw[hlen,e2,Nat.zero_add,Int.toNat_natCast]
      unfold EF AF;rfl
    ·have e:=Pp hc
     have e2:EY l k v=l.take (AM l k)++([(k,v)]++l.drop (AM l k)):=by unfold EY;rw[e]
     rw[e]at hlen
     refine⟨rfl,by rw[hc],rfl,AE (cb hlt) ⟨rfl,rfl,AE (ca hlt) ⟨rfl,rfl,rfl,AT (fun h2=>?_) (fun h2=>absurd h h2)⟩⟩⟩
     refine⟨⟨by omega,by omega,h2,NF hn⟩,by rw[e];rfl,.inr ?_⟩
     rw[hlen,e2,List.drop_zero,List.take_of_length_le (Nat.le_refl _),Int.toNat_natCast]
     unfold EF AF;rfl
   ·have hge:¬AM l k < l.length:=fun h2=>h (by show(AM l k:Int) < (l.length:Int);omega)
    have e:=K4 (k:=k) hge
    have hr:AM l k=l.length:=by have:=LQ l k;omega
    have e2:EY l k v=l++[(k,v)]:=by
     unfold EY
     rw[e]
     simp only[hr,List.take_length,List.drop_length,List.append_nil]
    rw[e]at hlen
    refine⟨rfl,AT (fun h2=>absurd h2 h) (fun _=>⟨⟨rfl,rfl,by rw[hr],NF hn⟩,by rw[e];rfl,.inr ?_⟩)⟩
    rw[hlen,e2]
    unfold EF AF;rfl
  refine hE.mono ?_
  rintro w H ⟨rfl,h⟩
  rw[(KE _).2]at h
  refine⟨rfl,.inr ?_⟩
  rcases h with⟨o3,h⟩ | h
  ·simp only[List.append_nil,List.map_cons,List.map_nil,List.cons.injEq,and_true]at h
   exact⟨10,by decide,h.1,h.2.1⟩
  ·simp only[List.append_nil,List.map_cons,List.map_nil,List.cons.injEq,and_true]at h
   exact⟨13,by decide,h.1,h.2.2⟩
end Go.AD

set_option maxRecDepth 1000000
namespace Go.AD
open Go.Proofs
noncomputable def KF:Aj:=
 ⟨fun l rest=>BE l∧l.length < 1000000∧∃k,rest=[.string k],fun l rest=>match rest with
  | [.string k]=>M5 (DA l k)
  | _=>A5,fun l rest=>match rest with
  | [.string k]=>Et l k
  | _=>l⟩
theorem Ze:Da Tryz.prog AL BA (A3 AL 9 [true] KF.G):=by
 refine K5 eW (by kernel_rfl) (n:=32) ?_
 rintro l rest ⟨hs,hn,k,rfl⟩
 refine⟨by simp,(FZ _).1,(FZ _).2,?_,?_⟩
 ·rintro rfl
  have hat:DA [] k=none:=K4 (by simp)
  have hv:KF.v [] [.string k]= .tuple ⟨[.string { data:=#[] },.bool false]⟩:=by
   show M5 (DA [] k)=_
   rw[hat];rfl
  have hnx:KF.nx [] [.string k]=[]:=by
   show Et [] k=_
   unfold Et
   rw[hat]
  rw[hv,hnx]
  have hE:As XS 10 BA (fun w H=>w= .tuple ⟨[.string { data:=#[] },.bool false]⟩∧([9]++Af 4 w).map H.get=[some (.cells [.bool true,.slice none 0 0] 0 false)]) (st BA 32 [p9,.string k] (BW ⟨.leaf,9⟩ Og)):=
   B8.Gq (B6 O8 (ids:=[9]) (Q:=fun w os=>w= .tuple ⟨[.string { data:=#[] },.bool false]⟩∧os=[some (.cells [.bool true,.slice none 0 0] 0 false)]) 500 _ (by rw[ZR];exact⟨rfl,rfl,rfl⟩))
  refine hE.mono ?_
  rintro w H ⟨rfl,h⟩
  exact⟨rfl,.inl ⟨rfl,dC rfl h⟩⟩
 ·have hE:As XS 10 BA (fun w H=>w=M5 (DA l k)∧((∃o3,([9,10,13]++Af 4 w).map H.get=[some (EF 10 (Et l k).length),some (.vec Ab (Et l k) false),o3])∨
   ([9,10,13]++Af 4 w).map H.get=[some (EF 13 (Et l k).length),none,some (.vec Ab (Et l k) false)])) (st BA 32 [p9,.string k] (BW ⟨.leaf,9⟩ (Lb l))):=by
   refine B8.Gq (B6 O8 (ids:=[9,10,13]) (Q:=fun w os=>w=M5 (DA l k)∧((∃o3,os=[some (EF 10 (Et l k).length),some (.vec Ab (Et l k) false),o3])∨os=[some (EF 13 (Et l k).length),none,some (.vec Ab (Et l k) false)])) 500 _ ?_)
   rw[Zo]
   refine⟨⟨rfl,rfl,hs,by omega⟩,AT (fun h=>?_) (fun h=>?_)⟩
   ·have hlt:AM l k < l.length:=by
     have:(AM l k:Int) < (l.length:Int):=h
     omega
    refine AE (ca hlt) (AE (cb hlt) (Az (fun hc=>?_) (fun hc=>?_)))
    ·have e:=QV hlt hc
     have e2:Et l k=l.take (AM l k)++l.drop (AM l k+1):=by unfold Et;rw[e]
     have hw:IntKind.wrap .i64 ((AM l k:Int)+1)=((AM l k+1:Nat):Int):=by rw[wrap64 (by omega) (by omega)];rfl
     have hlen:(Et l k).length=l.length - (AM l k+1 - AM l k):=by
      rw[e2];simp only[List.length_append,List.length_take,List.length_drop];omega
     refine⟨rfl,by rw[hc],rfl,AE (cb hlt) ⟨rfl,rfl,AE (ca hlt) ⟨rfl,rfl,rfl,AE (ca hlt) (AE (cb hlt) ⟨⟨rfl,rfl,hs,by omega⟩,⟨by omega,by omega,?_,?_⟩,?_,.inr ?_⟩)⟩⟩⟩
     ·rw[hw];omega
     ·rw[hw];omega
     ·rw[e,Nat.zero_add,Int.toNat_natCast];rfl
     ·rw[hlen,e2,hw,List.drop_zero,List.take_of_length_le (Nat.le_refl _),Int.toNat_natCast,Int.toNat_natCast]
      unfold EF AF;rfl
    ·have e:=Pp hc
     have e2:Et l k=l:=by unfold Et;rw[e]
     refine⟨rfl,by rw[hc],rfl,AE (cb hlt) ⟨rfl,rfl,AE (ca hlt) ⟨rfl,rfl,rfl,by rw[e];rfl,.inl ⟨none,?_⟩⟩⟩⟩
     rw[e2]
     unfold EF AF;rfl
   ·have e:=K4 (l:=l) (k:=k) (fun h2=>h (by show(AM l k:Int) < (l.length:Int);omega))
    have e2:Et l k=l:=by unfold Et;rw[e]
    refine⟨rfl,by rw[e];rfl,.inl ⟨none,?_⟩⟩
    rw[e2]
    unfold EF AF;rfl
  refine hE.mono ?_
  rintro w H ⟨rfl,h⟩
  rw[(FZ _).2]at h
  refine⟨rfl,.inr ?_⟩
  rcases h with⟨o3,h⟩ | h
  ·simp only[List.append_nil,List.map_cons,List.map_nil,List.cons.injEq,and_true]at h
   exact⟨10,by decide,h.1,h.2.1⟩
  ·simp only[List.append_nil,List.map_cons,List.map_nil,List.cons.injEq,and_true]at h
   exact⟨13,by decide,h.1,h.2.2⟩
end Go.AD

set_option maxRecDepth 1000000
namespace Go.AD
open Go.Proofs
theorem cx (Q:Value→List (Option AJ)→Prop):Gv XA aX C8 [9] Q 100 (st C8 3 [] ⟨.leaf,9⟩)=(
 (Q (.pointer (some ⟨9,0,none⟩)) [some (.cells [(.bool true),(.slice none 0 0)] 0 false),some (.cells [(.bool true),(.slice none 0 0)] 0 false)])):=by kernel_rfl
end Go.AD

set_option maxRecDepth 1000000
namespace Go.AD
open Go.Proofs
noncomputable def TP (args:List Value) (objs:List AJ):GT:=
 match args,objs with
 | [],[]=> .ret ⟨.pointer (some ⟨9,0,none⟩),[],[.abs (.pack (.table [])) false]⟩
 | _,_=> .fail
theorem Wf:Da Tryz.prog AL C8 (A3 AL 9 [] TP):=by
 refine Bs Wg (by kernel_rfl) (n:=3) (by kernel_rfl) (by kernel_rfl) fun argsc objs x hx hro=>?_
 unfold TP at hx
 split at hx
 ·cases hx
  refine⟨by simp,?_⟩
  have h0:As XA 9 C8 (fun w H=>w= .pointer (some ⟨9,0,none⟩)∧H.get 9=some (.cells [.bool true,.slice none 0 0] 0 false)) (st C8 3 [] ⟨.leaf,9⟩):=by
   refine(B8.Gq (B6 I0 (ids:=[9]) (Q:=fun w os=>w= .pointer (some ⟨9,0,none⟩)∧os=[some (.cells [.bool true,.slice none 0 0] 0 false),some (.cells [.bool true,.slice none 0 0] 0 false)]) 100 _ (by rw[cx];exact⟨rfl,rfl⟩))).mono ?_
   rintro w H ⟨rfl,h⟩
   refine⟨rfl,?_⟩
   have h:[H.get 9,H.get 9]=_:=h
   simpa using h
  refine A4.shut (Q:=fun w H=>w= .pointer (some ⟨9,0,none⟩)∧H.get 9=some (.cells [.bool true,.slice none 0 0] 0 false)) h0.Ko ?_
  rintro w H ⟨rfl,h⟩
  refine⟨_,PZ (s:= .table []) (b:=9) (o:= .cells [.bool true,.slice none 0 0] 0 false) .EM (.inl (by simp[Af])) h rfl rfl rfl (.refl _),?_⟩
  refine OC (b:=9) (fun j o hj=>by cases hj) (Nat.le_refl _) rfl rfl ?_
  exact(CY (by simp)).root 9 rfl
 ·cases hx
end Go.AD

namespace Go.AD
noncomputable def TQ (t:Tr Value) (l:List Nat):Tr Value:=Ly id t l
theorem NL {μ:Ah} {t:Tr Value} {n:Nat} {a:Array Value} (h:ES μ t n a) (l:List Nat):ES μ (TQ t l) n a:=by
 refine⟨h.1,fun i=>?_⟩
 unfold TQ
 rcases Iy id t l i with e | e
 ·rw[e];exact .A5 _
 ·rw[e];exact h.2 i
def Ck:List CH→Bool
 | []=>true
 | .DW _ _::_=>false
 | _::r=>Ck r
def WY:List (FuncId × List Nat)→FuncId→Option (List Nat)
 | [],_=>none
 | p::r,f=>bif Nat.beq p.1 f then some p.2 else WY r f
noncomputable def J8 (ks:List (FuncId × List Nat)):AU→AU
 | ⟨fn,t,n,todo,ds,r,kd,rd⟩=>match WY ks fn with
  | some l=>⟨fn,TQ t l,n,todo,ds,r,kd,rd⟩
  | none=>⟨fn,t,n,todo,ds,r,kd,rd⟩
noncomputable def MU (ks:List (FuncId × List Nat)):List Nat→AA→AA
 | [],H=>H
 | b::r,H=>match (MU ks r H).get b with
  | some (.loop ⟨st,pd,fn,t,n,ps,asg,bd,df⟩)=>match WY ks fn with
   | some l=>(MU ks r H).put b (.loop ⟨st,pd,fn,TQ t l,n,ps,asg,bd,df⟩)
   | none=>MU ks r H
  | _=>MU ks r H
noncomputable def Gb (ks:List (FuncId × List Nat)) (bs:List Nat) (c:Ay):Ay:=⟨c.fr,c.cs.map (J8 ks),MU ks bs c.H⟩
section
variable {X:Ctx} {base:Env} {W0:World} {μ:Ah} {W:World} {N:Nat}
theorem NN {ks:List (FuncId × List Nat)}:∀(bs:List Nat) {H:AA},AP base W0 μ H W→AP base W0 μ (MU ks bs H) W
 | [],H,h=>h
 | b::r,H,h=>by
  have h1:=NN r h (ks:=ks)
  unfold MU
  split
  ·rename_i st pd fn t n ps asg bd df hb
   split
   ·refine h1.swap hb (fun T o' _ ho=>?_) rfl rfl rfl (fun _ _ hv=>hv)
    cases ho with
    | loop _ a R ht hd=>exact .loop T ⟨st,pd,fn,_,n,ps,asg,bd,df⟩ a R (NL ht _) hd
   ·exact h1
  ·exact h1
theorem NQ {H H':AA} {g:List Nat} {f:AU} {f':Frame} (h:KB X μ H g f f') (hd:Ck f.todo=true):KB X μ H' [] f f':=by
 cases h with
 | plain fn t n tm todo todo' ds ds' r kd rd rd' ht hi hdd hr=>exact .plain _ _ _ _ _ _ _ _ _ _ _ _ ht hi hdd hr
 | drawn=>cases hd
theorem Zx {ks:List (FuncId × List Nat)} {H H':AA} {g:List Nat} {f:AU} {f':Frame} (h:FH X μ H g f f') (hd:Ck f.todo=true):FH X μ H' [] (J8 ks f) f':=by
 cases h with
 | plain fn t n tm todo todo' ds ds' r kd rd rd' ht hi hdd hr=>
  unfold J8
  simp only
  split
  ·exact .plain _ _ _ _ _ _ _ _ _ _ _ _ (NL ht _) hi hdd hr
  ·exact .plain _ _ _ _ _ _ _ _ _ _ _ _ ht hi hdd hr
 | Jg=>cases hd
theorem LW {ks:List (FuncId × List Nat)} {H H':AA} {g:List Nat} {l:List AU} {l':List Frame} (h:Cu X μ H g l l') (hd:(l.all fun f=>Ck f.todo)=true):Cu X μ H' [] (l.map (J8 ks)) l':=by
 induction h with
 | nil=>exact .nil
 | cons hf _ ih=>
  simp only[List.all_cons,Bool.and_eq_true]at hd
  exact .cons (g:=[]) (gs:=[]) (Zx hf hd.1) (ih hd.2)
theorem QD {ks:List (FuncId × List Nat)} {bs:List Nat} {c:Ay} {Φ:Ay→Prop} (h1:Ck c.fr.todo=true) (h2:(c.cs.all fun f=>Ck f.todo)=true) (hr:A6 X N (Gb ks bs c) Φ):A6 X N c Φ:=by
 intro base W0 hb hok hplan cs0 μ fr cs W hm
 refine hr base W0 hb hok hplan cs0 μ fr cs W ?_
 obtain⟨hH,hlaid,g,gs,hfr,hcs,hnd⟩:=hm
 exact⟨NN bs hH,hlaid,[],[],NQ hfr h1,LW hcs h2,by simp⟩
end
noncomputable def Stop.Te (X:Ctx) (ks:List (FuncId × List Nat)) (S:Stop) (c:Ay):Option Ay:=
 match DQ X c with
 | some c1=>bif Ck c1.fr.todo&&(c1.cs.all fun f=>Ck f.todo)then
  (bif Nat.ble S.N (Gb ks (S.ids c1) c1).H.next&&(S.ids (Gb ks (S.ids c1) c1)).all (fun b=>Nat.blt b (Gb ks (S.ids c1) c1).H.next)then
   fJ S.N (S.Ja++S.ids (Gb ks (S.ids c1) c1)) (S.ids (Gb ks (S.ids c1) c1)) S.live (Gb ks (S.ids c1) c1)else none)else none
 | none=>none
noncomputable def aP (X:Ctx) (pf:Pf) (f:FuncId) (ids:List Nat) (S:Stop) (ks:List (FuncId × List Nat)) (Q:Value→List (Option AJ)→Prop) (R:Ay→Prop) (n:Nat):Ay→Prop:=
 Nat.rec (motive:=fun _=>Ay→Prop) (fun _=>False) (fun _ ih c=>match EX X f c with
  | some (v,H)=>Q v ((ids++Af 4 v).map H.get)
  | none=>bif S.here c then(match S.Te X ks c with
   | some c2=>R c2
   | none=>False)
   else Gi X pf c ih) n
theorem GD {X:Ctx} {pf:Pf} (hpf:FD X pf) {f:FuncId} {ids:List Nat} {S:Stop} {ks:List (FuncId × List Nat)} (hl:(X.laid.all fun p=>Nat.blt p.1 S.N)=true) {Q:Value→List (Option AJ)→Prop} {R:Ay→Prop} {Q':Value→AA→Prop}
 (hQ:∀v H,Q v ((ids++Af 4 v).map H.get)→Q' v H) (hR:∀c,R c→As X S.N f Q' c):∀(n:Nat) (c:Ay),aP X pf f ids S ks Q R n c→As X S.N f Q' c:=by
 intro n
 induction n with
 | zero=>intro c h;cases h
 | succ n ih=>
  intro c h
  have h:(match EX X f c with
   | some (v,H)=>Q v ((ids++Af 4 v).map H.get)
   | none=>bif S.here c then(match S.Te X ks c with
    | some c2=>R c2
    | none=>False)
    else Gi X pf c (aP X pf f ids S ks Q R n)):=h
  split at h
  ·rename_i v H e;exact A6.here ⟨v,H,e,hQ v H h⟩
  ·cases hs:S.here c
   ·simp only[hs,cond_false]at h
    exact A6.bind (Reach.Gq (Hl hpf h)) fun c' hc=>ih c' hc
   ·simp only[hs,cond_true]at h
    split at h
    ·rename_i c2 hc
     unfold Stop.Te at hc
     split at hc
     ·rename_i c1 h1
      cases hd:(Ck c1.fr.todo&&(c1.cs.all fun f=>Ck f.todo))
      ·simp only[hd,cond_false]at hc;cases hc
      ·simp only[hd,cond_true]at hc
       simp only[Bool.and_eq_true]at hd
       cases hb:(Nat.ble S.N (Gb ks (S.ids c1) c1).H.next&&(S.ids (Gb ks (S.ids c1) c1)).all (fun b=>Nat.blt b (Gb ks (S.ids c1) c1).H.next))
       ·simp only[hb,cond_false]at hc;cases hc
       ·simp only[hb,cond_true]at hc
        simp only[Bool.and_eq_true]at hb
        have hr:=O5 (X:=X) hl (Nat.le_of_ble_eq_true hb.1) hb.2 hc (hR c2 h)
        exact A6.bind (Reach.Gq ((ML.step h1).reach (Φ:=fun c'=>c'=c1) rfl)) fun c' e=>e ▸ QD hd.1 hd.2 hr
     ·cases hc
    ·cases h
end Go.AD

set_option maxRecDepth 1000000
namespace Go.AD
open Go.Proofs
noncomputable def JH (b:Nat):Value:= .pointer (some ⟨b,0,none⟩)
noncomputable def fP (l:List (EK.C Ab)) (i:Int) (x:Value) (H:AA→AA):Ay:=
 ⟨⟨Bj,Ib [(2,.func (.yield 12) ⟨[]⟩ ⟨[]⟩),(11,.slice (some ⟨10,0,some 0⟩) l.length AF),(12,.int .i64 l.length),(13,.int .i64 i)],25,[.code (Bb Tryz.prog Bj [1,0,0]),.inLoop (Bb Tryz.prog Bj [1,0,0]),.inBlock 0],[],false,.normal,none⟩,
  [⟨CK,Ib [],6,[KU (Bb Tryz.prog CK []) 2],[],false,.normal,none⟩,
   ⟨AX,Ib [(3,JH 13)],34,[.inRangeFunc 12,.inBlock 0,.code (Bb Tryz.prog AX [1,1,1,1])],[⟨.collected 11,⟨[]⟩⟩],false,.normal,none⟩],
  H ((((((BW ⟨.leaf,9⟩ [.cells [.bool true,.slice (some ⟨10,0,some 0⟩) l.length AF] 0 false]).alloc (.vec Ab l false)).alloc (.deferred (some []))).alloc (.loop ⟨.ready,none,AX,Ib [(3,JH 13)],34,#[19,20],Bb Tryz.prog AX [1,1,1,0,1,0,0],Bb Tryz.prog AX [1,1,1,0,1,0,1],11⟩)).alloc (.cells [JH 14] 0 false)).alloc (.cells [.bool true,x] 0 false))⟩
noncomputable def fY (l:List (EK.C Ab)):Ay:=fP l 0 (.slice none 0 0) id
noncomputable def bM (l:List (EK.C Ab)) (i:Int) (k v:ByteArray):Ay:=fP l i (.slice (some ⟨15,0,none⟩) 1 18446744073709551617) fun H=>H.alloc (.cells [.string k,.string v] 2 false)
noncomputable def dk (l:List (EK.C Ab)) (i:Int) (n:Nat) (m:List (EK.C Ab)):Ay:=fP l i (.slice (some ⟨15,0,some 0⟩) n AF) fun H=>H.alloc (.vec Ab m false)
def cj:Stop:=⟨Bj,2,2,10,[9],[2,11,12,13]⟩
def dJ:List (FuncId × List Nat):=[(CK,[]),(AX,[3])]
theorem cT (l:List (EK.C Ab)) (Q:Value→List (Option AJ)→Prop) (R:Ay→Prop):aP X0 Cv AX [9,10] cj dJ Q R 400 (st AX 34 [p9] (BW ⟨.leaf,9⟩ (Lb l)))=(
 (bif decide (0≤Int.ofNat (List.length l))&&Nat.ble (Int.toNat (Int.ofNat (List.length l))) (List.length l)&&decide (0≤0)&&Nat.ble 0 (Int.toNat (Int.ofNat (List.length l)))then(R (fY l))else False)):=by kernel_rfl
theorem cK (l:List (EK.C Ab)) (Q:Value→List (Option AJ)→Prop) (R:Ay→Prop):aP X0 Cv AX [9,10,14] cj dJ Q R 400 (fY l)=(
 (bif decide (0 < ((List.length l):Int))then(bif decide (0≤0)&&Nat.blt 0 (List.length l)then(bif Nat.blt 0 (List.length l)then(((.pointer (some ⟨14,0,none⟩)):Value)=(.pointer (some ⟨14,0,none⟩)))∧(R (bM l 1 (Prod.fst (List.getD l 0 (EK.AQ Ab))) (Prod.snd (List.getD l 0 (EK.AQ Ab)))))else False)else False)else(Q (.pointer (some ⟨14,0,none⟩)) [some (.cells [(.bool true),(.slice (some ⟨10,0,(some 0)⟩) (List.length l) 18446744073709551616)] 0 false),some (.vec Ab l false),some (.cells [(.bool true),(.slice none 0 0)] 0 false),some (.cells [(.bool true),(.slice none 0 0)] 0 false)]))):=by kernel_rfl
theorem VY (l:List (EK.C Ab)) (i:Int) (n:Nat) (m:List (EK.C Ab)) (Q:Value→List (Option AJ)→Prop) (R:Ay→Prop):aP X0 Cv AX [9,10,14,15] cj dJ Q R 400 (dk l i n m)=(
 (bif decide (i < ((List.length l):Int))then(bif decide (0≤i)&&Nat.blt (Int.toNat i) (List.length l)then(bif Nat.blt (0+Int.toNat i) (List.length l)then(bif true&&Nat.ble (0+n) (List.length m)&&BO 32 (n+1)then(((.pointer (some ⟨14,0,none⟩)):Value)=(.pointer (some ⟨14,0,none⟩)))∧(R (dk l (IntKind.wrap .i64 (i+1)) (n+1) (List.take n (List.drop 0 m)++[(Prod.fst (List.getD l (0+Int.toNat i) (EK.AQ Ab)),Prod.snd (List.getD l (0+Int.toNat i) (EK.AQ Ab)))])))else False)else False)else False)else(Q (.pointer (some ⟨14,0,none⟩)) [some (.cells [(.bool true),(.slice (some ⟨10,0,(some 0)⟩) (List.length l) 18446744073709551616)] 0 false),some (.vec Ab l false),some (.cells [(.bool true),(.slice (some ⟨15,0,(some 0)⟩) n 18446744073709551616)] 0 false),some (.vec Ab m false),some (.cells [(.bool true),(.slice (some ⟨15,0,(some 0)⟩) n 18446744073709551616)] 0 false)]))):=by kernel_rfl
theorem dR (Q:Value→List (Option AJ)→Prop):Gv X0 Cv AX [9] Q 400 (st AX 34 [p9] (BW ⟨.leaf,9⟩ Og))=(
 (Q (.pointer (some ⟨10,0,none⟩)) [some (.cells [(.bool true),(.slice none 0 0)] 0 false),some (.cells [(.bool true),(.slice none 0 0)] 0 false)])):=by kernel_rfl
end Go.AD

namespace Go.AD
theorem MO {H:AA}:∀(todo:List Nat) (f:Nat) (seen:List Nat),todo.length≤f→(∀n∈todo,∃p,H.get n=some p∧Em p=[])→∀x,x∈todo→x∈Ax H 0 f todo seen
 | [],_,_,_,_,x,hx=>by cases hx
 | n::r,0,_,hf,_,_,_=>by simp at hf
 | n::r,f+1,seen,hf,hp,x,hx=>by
  obtain⟨p,hg,hr⟩:=hp n (by simp)
  have ih:=fun seen'=>MO r f seen' (by simpa using hf) (fun m hm=>hp m (by simp[hm]))
  rw[Ax]
  cases hc:(Nat.blt n 0||seen.any (Nat.beq n))
  ·simp only[cond_false,hg,hr,List.nil_append]
   rcases List.mem_cons.1 hx with rfl | hx
   ·exact B2 H 0 _ _ _ x (by simp)
   ·exact ih _ x hx
  ·simp only[cond_true]
   rcases List.mem_cons.1 hx with rfl | hx
   ·have hs:seen.any (Nat.beq x)=true:=by
     have hz:Nat.blt x 0=false:=rfl
     rw[hz,Bool.false_or]at hc;exact hc
    obtain⟨y,hy,he⟩:=List.any_eq_true.1 hs
    rw[Nat.eq_of_beq_eq_true he]
    exact B2 H 0 _ _ _ y hy
   ·exact ih _ x hx
theorem Pz {D:Nat→Prop} {v:Value} {H H2:AA} {s:Pk} {b:Nat} {ns:List Nat} {o o1:AJ} {ps:List AJ} (hr:Dl s (o::ps)) (hD:b∈Af 4 v∨D b) (hl:ns.length=ps.length) (hnd:(b::ns).Nodup)
 (hg:H.get b=some o1) (hro:o1.ro=false) (hp:o1.Ga=true) (hren:BR (fun i=>(b::ns)[i]?) o=some o1) (href:∀n∈ns,n∈Em o1) (hrefs:∀n∈Em o1,n∈ns) (hlr:(Em o1).length≤100)
 (hps:∀(i n:Nat) (p:AJ),ns[i]? = some n→ps[i]? = some p→∃p1,H.get n=some p1∧p1.ro=false∧p1.Ga=true∧Em p1=[]∧BR (fun i=>(b::ns)[i]?) p=some p1)
 (k:CB D v (DU s (b::ns) H) H2)
 (hx0:D7 s=[]:=by rfl) (hroot:∀T,¬o.void T:=by intro _;exact id):CB D v H H2:=by
 have hflat:∀n∈ns,∃p,H.get n=some p∧Em p=[]:=by
  intro n hn
  obtain⟨i,hi,e⟩:=List.getElem_of_mem hn
  obtain⟨p1,h1,_,_,h4,_⟩:=hps i n _ (by rw[List.getElem?_eq_getElem hi,e]) (List.getElem?_eq_getElem (by omega))
  exact⟨p1,h1,h4⟩
 have hreach:∀x∈b::ns,x∈Ax H 0 200 [b] []:=by
  intro x hx
  rw[BS hg rfl,List.append_nil,List.nil_append]
  rcases List.mem_cons.1 hx with rfl | hx
  ·exact B2 H 0 _ _ _ x (by simp)
  ·exact MO _ _ _ (by omega) (fun n hn=>hflat n (hrefs n hn)) x (href x hx)
 refine .step s (o::ps) (b::ns) [b] hr (by simp) (by simp[hl]) hnd (fun x hx=>by simp at hx;rw[hx];exact hD) hreach (fun i x q hx hq=>?_) (fun q T hq=>by cases hq;exact hroot T) k
 cases i with
 | zero=>cases hx;cases hq;exact⟨o1,hg,hro,hp,by rw[hx0,Ew];exact hren⟩
 | succ i=>
  obtain⟨p1,h1,h2,h3,_,h5⟩:=hps i x q hx hq
  exact⟨p1,h1,h2,h3,by rw[hx0,Ew];exact h5⟩
noncomputable def EI (H:AA):List AJ→AA
 | []=>H
 | o::r=>EI (H.alloc o) r
theorem Hw:∀(l:List AJ) (H:AA),(EI H l).next=H.next+l.length
 | [],_=>rfl
 | o::r,H=>by rw[EI,Hw r];show H.next+1+r.length=_;simp;omega
theorem Fv:∀(l:List AJ) (H:AA) (x:Nat),(EI H l).get x=if H.next≤x then(match l[x - H.next]? with | some o=>some o | none=>H.get x)else H.get x
 | [],H,x=>by simp[EI]
 | o::r,H,x=>by
  rw[EI,Fv r]
  show(if H.next+1≤x then _ else _)=_
  by_cases h1:H.next+1≤x
  ·rw[if_pos h1,if_pos (by omega)]
   show(match r[x - (H.next+1)]? with | some o=>some o | none=>(H.alloc o).get x)=_
   have e:x - H.next=(x - (H.next+1))+1:=by omega
   rw[e,List.getElem?_cons_succ]
   have e2:(H.alloc o).get x=H.get x:=by rw[AA.AR,if_neg (by omega)]
   rw[e2]
  ·rw[if_neg h1,AA.AR]
   by_cases h2:x=H.next
   ·subst h2;simp
   ·rw[if_neg h2,if_neg (by omega)]
theorem KI {H:AA} {b:Nat} {ro:Bool} {o o1:AJ} {ps ps1:List AJ} (hlt:b < H.next) (hf:∀x,H.next≤x→H.get x=none) (hl:ps1.length=ps.length) (h0:BR (D0 b H.next (ps.length+1)) (Kl ro o)=some o1)
 (hps:∀(i:Nat) (p:AJ),ps[i]? = some p→∃p1,ps1[i]? = some p1∧BR (D0 b H.next (ps.length+1)) (Kl ro p)=some p1):JD H b ro (o::ps) (EI (H.put b o1) ps1):=by
 have hnx:(H.put b o1).next=H.next:=rfl
 refine⟨by rw[Hw,hnx,hl];simp,fun x hx EB=>?_,fun x hx=>?_,fun i p hp=>?_⟩
 ·rw[Fv,hnx,if_neg (by omega),AA.AN,if_neg hx]
 ·rw[Hw,hnx]at hx
  rw[Fv,hnx,if_pos (by omega),List.getElem?_eq_none (by omega)]
  show(H.put b o1).get x=none
  rw[AA.AN,if_neg (by omega)];exact hf x (by omega)
 ·cases i with
  | zero=>
   cases hp
   refine⟨o1,h0,?_⟩
   show(EI (H.put b o1) ps1).get b=_
   rw[Fv,hnx,if_neg (by omega),AA.AN,if_pos rfl]
  | succ i=>
   obtain⟨p1,h1,h2⟩:=hps i p hp
   refine⟨p1,h2,?_⟩
   have e:CF b H.next (i+1)=H.next+i:=by unfold CF;rw[if_neg (by omega)];rfl
   rw[e,Fv,hnx,if_pos (by omega),show H.next+i - H.next=i by omega,h1]
end Go.AD

namespace Go.AD
theorem GY {μ ν:Ah} {a a1:Value} (hle:μ.le ν) (h:∀v',AH μ a v'→AH ν a1 v') {post:List Value}:∀(pre l':List Value),Aq μ (pre++a::post) l'→Aq ν (pre++a1::post) l'
 | [],_,hl=>by cases hl with | cons h1 h2=>exact .cons (h _ h1) (h2.mono hle)
 | p::pre,_,hl=>by cases hl with | cons h1 h2=>exact .cons (h1.mono hle) (GY hle h pre _ h2)
section
variable {base:Env} {W0 W:World} {μ:Ah} {H:AA}
theorem AP.aU (h:AP base W0 μ H W) {b n len e:Nat} {k:EK} {l:List (EK.C k)} {ro ro2:Bool} {pre post:List Value}
 (hb:H.get b=some (.cells (pre++ .slice (some ⟨n,0,none⟩) len (AF+len)::post) e ro)) (hn:H.get n=some (.vec k l ro2)) (hk0:k.length≠0:=by decide):
 AP base W0 μ (H.put b (.cells (pre++ .slice (some ⟨n,0,some 0⟩) len AF::post) e ro)) W:=by
 refine h.swap hb (fun T o' _ ho=>?_) rfl rfl rfl (fun _ _ hv=>hv)
 cases ho with
 | cells _ _ _ c t lo hi he hc hr hf=>
  refine .cells T _ e ro c t lo hi he ?_ hr hf
  have hc2:=GY (a1:= .slice (some ⟨n,0,some 0⟩) len AF) (Ah.le_refl _) (fun v' hv=>MW (j:=0) hk0 (Nat.le_refl _) (fun T hT=>h.elem hn hT) (by rw[Nat.zero_mul];exact HE hv)) pre _ hc
  have e1:(pre++Value.slice (some ⟨n,0,none⟩) len (AF+len)::post).length=(pre++Value.slice (some ⟨n,0,some 0⟩) len AF::post).length:=by simp
  rw[←e1];exact hc2
def AA.Ww (H:AA) (n:Nat):AA:=⟨H.m,max H.next n⟩
theorem AP.Ww (h:AP base W0 μ H W) (n:Nat):AP base W0 μ (H.Ww n) W:=
 ⟨h.obj,h.own,h.inj,fun b hb=>h.fresh b (Nat.le_trans (Nat.le_max_left _ _) hb),h.bound,h.size,h.below,h.out,h.os,(let ⟨φ,a⟩:=h.abs;⟨φ,a.rep,a.Be⟩),h.le,h.grow⟩
noncomputable def AA.CQ (H:AA) (k:EK):AA:=(H.Ww 100).alloc (.vec k [] false)
def AA.BU (H:AA):Nat:=max H.next 100
theorem AA.D5 (H:AA):100≤H.BU:=Nat.le_max_right _ _
theorem AA.CL (H:AA) (k:EK) (i:Nat):(H.CQ k).get i=if i=H.BU then some (.vec k [] false)else H.get i:=AA.AR _ _ _
def NoRoom (μ:Ah) (x:Value):Prop:=∀v',AH μ x v'→∃a:Option (Nat × Nat),v'= .slice (a.map fun p=>⟨p.1,p.2,none⟩) 0 0
theorem HI:NoRoom μ (.slice none 0 0):=fun v' hv=>by cases hv;exact⟨none,rfl⟩
theorem Q6 {b o:Nat}:NoRoom μ (.slice (some ⟨b,o,none⟩) 0 0):=fun v' hv=>by
 cases hv with
 | slice _ _ _ _ cap' o' T hm hc ho=>
  have:cap'=0:=by
   rcases hc with⟨_,hc⟩ | ⟨hc,_⟩
   ·exact hc
   ·have h0:0 < AF:=by unfold AF;decide
    omega
  subst this
  exact⟨some (T.c,o'),rfl⟩
theorem AP.MB (h:AP base W0 μ H W) {b e c:Nat} {k:EK} {ro:Bool} {x:Value} {pre post:List Value} (hc:∃T,μ c=some T) (hx:∀ν:Ah,NoRoom ν x)
 (hb:H.get b=some (.cells (pre++x::post) e ro)) (hb2:b < 100) (hk0:k.length≠0:=by decide):
 ∃μ2,μ.le μ2∧AP base W0 μ2 ((H.CQ k).put b (.cells (pre++ .slice (some ⟨H.BU,0,some 0⟩) 0 AF::post) e ro)) W:=by
 obtain⟨T,hT⟩:=hc
 obtain⟨h1,h2⟩:=(h.Ww 100).CQ hT hk0 false
 refine⟨_,h2.le,?_⟩
 have hb3:(H.CQ k).get b=some (.cells (pre++x::post) e ro):=by
  rw[AA.CL,if_neg (by have:=H.D5;omega)];exact hb
 have hs:AP base W0 _ (H.CQ k) W:=h1
 refine hs.swap hb3 (fun T' o' _ ho=>?_) rfl rfl rfl (fun _ _ hv=>hv)
 cases ho with
 | cells _ _ _ c t lo hi he hc hr hf=>
  refine .cells T' _ e ro c t lo hi he ?_ hr hf
  have hc2:=GY (a1:= .slice (some ⟨H.BU,0,some 0⟩) 0 AF) (Ah.le_refl _) (fun v' hv=>by
   obtain⟨a,rfl⟩:=hx _ v' hv
   exact .DC _ 0 AF _ a (Ah.A8 _ _ _) (.inr ⟨Nat.le_refl _,Nat.sub_self _⟩)) pre _ hc
  have e1:(pre++x::post).length=(pre++Value.slice (some ⟨H.BU,0,some 0⟩) 0 AF::post).length:=by simp
  rw[←e1];exact hc2
theorem AP.VU (h:AP base W0 μ H W) {c:Nat} {k:EK} (hc:∃T,μ c=some T) (hk0:k.length≠0:=by decide):
 ∃μ2,μ.le μ2∧AP base W0 μ2 (H.CQ k) W∧AH μ2 (.slice (some ⟨H.BU,0,some 0⟩) 0 AF) (.slice none 0 0):=by
 obtain⟨T,hT⟩:=hc
 obtain⟨h1,h2⟩:=(h.Ww 100).CQ hT hk0 false
 exact⟨_,h2.le,h1,.DC _ 0 AF _ none (Ah.A8 _ _ _) (.inr ⟨Nat.le_refl _,Nat.sub_self _⟩)⟩
theorem Aq.bD {l l':List Value} {post:List Value}:∀(pre l':List Value),Aq μ (pre++post) l'→Aq μ (List.replicate pre.length A5++post) l'
 | [],_,h=>h
 | p::pre,_,h=>by cases h with | cons h1 h2=>exact .cons (.A5 _) (Aq.bD (l:=l) (l':=l') pre _ h2)
theorem AP.fT (h:AP base W0 μ H W) {b:Nat} {l:List (EK.C [.tok])} {x:Value} {ro:Bool} (hb:H.get b=some (.vec [.tok] (l++[x]) ro)):
 AP base W0 μ (H.put b (.vec [.tok] (List.replicate l.length A5++[x]) ro)) W:=by
 refine h.swap hb (fun T o' _ ho=>?_) rfl rfl rfl (fun _ _ hv=>absurd hv.1 (by simp))
 generalize hq:l++[x]=q at ho
 cases ho with
 | FC _ _ _ _ _ _=>exact absurd hq (by simp)
 | vec _ _ _ _ hc=>
  subst hq
  refine .vec T [.tok] _ ro o' ?_
  rw[Gh]at hc ⊢
  cases hc with
  | cells _ _ _ c t lo hi he hc hr hf=>
   refine .cells T _ _ ro c t lo hi he ?_ hr hf
   have e1:(List.replicate l.length A5++[x]).length=(l++[x]).length:=by simp
   rw[e1];exact Aq.bD (l:=[]) (l':=[]) _ _ hc
end
end Go.AD

set_option maxRecDepth 1000000
namespace Go.AD
open Go.Proofs
theorem A6.dM {X:Ctx} {N:Nat} {Φ:Ay→Prop} {c:Ay} {H':AA} (hd:Ck c.fr.todo=true) (hds:(c.cs.all fun f=>Ck f.todo)=true) (hn:∀(base:Env) (W0:World) (μ:Ah) (W:World),AP base W0 μ c.H W→AP base W0 μ H' W)
 (hr:A6 X N ⟨c.fr,c.cs,H'⟩ Φ):A6 X N c Φ:=by
 intro base W0 hb hok hplan cs0 μ fr cs W hm
 obtain⟨hH,hlaid,g,gs,hfr,hcs,hnd⟩:=hm
 have hcs2:=LW (ks:=[]) (H':=H') hcs hds
 have e:c.cs.map (J8 [])=c.cs:=by
  refine(List.map_congr_left fun f _=>?_).trans (List.map_id _)
  cases f;rfl
 rw[e]at hcs2
 exact hr base W0 hb hok hplan cs0 μ fr cs W ⟨hn base W0 μ W hH,hlaid,[],[],NQ hfr hd,hcs2,by simp⟩
end Go.AD

set_option maxRecDepth 1000000
namespace Go.AD
open Go.Proofs
def Qa (l:List (EK.C Ab)) (v:Value) (H:AA):Prop:=
 v=JH 14∧H.get 9=some (EF 10 l.length)∧H.get 10=some (.vec Ab l false)∧
  ((l=[]∧H.get 14=some (.cells [.bool true,.slice none 0 0] 0 false))∨(H.get 14=some (EF 15 l.length)∧H.get 15=some (.vec Ab l false)))
theorem aQ {l:List (EK.C Ab)} (hn:l.length < 1000000):∀(m i:Nat),l.length - i=m→i≤l.length→As X0 10 AX (Qa l) (dk l i i (l.take i)):=by
 intro m
 induction m with
 | zero=>
  intro i hm hi
  have he:i=l.length:=by omega
  subst he
  refine GD (Av X0) (ids:=[9,10,14,15]) (S:=cj) (ks:=dJ) (by kernel_rfl) (Q:=fun v os=>v=JH 14∧∃o5,os=[some (EF 10 l.length),some (.vec Ab l false),some (EF 15 l.length),some (.vec Ab l false),o5]) (R:=fun _=>False) (fun v H h=>?_) (fun c h=>h.elim) 400 _ ?_
  ·obtain⟨rfl,o5,h⟩:=h
   have h:[H.get 9,H.get 10,H.get 14,H.get 15,H.get 14]=_:=h
   simp only[List.cons.injEq,and_true]at h
   exact⟨rfl,h.1,h.2.1,.inr ⟨h.2.2.1,h.2.2.2.1⟩⟩
  ·rw[VY,List.take_length]
   refine AT (fun h=>absurd h (by omega)) (fun _=>⟨rfl,_,by unfold EF AF;rfl⟩)
 | succ m ih=>
  intro i hm hi
  have hlt:i < l.length:=by omega
  refine GD (Av X0) (ids:=[9,10,14,15]) (S:=cj) (ks:=dJ) (by kernel_rfl) (Q:=fun _ _=>False) (R:=fun c=>c=dk l (i+1:Nat) (i+1) (l.take (i+1))) (fun v H h=>h.elim) (fun c h=>by rw[h];exact ih (i+1) (by omega) (by omega)) 400 _ ?_
  rw[VY]
  refine AT (fun h=>?_) (fun h=>absurd (show(i:Int) < (l.length:Int) by omega) h)
  refine AE (ca hlt) (AE (cb hlt) (AE ?_ ⟨rfl,?_⟩))
  ·rw[NF (by omega)]
   have:Nat.ble (0+i) (List.take i l).length=true:=Nat.ble_eq_true_of_le (by rw[List.length_take];omega)
   rw[this];rfl
  ·have e1:IntKind.wrap .i64 ((i:Int)+1)=((i+1:Nat):Int):=by rw[wrap64 (by omega) (by omega)];rfl
   have e2:List.take i (List.drop 0 (List.take i l))++[((l.getD (0+Int.toNat (i:Int)) (EK.AQ Ab)).1,(l.getD (0+Int.toNat (i:Int)) (EK.AQ Ab)).2)]=l.take (i+1):=by
    rw[List.drop_zero,List.take_take,Nat.min_self,Nat.zero_add,Int.toNat_natCast,List.take_succ_eq_append_getElem hlt,List.getD_eq_getElem?_getD,List.getElem?_eq_getElem hlt];rfl
   rw[e1,e2]
theorem YD {l:List (EK.C Ab)} (hn:l.length < 1000000):As X0 10 AX (Qa l) (st AX 34 [p9] (BW ⟨.leaf,9⟩ (Lb l))):=by
 refine GD (Av X0) (ids:=[9,10]) (S:=cj) (ks:=dJ) (by kernel_rfl) (Q:=fun _ _=>False) (R:=fun c=>c=fY l) (fun v H h=>h.elim) (fun c h=>?_) 400 _ ?_
 ·rw[h]
  refine GD (Av X0) (ids:=[9,10,14]) (S:=cj) (ks:=dJ) (by kernel_rfl) (Q:=fun v os=>l=[]∧v=JH 14∧∃o4,os=[some (EF 10 l.length),some (.vec Ab l false),some (.cells [.bool true,.slice none 0 0] 0 false),o4])
   (R:=fun c=>∃k v,l.take 1=[(k,v)]∧c=bM l 1 k v) (fun v H h=>?_) (fun c h=>?_) 400 _ ?_
  ·obtain⟨e,rfl,o4,h⟩:=h
   have h:[H.get 9,H.get 10,H.get 14,H.get 14]=_:=h
   simp only[List.cons.injEq,and_true]at h
   exact⟨rfl,h.1,h.2.1,.inl ⟨e,h.2.2.1⟩⟩
  ·obtain⟨k,v,e,rfl⟩:=h
   have h1:1≤l.length:=by
    rcases Nat.eq_zero_or_pos l.length with h | h
    ·rw[List.length_eq_zero_iff.1 h]at e;cases e
    ·exact h
   have hl:=aQ hn (l.length - 1) 1 rfl h1
   rw[e]at hl
   refine A6.dM (H':=((bM l 1 k v).H.put 15 (.vec Ab [(k,v)] false)).put 14 (.cells ([.bool true]++ .slice (some ⟨15,0,some 0⟩) 1 AF::[]) 0 false)) (by rfl) (by rfl) (fun base W0 μ W hH=>?_) ?_
   ·have g1:(bM l 1 k v).H.get 15=some (.cells (Ar Ab [(k,v)]) Ab.length false):=by kernel_rfl
    have g3:(bM l 1 k v).H.get 14=some (.cells [.bool true,.slice (some ⟨15,0,none⟩) 1 18446744073709551617] 0 false):=by kernel_rfl
    have g2:=hH.MZ g1
    refine g2.aU (n:=15) (len:=1) (pre:=[.bool true]) (post:=[]) (l:=[(k,v)]) (ro2:=false) ?_ (by rw[AA.AN,if_pos rfl])
    rw[AA.AN,if_neg (by decide),g3]
    unfold AF;rfl
   ·have e3:(⟨(bM l 1 k v).fr,(bM l 1 k v).cs,((bM l 1 k v).H.put 15 (.vec Ab [(k,v)] false)).put 14 (.cells ([.bool true]++ .slice (some ⟨15,0,some 0⟩) 1 AF::[]) 0 false)⟩:Ay)=dk l 1 1 [(k,v)]:=by kernel_rfl
    rw[e3];exact hl
  ·rw[cK]
   refine AT (fun h=>?_) (fun h=>?_)
   ·have hp:0 < l.length:=by omega
    have hb:Nat.blt 0 l.length=true:=Nat.ble_eq_true_of_le hp
    refine AE (by rw[hb];rfl) (AE hb ⟨rfl,_,_,?_,rfl⟩)
    cases l with
    | nil=>cases hp
    | cons x l=>rfl
   ·have h0:l=[]:=List.length_eq_zero_iff.1 (by omega)
    exact⟨h0,rfl,_,by unfold EF AF;rfl⟩
 ·rw[cT]
  exact AE (by simp) rfl
end Go.AD

set_option maxRecDepth 1000000
namespace Go.AD
open Go.Proofs
noncomputable def OS (args:List Value) (objs:List AJ):GT:=
 match args,objs with
 | [.pointer (some ⟨9,0,none⟩)],[.abs (.pack (.table l)) _]=> .ask (l.length < 1000000) (.ret ⟨.pointer (some ⟨10,0,none⟩),[some (.abs (.pack (.table l)) false)],[.abs (.pack (.table l)) false]⟩)
 | _,_=> .fail
theorem OR {b:Nat} {l:List (EK.C Ab)} {H:AA} (hb:10≤b) (h9:H.get 9=some (.abs (.pack (.table l)) false)) (h:H.get b=some (.abs (.pack (.table l)) false)):
 Ci AL 9 1 [true] ⟨.pointer (some ⟨10,0,none⟩),[some (.abs (.pack (.table l)) false)],[.abs (.pack (.table l)) false]⟩ (JH b) H:=by
 refine⟨[b],by simp,fun c hc=>by simp at hc;omega,rfl,rfl,fun j c p hj hp=>?_,fun j o hj hm ho=>?_⟩
 ·cases j with
  | zero=>cases hj;cases hp;exact⟨_,rfl,h⟩
  | succ j=>cases j<;>cases hj
 ·cases j with
  | zero=>cases ho;exact⟨_,rfl,h9⟩
  | succ j=>omega
theorem Tv:Da Tryz.prog AL AX (A3 AL 9 [true] OS):=by
 refine Bs (Aw.nil _ _) (by kernel_rfl) (n:=34) (by kernel_rfl) (by kernel_rfl) fun argsc objs x hx hro=>?_
 unfold OS at hx
 split at hx
 ·rename_i l ro
  simp only[GT.run]at hx
  split at hx
  ·rename_i hn
   cases hx
   have hr0:ro=false:=hro 0 _ rfl rfl
   subst hr0
   refine⟨by simp,?_⟩
   refine A4.shut (Q:=fun v H=>(l=[]∧v=JH 10∧H.get 9=some (.cells [.bool true,.slice none 0 0] 0 false)∧H.get 10=some (.cells [.bool true,.slice none 0 0] 0 false))∨Qa l v H) ?_ ?_
   ·show A4 X0 10 (fun b=>9≤b∧b < 10) AX _ (st AX 34 [p9] (Jo l))
    refine A4.opened (b:=9) (s:= .table l) (ro:=false) ⟨by omega,by omega⟩ (by rfl) (fun ops p k h=>by cases h) fun objs hr=>?_
    cases hr with
    | EM=>
     have hE:As X0 10 AX (fun v H=>v=JH 10∧H.get 9=some (.cells [.bool true,.slice none 0 0] 0 false)∧H.get 10=some (.cells [.bool true,.slice none 0 0] 0 false)) (st AX 34 [p9] (BW ⟨.leaf,9⟩ Og)):=by
      refine(B8.Gq (B6 (Av X0) (ids:=[9]) (Q:=fun v os=>v=JH 10∧os=[some (.cells [.bool true,.slice none 0 0] 0 false),some (.cells [.bool true,.slice none 0 0] 0 false)]) 400 _ (by rw[dR];exact⟨rfl,rfl⟩))).mono ?_
      rintro v H ⟨rfl,h⟩
      have h:[H.get 9,H.get 10]=_:=h
      simp only[List.cons.injEq,and_true]at h
      exact⟨rfl,h.1,h.2⟩
     have hN:A4 X0 10 (fun b=>9≤b∧b < 10) AX (fun v H=>(([]:List (EK.C Ab))=[]∧v=JH 10∧H.get 9=some (.cells [.bool true,.slice none 0 0] 0 false)∧H.get 10=some (.cells [.bool true,.slice none 0 0] 0 false))∨Qa [] v H) (st AX 34 [p9] ((Jo []).put 9 (.cells [.bool true,.slice none 0 0] 0 false))):=by
      rw[Qz];exact hE.Ko.mono fun v H h=> .inl ⟨rfl,h⟩
     exact⟨_,PC (H:=Jo []) (b:=9) (ro:=false) (o1:= .cells [.bool true,.slice none 0 0] 0 false) (show 9 < 10 by decide) (JK []) rfl,hN⟩
    | table l=>
     have hN:A4 X0 10 (fun b=>9≤b∧b < 10) AX (fun v H=>(l=[]∧v=JH 10∧H.get 9=some (.cells [.bool true,.slice none 0 0] 0 false)∧H.get 10=some (.cells [.bool true,.slice none 0 0] 0 false))∨Qa l v H) (st AX 34 [p9] (((Jo l).put 9 (.cells [.bool true,.slice (some ⟨10,0,some 0⟩) l.length AF] 0 false)).alloc (.vec Ab l false))):=by
      rw[Pn];exact(YD hn).Ko.mono fun v H h=> .inr h
     exact⟨_,JW (H:=Jo l) (b:=9) (ro:=false) (o1:= .cells [.bool true,.slice (some ⟨10,0,some 0⟩) l.length AF] 0 false) (p1:= .vec Ab l false) (show 9 < 10 by decide) (JK l) rfl rfl,hN⟩
   ·have hD9:∀v:Value,9∈Af 4 v∨(9≤9∧9 < 9+[AJ.abs (.pack (.table l)) false].length):=fun v=> .inr ⟨Nat.le_refl 9,Nat.lt_succ_self 9⟩
    rintro v H (⟨rfl,rfl,h9,h10⟩ | ⟨rfl,h9,h10,h14⟩)
    ·have s1:=CY (s:= .table []) (bs:=[9]) (H:=H) (by simp)
     have k10:=s1.DN 10 (by simp)
     rw[h10]at k10
     have s2:=CY (s:= .table []) (bs:=[10]) (H:=DU (.table []) [9] H) (by simp)
     refine⟨DU (.table []) [10] (DU (.table []) [9] H),PZ (s:= .table []) (o:= .cells [.bool true,.slice none 0 0] 0 false) .EM (hD9 _) h9 rfl rfl rfl
      (PZ (s:= .table []) (o:= .cells [.bool true,.slice none 0 0] 0 false) .EM (.inl (by simp[Af,JH])) k10 rfl rfl rfl (.refl _)),OR (Nat.le_refl _) ?_ (s2.root 10 rfl)⟩
     rw[s2.DN 9 (by simp)];exact s1.root 9 rfl
    ·have s1:=CY (s:= .table l) (bs:=[9,10]) (H:=H) (by simp)
     have k14:=s1.DN 14 (by simp)
     have k15:=s1.DN 15 (by simp)
     rcases h14 with⟨e,h14⟩ | ⟨h14,h15⟩
     ·rw[h14]at k14
      have s2:=CY (s:= .table l) (bs:=[14]) (H:=DU (.table l) [9,10] H) (by simp)
      refine⟨DU (.table l) [14] (DU (.table l) [9,10] H),S1 (s:= .table l) (b:=9) (n:=10) (.table l) (hD9 _) (by decide) h9 rfl rfl rfl rfl h10 rfl rfl rfl
       (PZ (s:= .table l) (o:= .cells [.bool true,.slice none 0 0] 0 false) (by rw[e];exact .EM) (.inl (by simp[Af,JH])) k14 rfl rfl rfl (.refl _)),OR (by decide) ?_ (s2.root 14 rfl)⟩
      rw[s2.DN 9 (by simp)];exact s1.root 9 rfl
     ·rw[h14]at k14
      rw[h15]at k15
      have s2:=CY (s:= .table l) (bs:=[14,15]) (H:=DU (.table l) [9,10] H) (by simp)
      refine⟨DU (.table l) [14,15] (DU (.table l) [9,10] H),S1 (s:= .table l) (b:=9) (n:=10) (.table l) (hD9 _) (by decide) h9 rfl rfl rfl rfl h10 rfl rfl rfl
       (S1 (s:= .table l) (b:=14) (n:=15) (.table l) (.inl (by simp[Af,JH])) (by decide) k14 rfl rfl rfl rfl k15 rfl rfl rfl (.refl _)),OR (by decide) ?_ (s2.root 14 rfl)⟩
      rw[s2.DN 9 (by simp)];exact s1.root 9 rfl
  ·cases hx
 ·cases hx
end Go.AD

set_option maxRecDepth 1000000
namespace Go.AD
open Go.Proofs
abbrev CW:EK:=[.bool,.str,.str]
noncomputable def Mq (m:AB):List AJ:=[.cells (BV m 10 11 (.slice (some ⟨12,0,some 0⟩) m.AG.length AF)) 0 false,.abs (.pack (.table m.base)) false,.abs (.pack (.table m.now)) false,.vec CW m.AG false]
noncomputable def fF:List (FuncId × Cn):=[(Bn,A3 AL 9 [true] Au.G),(Bq,A3 AL 9 [true] J4.G),(BA,A3 AL 9 [true] KF.G),(CP,A3 AL 9 [true] cz.G),(AX,A3 AL 9 [true] OS),(C8,A3 AL 9 [] TP)]
noncomputable def XM:Ctx:=Cp Tryz.prog AL fF
noncomputable def Vb:Pf:=fun g=>bif Nat.beq g Bn then some (B0 AL 9 [true] Au.G)else bif Nat.beq g Bq then some (B0 AL 9 [true] J4.G)else bif Nat.beq g BA then some (B0 AL 9 [true] KF.G)else
 bif Nat.beq g CP then some (B0 AL 9 [true] cz.G)else bif Nat.beq g AX then some (B0 AL 9 [true] OS)else bif Nat.beq g C8 then some (B0 AL 9 [] TP)else Cv g
end Go.AD

set_option maxRecDepth 1000000
namespace Go.AD
open Go.Proofs
def HU (H:AA) (m:AB):Prop:=∃b n x,b≠9∧n≠9∧b≠n∧x≠9∧x≠b∧x≠n∧H.get b=some (.abs (.pack (.table m.base)) false)∧H.get n=some (.abs (.pack (.table m.now)) false)∧
 H.get 9=some (.cells (BV m b n (.slice (some ⟨x,0,some 0⟩) m.AG.length AF)) 0 false)∧H.get x=some (.vec CW m.AG false)
structure IV where
 ok:AB→List Value→Prop
 v:AB→List Value→Value
 nx:AB→List Value→AB
noncomputable def IV.G (q:IV) (args:List Value) (objs:List AJ):GT:=
 match args,objs with
 | .pointer (some ⟨9,0,none⟩)::rest,[.abs (.pack (.model m)) _]=> .ask (q.ok m rest) (.ret ⟨q.v m rest,[some (.abs (.pack (.model (q.nx m rest))) false)],[]⟩)
 | _,_=> .fail
noncomputable def Mf (m:AB):AA:=BW ⟨.leaf,9⟩ [.abs (.pack (.model m)) false]
theorem Px (m:AB):∀x,10≤x→(Mf m).get x=none:=by
 intro x hx
 unfold Mf
 rw[E6]
 show(if x < 9 then _ else _)=_
 rw[if_neg (by omega),List.getElem?_eq_none (by simp;omega)]
 rfl
noncomputable def PJ (m:AB) (u:Value):AJ:= .cells (BV m 10 11 u) 0 false
theorem NH (m:AB):EI ((Mf m).put 9 (PJ m (.slice (some ⟨12,0,some 0⟩) m.AG.length AF))) [.abs (.pack (.table m.base)) false,.abs (.pack (.table m.now)) false,.vec CW m.AG false]=BW ⟨.leaf,9⟩ (Mq m):=by kernel_rfl
theorem eP {v:Value} {H:AA} {s:Pk} (hv:Ch 6 v=true) (h:H.get 9=some (.abs (.pack s) false)):Ci AL 9 1 [true] ⟨v,[some (.abs (.pack s) false)],[]⟩ v H:=by
 refine⟨[],List.nodup_nil,fun b hb=>(by cases hb),rfl,LY 6 v hv,fun j b o hj=>(by cases hj),fun j o hj hm ho=>?_⟩
 cases j with
 | zero=>cases ho;exact⟨_,rfl,h⟩
 | succ j=>omega
theorem S5 {D:Nat→Prop} {v:Value} {H:AA} {m:AB} (hD:D 9) (h:HU H m):∃H2,CB D v H H2∧H2.get 9=some (.abs (.pack (.model m)) false):=by
 obtain⟨b,n,x,hb,hn,hbn,hx,hxb,hxn,gb,gn,g9,gx⟩:=h
 have hnd:(9::[b,n,x]).Nodup:=by simp[Ne.symm hb,Ne.symm hn,hbn,Ne.symm hx,Ne.symm hxb,Ne.symm hxn]
 refine⟨DU (.model m) (9::[b,n,x]) H,Pz (s:= .model m) (ns:=[b,n,x]) (.model m) (.inr hD) rfl hnd g9 rfl rfl rfl ?_ ?_ (Nat.le_of_ble_eq_true rfl) ?_ (.refl _),(CY hnd).root 9 rfl⟩
 ·intro y hy;exact hy
 ·intro y hy;exact hy
 ·intro i y p hy hp
  cases i with
  | zero=>cases hy;cases hp;exact⟨_,gb,rfl,rfl,rfl,rfl⟩
  | succ i=>cases i with
   | zero=>cases hy;cases hp;exact⟨_,gn,rfl,rfl,rfl,rfl⟩
   | succ i=>cases i with
    | zero=>cases hy;cases hp;exact⟨_,gx,rfl,rfl,rfl,rfl⟩
    | succ i=>cases i<;>cases hy
theorem Pm {fs:List (FuncId × Cn)} (hfs:Aw Tryz.prog AL fs) {f:FuncId} {n:Nat} (he:entry Tryz.prog f=some (n,Bb Tryz.prog f [])) {q:IV}
 (hrun:∀m rest,q.ok m rest→rest.length+1≤n∧Ch 6 (q.v m rest)=true∧
  A4 (Cp Tryz.prog AL fs) 10 (fun b=>9≤b∧b < 10) f (fun v H=>v=q.v m rest∧HU H (q.nx m rest)) (st f n (p9::rest) (BW ⟨.leaf,9⟩ (Mq m)))):Da Tryz.prog AL f (A3 AL 9 [true] q.G):=by
 refine Bs hfs (by kernel_rfl) he (by kernel_rfl) fun argsc objs x hx hro=>?_
 unfold IV.G at hx
 split at hx
 ·rename_i rest m ro
  simp only[GT.run]at hx
  split at hx
  ·rename_i hok
   cases hx
   have hr0:ro=false:=hro 0 _ rfl rfl
   subst hr0
   obtain⟨g1,g2,g5⟩:=hrun m rest hok
   refine⟨by simpa using g1,?_⟩
   refine A4.shut (Q:=fun v H=>v=q.v m rest∧HU H (q.nx m rest)) ?_ ?_
   ·show A4 (Cp Tryz.prog AL fs) 10 (fun b=>9≤b∧b < 10) f _ (st f n (p9::rest) (Mf m))
    refine A4.opened (b:=9) (s:= .model m) (ro:=false) ⟨by omega,by omega⟩ (by rfl) (fun ops p k h=>by cases h) fun objs hr=>?_
    cases hr with
    | model=>
     have hN:A4 (Cp Tryz.prog AL fs) 10 (fun b=>9≤b∧b < 10) f (fun v H=>v=q.v m rest∧HU H (q.nx m rest)) (st f n (p9::rest) (EI ((Mf m).put 9 (PJ m (.slice (some ⟨12,0,some 0⟩) m.AG.length AF))) [.abs (.pack (.table m.base)) false,.abs (.pack (.table m.now)) false,.vec CW m.AG false])):=by
      rw[NH];exact g5
     refine⟨_,KI (H:=Mf m) (b:=9) (ro:=false) (o1:=PJ m (.slice (some ⟨12,0,some 0⟩) m.AG.length AF)) (ps1:=[.abs (.pack (.table m.base)) false,.abs (.pack (.table m.now)) false,.vec CW m.AG false]) (show 9 < 10 by decide) (Px m) rfl rfl (fun i p hp=>?_),hN⟩
     cases i with
     | zero=>cases hp;exact⟨_,rfl,rfl⟩
     | succ i=>cases i with
      | zero=>cases hp;exact⟨_,rfl,rfl⟩
      | succ i=>cases i with
       | zero=>cases hp;exact⟨_,rfl,rfl⟩
       | succ i=>cases i<;>cases hp
   ·rintro v H ⟨rfl,hT⟩
    obtain⟨H2,k1,k2⟩:=S5 (D:=fun b=>9≤b∧b < 9+[AJ.abs (.pack (.model m)) false].length) (v:=q.v m rest) ⟨Nat.le_refl 9,Nat.lt_succ_self 9⟩ hT
    exact⟨H2,k1,eP g2 k2⟩
  ·cases hx
 ·cases hx
theorem TA {fs:List (FuncId × Cn)} (hfs:Aw Tryz.prog AL fs) {f:FuncId} {n:Nat} (he:entry Tryz.prog f=some (n,Bb Tryz.prog f [])) {q:IV}
 (hrun:∀m rest,q.ok m rest→rest.length+1≤n∧Ch 6 (q.v m rest)=true∧
  As (Cp Tryz.prog AL fs) 10 f (fun v H=>v=q.v m rest∧HU H (q.nx m rest)) (st f n (p9::rest) (BW ⟨.leaf,9⟩ (Mq m)))):Da Tryz.prog AL f (A3 AL 9 [true] q.G):=
 Pm hfs he fun m rest h=>⟨(hrun m rest h).1,(hrun m rest h).2.1,(hrun m rest h).2.2.Ko⟩
end Go.AD

set_option maxRecDepth 1000000
namespace Go.AD
open Go.Proofs
theorem Hs:FD XM Vb:=An (fun _ _ _ h=>Ak (by kernel_rfl) h) (An (fun _ _ _ h=>Ak (by kernel_rfl) h) (An (fun _ _ _ h=>Ak (by kernel_rfl) h) (An (fun _ _ _ h=>Ak (by kernel_rfl) h)
 (An (fun _ _ _ h=>Ak (by kernel_rfl) h) (An (fun _ _ _ h=>Ak (by kernel_rfl) h) (Av _))))))
theorem allM:Aw Tryz.prog AL fF:=Aw.cons Y2 (Aw.cons ZD (Aw.cons Ze (Aw.cons ZK (Aw.cons Tv (Aw.cons Wf (Aw.nil _ _))))))
noncomputable def DP (l:List (ByteArray × ByteArray)):AJ:= .abs (.pack (.table l)) false
theorem P0 {D:Nat→Prop} {v x:Value} {H:AA} {m:AB} {r b n:Nat} (hx:∀ν:Ah,NoRoom ν x) (hu:m.AG=[]) (hb:b≠r) (hn:n≠r) (hbn:b≠n) (hr1:r < 100) (hb1:b < 100) (hn1:n < 100)
 (g9:H.get r=some (.cells (BV m b n x) 0 false)) (_gb:H.get b=some (DP m.base)) (_gn:H.get n=some (DP m.now)) (hD:∃c,D c):
 ∃v2 H2,(∀(base:Env) (W0:World) (μ:Ah) (W:World) (v':Value),(∀b,D b→∃T,μ b=some T)→AH μ v v'→AP base W0 μ H W→∃μ2,μ.le μ2∧AP base W0 μ2 H2 W∧AH μ2 v2 v')∧v2=v∧
  (∃z,100≤z∧(r::[b,n,z]).Nodup∧H2.get r=some (.cells (BV m b n (.slice (some ⟨z,0,some 0⟩) m.AG.length AF)) 0 false)∧H2.get z=some (.vec CW m.AG false))∧∀y,y≠r→y < 100→H2.get y=H.get y:=by
 obtain⟨c,hc⟩:=hD
 have hge:=H.D5
 refine⟨v,(H.CQ CW).put r (.cells (BV m b n (.slice (some ⟨H.BU,0,some 0⟩) 0 AF)) 0 false),fun base W0 μ W v' hT hv hH=>?_,rfl,⟨H.BU,hge,?_,?_,?_⟩,fun y hy hy1=>?_⟩
 ·obtain⟨μ2,k1,k2⟩:=hH.MB (k:=CW) (pre:=(BV m b n x).take 11) (post:=(BV m b n x).drop 12) (hT c hc) hx g9 hr1
  exact⟨μ2,k1,k2,hv.mono k1⟩
 ·simp only[List.nodup_cons,List.mem_cons,List.not_mem_nil,not_or,not_false_eq_true,and_true,List.nodup_nil]
  omega
 ·rw[AA.AN,if_pos rfl,hu];rfl
 ·rw[AA.AN,if_neg (by omega),AA.CL,if_pos rfl,hu]
 ·rw[AA.AN,if_neg hy,AA.CL,if_neg (by omega)]
theorem Sy {D:Nat→Prop} {v:Value} {H:AA} {m:AB} {b n:Nat} (hu:m.AG=[]) (hb:b≠9) (hn:n≠9) (hbn:b≠n) (hb1:b < 100) (hn1:n < 100)
 (g9:H.get 9=some (.cells (BV m b n (.slice none 0 0)) 0 false)) (gb:H.get b=some (DP m.base)) (gn:H.get n=some (DP m.now)) (hD:D 9:=by exact⟨Nat.le_refl 9,Nat.lt_succ_self 9⟩):
 ∃v2 H2,(∀(base:Env) (W0:World) (μ:Ah) (W:World) (v':Value),(∀b,D b→∃T,μ b=some T)→AH μ v v'→AP base W0 μ H W→∃μ2,μ.le μ2∧AP base W0 μ2 H2 W∧AH μ2 v2 v')∧v2=v∧HU H2 m:=by
 obtain⟨v2,H2,k1,k2,⟨z,z1,z2,z3,z4⟩,k3⟩:=P0 (D:=D) (v:=v) (fun _=>HI) hu hb hn hbn (by decide) hb1 hn1 g9 gb gn ⟨9,hD⟩
 refine⟨v2,H2,k1,k2,b,n,z,hb,hn,hbn,by omega,by omega,by omega,?_,?_,z3,z4⟩
 ·rw[k3 b hb hb1];exact gb
 ·rw[k3 n hn hn1];exact gn
end Go.AD

set_option maxRecDepth 1000000
namespace Go.AD
open Go.Proofs
def recC (k v:ByteArray):Int:=IntKind.wrap .i64 (IntKind.wrap .i64 (16+(k.size:Int))+(v.size:Int))
noncomputable def D3 (m:AB) (del:Bool) (key val:ByteArray):Int:=
 let n:=bif (DA m.now key).isSome then IntKind.wrap .i64 (m.cost - recC key ((DA m.now key).getD { data:=#[] }))else m.cost
 bif del then n else IntKind.wrap .i64 (n+recC key val)
end Go.AD

set_option maxRecDepth 1000000
namespace Go.AD
open Go.Proofs
theorem Zu (m:AB) (del:Bool) (key val:ByteArray) (Q:Value→List (Option AJ)→Prop):Gv XM Vb Bk [9,10,11,17] Q 800 (st Bk 26 [p9,.agg ⟨[.bool del,.string key,.string val]⟩] (BW ⟨.leaf,9⟩ (Mq m)))=(
 (Aj.ok Au (AB.now m) [Value.string key])∧(bif Option.isSome (DA (AB.now m) key)then(((.bool (Option.isSome (DA (AB.now m) key))):Value)=(.bool true))∧(bif del then(bif del then(Aj.ok KF (Aj.nx Au (AB.now m) [Value.string key]) [Value.string key])∧(bif true&&Nat.ble (0+List.length (AB.AG m)) (List.length (AB.AG m))&&BO 40 (List.length (AB.AG m)+1)then(((.pointer (some ⟨9,0,none⟩)):Value)=(.pointer (some ⟨9,0,none⟩)))∧(Q (.tuple ⟨[]⟩) [some (.cells [(.int .i64 (List.getD (AB.cfg m) 0 0)),(.int .i64 (List.getD (AB.cfg m) 1 0)),(.int .i64 (List.getD (AB.cfg m) 2 0)),(.int .i64 (List.getD (AB.cfg m) 3 0)),(.int .i64 (List.getD (AB.cfg m) 4 0)),(.int .i64 (List.getD (AB.cfg m) 5 0)),(.int .i64 (List.getD (AB.cfg m) 6 0)),(.int .i64 (AB.AS m)),(.pointer (some ⟨10,0,none⟩)),(.pointer (some ⟨11,0,none⟩)),(.int .i64 (IntKind.wrap .i64 (AB.cost m - IntKind.wrap .i64 (IntKind.wrap .i64 (16+Int.ofNat (ByteArray.size key))+Int.ofNat (ByteArray.size (Option.getD (DA (AB.now m) key) { data:=#[] })))))),(.slice (some ⟨17,0,(some 0)⟩) (List.length (AB.AG m)+1) 18446744073709551616),(.pointer none),(.int .i64 (AB.state m)),(.bool (AB.AK m))] 0 false),some (.abs (AZ.pack (Pk.table (AB.base m))) false),some (.abs (AZ.pack (Pk.table (Aj.nx KF (Aj.nx Au (AB.now m) [Value.string key]) [Value.string key]))) false),some (.vec CW (List.take (List.length (AB.AG m)) (List.drop 0 (AB.AG m))++[(del,key,val)]) false)])else False)else(Aj.ok J4 (Aj.nx Au (AB.now m) [Value.string key]) [Value.string key,Value.string val])∧(bif true&&Nat.ble (0+List.length (AB.AG m)) (List.length (AB.AG m))&&BO 40 (List.length (AB.AG m)+1)then(((.pointer (some ⟨9,0,none⟩)):Value)=(.pointer (some ⟨9,0,none⟩)))∧(Q (.tuple ⟨[]⟩) [some (.cells [(.int .i64 (List.getD (AB.cfg m) 0 0)),(.int .i64 (List.getD (AB.cfg m) 1 0)),(.int .i64 (List.getD (AB.cfg m) 2 0)),(.int .i64 (List.getD (AB.cfg m) 3 0)),(.int .i64 (List.getD (AB.cfg m) 4 0)),(.int .i64 (List.getD (AB.cfg m) 5 0)),(.int .i64 (List.getD (AB.cfg m) 6 0)),(.int .i64 (AB.AS m)),(.pointer (some ⟨10,0,none⟩)),(.pointer (some ⟨11,0,none⟩)),(.int .i64 (IntKind.wrap .i64 (AB.cost m - IntKind.wrap .i64 (IntKind.wrap .i64 (16+Int.ofNat (ByteArray.size key))+Int.ofNat (ByteArray.size (Option.getD (DA (AB.now m) key) { data:=#[] })))))),(.slice (some ⟨17,0,(some 0)⟩) (List.length (AB.AG m)+1) 18446744073709551616),(.pointer none),(.int .i64 (AB.state m)),(.bool (AB.AK m))] 0 false),some (.abs (AZ.pack (Pk.table (AB.base m))) false),some (.abs (AZ.pack (Pk.table (Aj.nx J4 (Aj.nx Au (AB.now m) [Value.string key]) [Value.string key,Value.string val]))) false),some (.vec CW (List.take (List.length (AB.AG m)) (List.drop 0 (AB.AG m))++[(del,key,val)]) false)])else False))else(bif del then(Aj.ok KF (Aj.nx Au (AB.now m) [Value.string key]) [Value.string key])∧(bif true&&Nat.ble (0+List.length (AB.AG m)) (List.length (AB.AG m))&&BO 40 (List.length (AB.AG m)+1)then(((.pointer (some ⟨9,0,none⟩)):Value)=(.pointer (some ⟨9,0,none⟩)))∧
 (Q (.tuple ⟨[]⟩) [some (.cells [(.int .i64 (List.getD (AB.cfg m) 0 0)),(.int .i64 (List.getD (AB.cfg m) 1 0)),(.int .i64 (List.getD (AB.cfg m) 2 0)),(.int .i64 (List.getD (AB.cfg m) 3 0)),(.int .i64 (List.getD (AB.cfg m) 4 0)),(.int .i64 (List.getD (AB.cfg m) 5 0)),(.int .i64 (List.getD (AB.cfg m) 6 0)),(.int .i64 (AB.AS m)),(.pointer (some ⟨10,0,none⟩)),(.pointer (some ⟨11,0,none⟩)),(.int .i64 (IntKind.wrap .i64 (IntKind.wrap .i64 (AB.cost m - IntKind.wrap .i64 (IntKind.wrap .i64 (16+Int.ofNat (ByteArray.size key))+Int.ofNat (ByteArray.size (Option.getD (DA (AB.now m) key) { data:=#[] }))))+IntKind.wrap .i64 (IntKind.wrap .i64 (16+Int.ofNat (ByteArray.size key))+Int.ofNat (ByteArray.size val))))),(.slice (some ⟨17,0,(some 0)⟩) (List.length (AB.AG m)+1) 18446744073709551616),(.pointer none),(.int .i64 (AB.state m)),(.bool (AB.AK m))] 0 false),some (.abs (AZ.pack (Pk.table (AB.base m))) false),some (.abs (AZ.pack (Pk.table (Aj.nx KF (Aj.nx Au (AB.now m) [Value.string key]) [Value.string key]))) false),some (.vec CW (List.take (List.length (AB.AG m)) (List.drop 0 (AB.AG m))++[(del,key,val)]) false)])else False)else(Aj.ok J4 (Aj.nx Au (AB.now m) [Value.string key]) [Value.string key,Value.string val])∧(bif true&&Nat.ble (0+List.length (AB.AG m)) (List.length (AB.AG m))&&BO 40 (List.length (AB.AG m)+1)then(((.pointer (some ⟨9,0,none⟩)):Value)=(.pointer (some ⟨9,0,none⟩)))∧(Q (.tuple ⟨[]⟩) [some (.cells [(.int .i64 (List.getD (AB.cfg m) 0 0)),(.int .i64 (List.getD (AB.cfg m) 1 0)),(.int .i64 (List.getD (AB.cfg m) 2 0)),(.int .i64 (List.getD (AB.cfg m) 3 0)),(.int .i64 (List.getD (AB.cfg m) 4 0)),(.int .i64 (List.getD (AB.cfg m) 5 0)),(.int .i64 (List.getD (AB.cfg m) 6 0)),(.int .i64 (AB.AS m)),(.pointer (some ⟨10,0,none⟩)),(.pointer (some ⟨11,0,none⟩)),(.int .i64 (IntKind.wrap .i64 (IntKind.wrap .i64 (AB.cost m - IntKind.wrap .i64 (IntKind.wrap .i64 (16+Int.ofNat (ByteArray.size key))+Int.ofNat (ByteArray.size (Option.getD (DA (AB.now m) key) { data:=#[] }))))+IntKind.wrap .i64 (IntKind.wrap .i64 (16+Int.ofNat (ByteArray.size key))+Int.ofNat (ByteArray.size val))))),(.slice (some ⟨17,0,(some 0)⟩) (List.length (AB.AG m)+1) 18446744073709551616),(.pointer none),(.int .i64 (AB.state m)),(.bool (AB.AK m))] 0 false),some (.abs (AZ.pack (Pk.table (AB.base m))) false),some (.abs (AZ.pack (Pk.table (Aj.nx J4 (Aj.nx Au (AB.now m) [Value.string key]) [Value.string key,Value.string val]))) false),some (.vec CW (List.take (List.length (AB.AG m)) (List.drop 0 (AB.AG m))++[(del,key,val)]) false)])else False)))else(((.bool (Option.isSome (DA (AB.now m) key))):Value)=(.bool false))∧(bif del then(bif del then(Aj.ok KF (Aj.nx Au (AB.now m) [Value.string key]) [Value.string key])∧(bif true&&Nat.ble (0+List.length (AB.AG m)) (List.length (AB.AG m))&&BO 40 (List.length (AB.AG m)+1)then(((.pointer (some ⟨9,0,none⟩)):Value)=(.pointer (some ⟨9,0,none⟩)))∧
 (Q (.tuple ⟨[]⟩) [some (.cells [(.int .i64 (List.getD (AB.cfg m) 0 0)),(.int .i64 (List.getD (AB.cfg m) 1 0)),(.int .i64 (List.getD (AB.cfg m) 2 0)),(.int .i64 (List.getD (AB.cfg m) 3 0)),(.int .i64 (List.getD (AB.cfg m) 4 0)),(.int .i64 (List.getD (AB.cfg m) 5 0)),(.int .i64 (List.getD (AB.cfg m) 6 0)),(.int .i64 (AB.AS m)),(.pointer (some ⟨10,0,none⟩)),(.pointer (some ⟨11,0,none⟩)),(.int .i64 (AB.cost m)),(.slice (some ⟨17,0,(some 0)⟩) (List.length (AB.AG m)+1) 18446744073709551616),(.pointer none),(.int .i64 (AB.state m)),(.bool (AB.AK m))] 0 false),some (.abs (AZ.pack (Pk.table (AB.base m))) false),some (.abs (AZ.pack (Pk.table (Aj.nx KF (Aj.nx Au (AB.now m) [Value.string key]) [Value.string key]))) false),some (.vec CW (List.take (List.length (AB.AG m)) (List.drop 0 (AB.AG m))++[(del,key,val)]) false)])else False)else(Aj.ok J4 (Aj.nx Au (AB.now m) [Value.string key]) [Value.string key,Value.string val])∧(bif true&&Nat.ble (0+List.length (AB.AG m)) (List.length (AB.AG m))&&BO 40 (List.length (AB.AG m)+1)then(((.pointer (some ⟨9,0,none⟩)):Value)=(.pointer (some ⟨9,0,none⟩)))∧(Q (.tuple ⟨[]⟩) [some (.cells [(.int .i64 (List.getD (AB.cfg m) 0 0)),(.int .i64 (List.getD (AB.cfg m) 1 0)),(.int .i64 (List.getD (AB.cfg m) 2 0)),(.int .i64 (List.getD (AB.cfg m) 3 0)),(.int .i64 (List.getD (AB.cfg m) 4 0)),(.int .i64 (List.getD (AB.cfg m) 5 0)),(.int .i64 (List.getD (AB.cfg m) 6 0)),(.int .i64 (AB.AS m)),(.pointer (some ⟨10,0,none⟩)),(.pointer (some ⟨11,0,none⟩)),(.int .i64 (AB.cost m)),(.slice (some ⟨17,0,(some 0)⟩) (List.length (AB.AG m)+1) 18446744073709551616),(.pointer none),(.int .i64 (AB.state m)),(.bool (AB.AK m))] 0 false),some (.abs (AZ.pack (Pk.table (AB.base m))) false),some (.abs (AZ.pack (Pk.table (Aj.nx J4 (Aj.nx Au (AB.now m) [Value.string key]) [Value.string key,Value.string val]))) false),some (.vec CW (List.take (List.length (AB.AG m)) (List.drop 0 (AB.AG m))++[(del,key,val)]) false)])else False))else(bif del then(Aj.ok KF (Aj.nx Au (AB.now m) [Value.string key]) [Value.string key])∧(bif true&&Nat.ble (0+List.length (AB.AG m)) (List.length (AB.AG m))&&BO 40 (List.length (AB.AG m)+1)then(((.pointer (some ⟨9,0,none⟩)):Value)=(.pointer (some ⟨9,0,none⟩)))∧(Q (.tuple ⟨[]⟩) [some (.cells [(.int .i64 (List.getD (AB.cfg m) 0 0)),(.int .i64 (List.getD (AB.cfg m) 1 0)),(.int .i64 (List.getD (AB.cfg m) 2 0)),(.int .i64 (List.getD (AB.cfg m) 3 0)),(.int .i64 (List.getD (AB.cfg m) 4 0)),(.int .i64 (List.getD (AB.cfg m) 5 0)),(.int .i64 (List.getD (AB.cfg m) 6 0)),(.int .i64 (AB.AS m)),(.pointer (some ⟨10,0,none⟩)),(.pointer (some ⟨11,0,none⟩)),(.int .i64 (IntKind.wrap .i64 (AB.cost m+IntKind.wrap .i64 (IntKind.wrap .i64 (16+Int.ofNat (ByteArray.size key))+Int.ofNat (ByteArray.size val))))),(.slice (some ⟨17,0,(some 0)⟩) (List.length (AB.AG m)+1) 18446744073709551616),(.pointer none),(.int .i64 (AB.state m)),(.bool (AB.AK m))] 0 false),some (.abs (AZ.pack (Pk.table (AB.base m))) false),some (.abs (AZ.pack (Pk.table (Aj.nx KF (Aj.nx Au (AB.now m) [Value.string key]) [Value.string key]))) false),some (.vec CW (List.take (List.length (AB.AG m)) (List.drop 0 (AB.AG m))++[(del,key,val)]) false)])else False)else(Aj.ok J4 (Aj.nx Au (AB.now m) [Value.string key]) [Value.string key,Value.string val])∧(bif true&&Nat.ble (0+List.length (AB.AG m)) (List.length (AB.AG m))&&BO 40 (List.length (AB.AG m)+1)then(((.pointer (some ⟨9,0,none⟩)):Value)=(.pointer (some ⟨9,0,none⟩)))∧
 (Q (.tuple ⟨[]⟩) [some (.cells [(.int .i64 (List.getD (AB.cfg m) 0 0)),(.int .i64 (List.getD (AB.cfg m) 1 0)),(.int .i64 (List.getD (AB.cfg m) 2 0)),(.int .i64 (List.getD (AB.cfg m) 3 0)),(.int .i64 (List.getD (AB.cfg m) 4 0)),(.int .i64 (List.getD (AB.cfg m) 5 0)),(.int .i64 (List.getD (AB.cfg m) 6 0)),(.int .i64 (AB.AS m)),(.pointer (some ⟨10,0,none⟩)),(.pointer (some ⟨11,0,none⟩)),(.int .i64 (IntKind.wrap .i64 (AB.cost m+IntKind.wrap .i64 (IntKind.wrap .i64 (16+Int.ofNat (ByteArray.size key))+Int.ofNat (ByteArray.size val))))),(.slice (some ⟨17,0,(some 0)⟩) (List.length (AB.AG m)+1) 18446744073709551616),(.pointer none),(.int .i64 (AB.state m)),(.bool (AB.AK m))] 0 false),some (.abs (AZ.pack (Pk.table (AB.base m))) false),some (.abs (AZ.pack (Pk.table (Aj.nx J4 (Aj.nx Au (AB.now m) [Value.string key]) [Value.string key,Value.string val]))) false),some (.vec CW (List.take (List.length (AB.AG m)) (List.drop 0 (AB.AG m))++[(del,key,val)]) false)])else False))))):=by kernel_rfl
end Go.AD

set_option maxRecDepth 1000000
namespace Go.AD
open Go.Proofs
noncomputable def Ae (m:AB) (del:Bool) (key val:ByteArray):AB:=
 { m with cost:=D3 m del key val,now:=bif del then Et m.now key else EY m.now key val,AG:=m.AG++[(del,key,val)] }
theorem ei {n:Nat} (h:n < 1000000):BO 40 (n+1)=true:=by
 unfold BO
 rw[Nat.ble_eq_true_of_le (by omega),Nat.ble_eq_true_of_le (by omega)];rfl
theorem W8 {N:Nat} (m:AB) (del:Bool) (key val:ByteArray) (hs:BE m.now) (hn:m.now.length < 1000000) (hu:m.AG.length < 1000000):As XM N Bk (fun v H=>v= .tuple ⟨[]⟩∧([9,10,11,17]++Af 4 v).map H.get=[some (.cells (BV (Ae m del key val) 10 11 (.slice (some ⟨17,0,some 0⟩) (m.AG.length+1) 18446744073709551616)) 0 false),some (DP m.base),some (DP (Ae m del key val).now),some (.vec CW (m.AG++[(del,key,val)]) false)])
 (st Bk 26 [p9,.agg ⟨[.bool del,.string key,.string val]⟩] (BW ⟨.leaf,9⟩ (Mq m))):=by
 refine B8.Gq (B6 Hs (ids:=[9,10,11,17]) (Q:=fun v os=>v= .tuple ⟨[]⟩∧os=[some (.cells (BV (Ae m del key val) 10 11 (.slice (some ⟨17,0,some 0⟩) (m.AG.length+1) 18446744073709551616)) 0 false),some (DP m.base),some (DP (Ae m del key val).now),some (.vec CW (m.AG++[(del,key,val)]) false)]) 800 _ ?_)
 rw[Zu]
 rw[List.drop_zero,List.take_length]
 have hb:(true&&Nat.ble (0+m.AG.length) m.AG.length&&BO 40 (m.AG.length+1))=true:=by
  rw[ei hu,Nat.ble_eq_true_of_le (by omega)];rfl
 unfold Ae D3
 refine⟨⟨hs,by omega,key,rfl⟩,Az (fun h1=>⟨by rw[h1],?_⟩) (fun h1=>⟨by rw[h1],?_⟩)⟩
 all_goals
  cases del
  ·exact⟨⟨hs,hn,key,val,rfl⟩,AE hb ⟨rfl,rfl,by simp only[h1,cond_true,cond_false]<;>rfl⟩⟩
  ·exact⟨⟨hs,hn,key,rfl⟩,AE hb ⟨rfl,rfl,by simp only[h1,cond_true,cond_false]<;>rfl⟩⟩
end Go.AD

/-
  DERIVED: THE SHELF's CONTRACTS AT THIS DUMP, IN PLAIN WORDS (tools/lay-plain.mjs out of 'AnyShelf.lean', which tools/lay-shelf.mjs wrote): THE SAME DECLARATIONS UNDER THE SAME NAMES: 'import', 'namespace', 'open', 'def', 'theorem' AND NOTHING ELSE: no command of the shelf's: FOR A HAND-IN. Each laying: the table of numbers ('.._ren') and one theorem, a field a fact of the dump's own or the kernel's comparison; each contract: ONE APPLICATION.
-/
namespace Go.Proofs
open Go.Shelf
def Tryz.Oa:Go.Shelf.Ren:=⟨fun | 171=>90 | 243=>99 | 246=>106 | 283=>118 | 284=>119 | 285=>120 | 286=>121 | 129=>131 | 317=>130 | 318=>132 | 319=>133 | 320=>134 | 337=>143 | 338=>144 | n=>n,fun | 3=>3 | 9=>9 | 2=>2 | 4=>4 | 171=>174 | 0=>0 | 53=>175 | 37=>153 | 5=>5 | 173=>178 | 212=>193 | 51=>189 | 20=>20 | 213=>194 | 46=>161 | 232=>209 | 233=>210 | n=>n,fun | 17=>2 | 18=>3 | 19=>4 | n=>n⟩
theorem Tryz.XE:Go.Proofs.LaysM.n171 Tryz.prog Tryz.Oa:={
 mixed:=by kernel_rfl
 f129:=Tryz.func131.trans (congrArg some (by kernel_rfl))
 f171:=Tryz.func90.trans (congrArg some (by kernel_rfl))
 f243:=Tryz.func99.trans (congrArg some (by kernel_rfl))
 f246:=Tryz.func106.trans (congrArg some (by kernel_rfl))
 f283:=Tryz.func118.trans (congrArg some (by kernel_rfl))
 f284:=Tryz.func119.trans (congrArg some (by kernel_rfl))
 f285:=Tryz.func120.trans (congrArg some (by kernel_rfl))
 f286:=Tryz.func121.trans (congrArg some (by kernel_rfl))
 f317:=Tryz.func130.trans (congrArg some (by kernel_rfl))
 f318:=Tryz.func132.trans (congrArg some (by kernel_rfl))
 f319:=Tryz.func133.trans (congrArg some (by kernel_rfl))
 f320:=Tryz.func134.trans (congrArg some (by kernel_rfl))
 f337:=Tryz.func143.trans (congrArg some (by kernel_rfl))
 f338:=Tryz.func144.trans (congrArg some (by kernel_rfl))
 t0:=Tryz.underlying0
 a0:=Tryz.isAgg0
 z0:=Tryz.sizeOf0
 v0:=Tryz.zeroValue0
 t2:=Tryz.underlying2
 a2:=Tryz.isAgg2
 z2:=Tryz.sizeOf2
 v2:=Tryz.zeroValue2
 t3:=Tryz.underlying3
 a3:=Tryz.isAgg3
 z3:=Tryz.sizeOf3
 v3:=Tryz.zeroValue3
 t4:=Tryz.underlying4
 a4:=Tryz.isAgg4
 z4:=Tryz.sizeOf4
 v4:=Tryz.zeroValue4
 t5:=Tryz.underlying5
 a5:=Tryz.isAgg5
 z5:=Tryz.sizeOf5
 v5:=Tryz.zeroValue5
 t9:=Tryz.underlying9
 a9:=Tryz.isAgg9
 z9:=Tryz.sizeOf9
 v9:=Tryz.zeroValue9
 t20:=Tryz.underlying20
 a20:=Tryz.isAgg20
 z20:=Tryz.sizeOf20
 v20:=Tryz.zeroValue20
 t37:=Tryz.underlying153
 a37:=Tryz.isAgg153
 z37:=Tryz.sizeOf153
 v37:=Tryz.zeroValue153
 t46:=Tryz.underlying161
 a46:=Tryz.isAgg161
 z46:=Tryz.sizeOf161
 v46:=Tryz.zeroValue161
 t51:=Tryz.underlying189
 a51:=Tryz.isAgg189
 z51:=Tryz.sizeOf189
 v51:=Tryz.zeroValue189
 t53:=Tryz.underlying175
 a53:=Tryz.isAgg175
 z53:=Tryz.sizeOf175
 v53:=Tryz.zeroValue175
 t171:=Tryz.underlying174
 a171:=Tryz.isAgg174
 z171:=Tryz.sizeOf174
 v171:=Tryz.zeroValue174
 t173:=Tryz.underlying178
 a173:=Tryz.isAgg178
 z173:=Tryz.sizeOf178
 v173:=Tryz.zeroValue178
 t212:=Tryz.underlying193
 a212:=Tryz.isAgg193
 z212:=Tryz.sizeOf193
 v212:=Tryz.zeroValue193
 t213:=Tryz.underlying194
 a213:=Tryz.isAgg194
 z213:=Tryz.sizeOf194
 t232:=Tryz.underlying209
 a232:=Tryz.isAgg209
 z232:=Tryz.sizeOf209
 v232:=Tryz.zeroValue209
 t233:=Tryz.underlying210
 a233:=Tryz.isAgg210
 z233:=Tryz.sizeOf210
 v233:=Tryz.zeroValue210
 g17:=by kernel_rfl
 g18:=by kernel_rfl
 g19:=by kernel_rfl
 i0:=by kernel_rfl
 i2:=by kernel_rfl
 i3:=by kernel_rfl
 i4:=by kernel_rfl
 i5:=by kernel_rfl
 i9:=by kernel_rfl
 i20:=by kernel_rfl
 i37:=by kernel_rfl
 i46:=by kernel_rfl
 i51:=by kernel_rfl
 i53:=by kernel_rfl
 i171:=by kernel_rfl
 i173:=by kernel_rfl
 i212:=by kernel_rfl
 i232:=by kernel_rfl
 i233:=by kernel_rfl
 m17:=by kernel_rfl
 m18:=by kernel_rfl
 m19:=by kernel_rfl }
def Tryz.NA:Go.Shelf.Ren:=⟨fun | 146=>107 | 221=>122 | 268=>135 | 138=>136 | 143=>137 | 195=>145 | 197=>141 | 218=>146 | 219=>103 | 260=>152 | 217=>112 | 225=>113 | 224=>114 | 267=>115 | 266=>128 | 314=>129 | n=>n,fun | 9=>9 | 31=>42 | 3=>3 | 4=>4 | 0=>0 | 105=>199 | 21=>21 | 5=>5 | 46=>161 | 119=>217 | 139=>220 | 138=>219 | 146=>190 | 51=>189 | n=>n,fun | 1=>1 | 3=>7 | 4=>8 | n=>n⟩
theorem Tryz.UX:Go.Proofs.Lays.n146 Tryz.prog Tryz.NA:={
 mixed:=by kernel_rfl
 f138:=Tryz.func136.trans (congrArg some (by kernel_rfl))
 f143:=Tryz.func137.trans (congrArg some (by kernel_rfl))
 f146:=Tryz.func107.trans (congrArg some (by kernel_rfl))
 f195:=Tryz.func145.trans (congrArg some (by kernel_rfl))
 f197:=Tryz.func141.trans (congrArg some (by kernel_rfl))
 f217:=Tryz.func112.trans (congrArg some (by kernel_rfl))
 f218:=Tryz.func146.trans (congrArg some (by kernel_rfl))
 f219:=Tryz.func103.trans (congrArg some (by kernel_rfl))
 f221:=Tryz.func122.trans (congrArg some (by kernel_rfl))
 f224:=Tryz.func114.trans (congrArg some (by kernel_rfl))
 f225:=Tryz.func113.trans (congrArg some (by kernel_rfl))
 f260:=Tryz.func152.trans (congrArg some (by kernel_rfl))
 f266:=Tryz.func128.trans (congrArg some (by kernel_rfl))
 f267:=Tryz.func115.trans (congrArg some (by kernel_rfl))
 f268:=Tryz.func135.trans (congrArg some (by kernel_rfl))
 f314:=Tryz.func129.trans (congrArg some (by kernel_rfl))
 t0:=Tryz.underlying0
 a0:=Tryz.isAgg0
 z0:=Tryz.sizeOf0
 v0:=Tryz.zeroValue0
 t3:=Tryz.underlying3
 a3:=Tryz.isAgg3
 z3:=Tryz.sizeOf3
 v3:=Tryz.zeroValue3
 t4:=Tryz.underlying4
 a4:=Tryz.isAgg4
 z4:=Tryz.sizeOf4
 v4:=Tryz.zeroValue4
 t5:=Tryz.underlying5
 a5:=Tryz.isAgg5
 z5:=Tryz.sizeOf5
 v5:=Tryz.zeroValue5
 t9:=Tryz.underlying9
 a9:=Tryz.isAgg9
 z9:=Tryz.sizeOf9
 v9:=Tryz.zeroValue9
 t21:=Tryz.underlying21
 a21:=Tryz.isAgg21
 z21:=Tryz.sizeOf21
 v21:=Tryz.zeroValue21
 t31:=Tryz.underlying42
 a31:=Tryz.isAgg42
 z31:=Tryz.sizeOf42
 v31:=Tryz.zeroValue42
 t46:=Tryz.underlying161
 a46:=Tryz.isAgg161
 z46:=Tryz.sizeOf161
 v46:=Tryz.zeroValue161
 t51:=Tryz.underlying189
 a51:=Tryz.isAgg189
 z51:=Tryz.sizeOf189
 v51:=Tryz.zeroValue189
 t105:=Tryz.underlying199
 a105:=Tryz.isAgg199
 z105:=Tryz.sizeOf199
 v105:=Tryz.zeroValue199
 t119:=Tryz.underlying217
 a119:=Tryz.isAgg217
 z119:=Tryz.sizeOf217
 t138:=Tryz.underlying219
 a138:=Tryz.isAgg219
 z138:=Tryz.sizeOf219
 v138:=Tryz.zeroValue219
 t139:=Tryz.underlying220
 a139:=Tryz.isAgg220
 z139:=Tryz.sizeOf220
 v139:=Tryz.zeroValue220
 t146:=Tryz.underlying190
 a146:=Tryz.isAgg190
 z146:=Tryz.sizeOf190
 v146:=Tryz.zeroValue190
 g1:=by kernel_rfl
 g3:=by kernel_rfl
 g4:=by kernel_rfl }
def Tryz.Mz:Go.Shelf.Ren:=⟨fun | 143=>137 | 219=>103 | 217=>112 | 225=>113 | 224=>114 | 267=>115 | 266=>128 | 314=>129 | n=>n,fun | 9=>9 | 3=>3 | 4=>4 | 5=>5 | 46=>161 | 146=>190 | 51=>189 | n=>n,fun | 1=>1 | n=>n⟩
theorem Tryz.UQ:Go.Proofs.Lays.n143 Tryz.prog Tryz.Mz:={
 mixed:=by kernel_rfl
 f143:=Tryz.func137.trans (congrArg some (by kernel_rfl))
 f217:=Tryz.func112.trans (congrArg some (by kernel_rfl))
 f219:=Tryz.func103.trans (congrArg some (by kernel_rfl))
 f224:=Tryz.func114.trans (congrArg some (by kernel_rfl))
 f225:=Tryz.func113.trans (congrArg some (by kernel_rfl))
 f266:=Tryz.func128.trans (congrArg some (by kernel_rfl))
 f267:=Tryz.func115.trans (congrArg some (by kernel_rfl))
 f314:=Tryz.func129.trans (congrArg some (by kernel_rfl))
 t3:=Tryz.underlying3
 a3:=Tryz.isAgg3
 z3:=Tryz.sizeOf3
 v3:=Tryz.zeroValue3
 t4:=Tryz.underlying4
 a4:=Tryz.isAgg4
 z4:=Tryz.sizeOf4
 v4:=Tryz.zeroValue4
 t5:=Tryz.underlying5
 a5:=Tryz.isAgg5
 z5:=Tryz.sizeOf5
 v5:=Tryz.zeroValue5
 t9:=Tryz.underlying9
 a9:=Tryz.isAgg9
 z9:=Tryz.sizeOf9
 v9:=Tryz.zeroValue9
 t46:=Tryz.underlying161
 a46:=Tryz.isAgg161
 z46:=Tryz.sizeOf161
 v46:=Tryz.zeroValue161
 t51:=Tryz.underlying189
 a51:=Tryz.isAgg189
 z51:=Tryz.sizeOf189
 v51:=Tryz.zeroValue189
 t146:=Tryz.underlying190
 a146:=Tryz.isAgg190
 z146:=Tryz.sizeOf190
 v146:=Tryz.zeroValue190
 g1:=by kernel_rfl }
def Tryz.OD:Go.Shelf.Ren:=⟨fun | 172=>123 | 244=>138 | 245=>139 | 247=>147 | 279=>148 | 280=>149 | 281=>150 | 282=>151 | 287=>153 | 316=>154 | 171=>90 | 205=>155 | 321=>156 | 322=>157 | 243=>99 | 246=>106 | 283=>118 | 284=>119 | 285=>120 | 286=>121 | 129=>131 | 317=>130 | 318=>132 | 319=>133 | 320=>134 | 337=>143 | 338=>144 | n=>n,fun | 9=>9 | 3=>3 | 75=>182 | 76=>183 | 4=>4 | 5=>5 | 167=>203 | 37=>153 | 0=>0 | 85=>204 | 2=>2 | 168=>206 | 53=>175 | 175=>211 | 46=>161 | 210=>215 | 127=>222 | 145=>225 | 143=>223 | 21=>21 | 171=>174 | 173=>178 | 212=>193 | 51=>189 | 20=>20 | 213=>194 | 232=>209 | 233=>210 | 80=>226 | n=>n,fun | 15=>5 | 16=>6 | 17=>2 | 18=>3 | 19=>4 | n=>n⟩
theorem Tryz.WE:Go.Proofs.LaysC.n172 Tryz.prog Tryz.OD:={
 mixed:=by kernel_rfl
 f129:=Tryz.func131.trans (congrArg some (by kernel_rfl))
 f171:=Tryz.func90.trans (congrArg some (by kernel_rfl))
 f172:=Tryz.func123.trans (congrArg some (by kernel_rfl))
 f205:=Tryz.func155.trans (congrArg some (by kernel_rfl))
 f243:=Tryz.func99.trans (congrArg some (by kernel_rfl))
 f244:=Tryz.func138.trans (congrArg some (by kernel_rfl))
 f245:=Tryz.func139.trans (congrArg some (by kernel_rfl))
 f246:=Tryz.func106.trans (congrArg some (by kernel_rfl))
 f247:=Tryz.func147.trans (congrArg some (by kernel_rfl))
 f279:=Tryz.func148.trans (congrArg some (by kernel_rfl))
 f280:=Tryz.func149.trans (congrArg some (by kernel_rfl))
 f281:=Tryz.func150.trans (congrArg some (by kernel_rfl))
 f282:=Tryz.func151.trans (congrArg some (by kernel_rfl))
 f283:=Tryz.func118.trans (congrArg some (by kernel_rfl))
 f284:=Tryz.func119.trans (congrArg some (by kernel_rfl))
 f285:=Tryz.func120.trans (congrArg some (by kernel_rfl))
 f286:=Tryz.func121.trans (congrArg some (by kernel_rfl))
 f287:=Tryz.func153.trans (congrArg some (by kernel_rfl))
 f316:=Tryz.func154.trans (congrArg some (by kernel_rfl))
 f317:=Tryz.func130.trans (congrArg some (by kernel_rfl))
 f318:=Tryz.func132.trans (congrArg some (by kernel_rfl))
 f319:=Tryz.func133.trans (congrArg some (by kernel_rfl))
 f320:=Tryz.func134.trans (congrArg some (by kernel_rfl))
 f321:=Tryz.func156.trans (congrArg some (by kernel_rfl))
 f322:=Tryz.func157.trans (congrArg some (by kernel_rfl))
 f337:=Tryz.func143.trans (congrArg some (by kernel_rfl))
 f338:=Tryz.func144.trans (congrArg some (by kernel_rfl))
 t0:=Tryz.underlying0
 a0:=Tryz.isAgg0
 z0:=Tryz.sizeOf0
 v0:=Tryz.zeroValue0
 t2:=Tryz.underlying2
 a2:=Tryz.isAgg2
 z2:=Tryz.sizeOf2
 v2:=Tryz.zeroValue2
 t3:=Tryz.underlying3
 a3:=Tryz.isAgg3
 z3:=Tryz.sizeOf3
 v3:=Tryz.zeroValue3
 t4:=Tryz.underlying4
 a4:=Tryz.isAgg4
 z4:=Tryz.sizeOf4
 v4:=Tryz.zeroValue4
 t5:=Tryz.underlying5
 a5:=Tryz.isAgg5
 z5:=Tryz.sizeOf5
 v5:=Tryz.zeroValue5
 t9:=Tryz.underlying9
 a9:=Tryz.isAgg9
 z9:=Tryz.sizeOf9
 v9:=Tryz.zeroValue9
 t20:=Tryz.underlying20
 a20:=Tryz.isAgg20
 z20:=Tryz.sizeOf20
 v20:=Tryz.zeroValue20
 t21:=Tryz.underlying21
 a21:=Tryz.isAgg21
 z21:=Tryz.sizeOf21
 v21:=Tryz.zeroValue21
 t37:=Tryz.underlying153
 a37:=Tryz.isAgg153
 z37:=Tryz.sizeOf153
 v37:=Tryz.zeroValue153
 t46:=Tryz.underlying161
 a46:=Tryz.isAgg161
 z46:=Tryz.sizeOf161
 v46:=Tryz.zeroValue161
 t51:=Tryz.underlying189
 a51:=Tryz.isAgg189
 z51:=Tryz.sizeOf189
 v51:=Tryz.zeroValue189
 t53:=Tryz.underlying175
 a53:=Tryz.isAgg175
 z53:=Tryz.sizeOf175
 v53:=Tryz.zeroValue175
 t75:=Tryz.underlying182
 a75:=Tryz.isAgg182
 z75:=Tryz.sizeOf182
 v75:=Tryz.zeroValue182
 t76:=Tryz.underlying183
 a76:=Tryz.isAgg183
 z76:=Tryz.sizeOf183
 v76:=Tryz.zeroValue183
 t85:=Tryz.underlying204
 a85:=Tryz.isAgg204
 z85:=Tryz.sizeOf204
 v85:=Tryz.zeroValue204
 t127:=Tryz.underlying222
 a127:=Tryz.isAgg222
 z127:=Tryz.sizeOf222
 v127:=Tryz.zeroValue222
 t143:=Tryz.underlying223
 a143:=Tryz.isAgg223
 z143:=Tryz.sizeOf223
 v143:=Tryz.zeroValue223
 t145:=Tryz.underlying225
 a145:=Tryz.isAgg225
 z145:=Tryz.sizeOf225
 v145:=Tryz.zeroValue225
 t167:=Tryz.underlying203
 a167:=Tryz.isAgg203
 z167:=Tryz.sizeOf203
 v167:=Tryz.zeroValue203
 t168:=Tryz.underlying206
 a168:=Tryz.isAgg206
 z168:=Tryz.sizeOf206
 v168:=Tryz.zeroValue206
 t171:=Tryz.underlying174
 a171:=Tryz.isAgg174
 z171:=Tryz.sizeOf174
 v171:=Tryz.zeroValue174
 t173:=Tryz.underlying178
 a173:=Tryz.isAgg178
 z173:=Tryz.sizeOf178
 v173:=Tryz.zeroValue178
 t175:=Tryz.underlying211
 a175:=Tryz.isAgg211
 z175:=Tryz.sizeOf211
 v175:=Tryz.zeroValue211
 t210:=Tryz.underlying215
 a210:=Tryz.isAgg215
 z210:=Tryz.sizeOf215
 v210:=Tryz.zeroValue215
 t212:=Tryz.underlying193
 a212:=Tryz.isAgg193
 z212:=Tryz.sizeOf193
 v212:=Tryz.zeroValue193
 t213:=Tryz.underlying194
 a213:=Tryz.isAgg194
 z213:=Tryz.sizeOf194
 t232:=Tryz.underlying209
 a232:=Tryz.isAgg209
 z232:=Tryz.sizeOf209
 v232:=Tryz.zeroValue209
 t233:=Tryz.underlying210
 a233:=Tryz.isAgg210
 z233:=Tryz.sizeOf210
 v233:=Tryz.zeroValue210
 g15:=by kernel_rfl
 g16:=by kernel_rfl
 g17:=by kernel_rfl
 g18:=by kernel_rfl
 g19:=by kernel_rfl
 t80:=Tryz.underlying226
 a80:=Tryz.isAgg226
 z80:=Tryz.sizeOf226
 v80:=Tryz.zeroValue226
 i0:=by kernel_rfl
 i2:=by kernel_rfl
 i3:=by kernel_rfl
 i4:=by kernel_rfl
 i5:=by kernel_rfl
 i9:=by kernel_rfl
 i20:=by kernel_rfl
 i21:=by kernel_rfl
 i37:=by kernel_rfl
 i46:=by kernel_rfl
 i51:=by kernel_rfl
 i53:=by kernel_rfl
 i75:=by kernel_rfl
 i76:=by kernel_rfl
 i80:=by kernel_rfl
 i85:=by kernel_rfl
 i127:=by kernel_rfl
 i143:=by kernel_rfl
 i145:=by kernel_rfl
 i167:=by kernel_rfl
 i168:=by kernel_rfl
 i171:=by kernel_rfl
 i173:=by kernel_rfl
 i175:=by kernel_rfl
 i210:=by kernel_rfl
 i212:=by kernel_rfl
 i232:=by kernel_rfl
 i233:=by kernel_rfl
 m15:=by kernel_rfl
 m16:=by kernel_rfl
 m17:=by kernel_rfl
 m18:=by kernel_rfl
 m19:=by kernel_rfl
 c0:=by kernel_rfl
 c2:=by kernel_rfl
 c3:=by kernel_rfl
 c4:=by kernel_rfl
 c5:=by kernel_rfl
 c9:=by kernel_rfl
 c20:=by kernel_rfl
 c21:=by kernel_rfl
 c37:=by kernel_rfl
 c46:=by kernel_rfl
 c51:=by kernel_rfl
 c53:=by kernel_rfl
 c75:=by kernel_rfl
 c76:=by kernel_rfl
 c80:=by kernel_rfl
 c85:=by kernel_rfl
 c127:=by kernel_rfl
 c143:=by kernel_rfl
 c145:=by kernel_rfl
 c167:=by kernel_rfl
 c168:=by kernel_rfl
 c171:=by kernel_rfl
 c173:=by kernel_rfl
 c175:=by kernel_rfl
 c210:=by kernel_rfl
 c212:=by kernel_rfl
 c213:=by kernel_rfl
 c232:=by kernel_rfl
 c233:=by kernel_rfl }
def Tryz.N7:Go.Shelf.Ren:=⟨fun | 137=>116 | 217=>112 | 266=>128 | n=>n,fun | 9=>9 | 5=>5 | 3=>3 | n=>n,fun | n=>n⟩
theorem Tryz.Xg:Go.Proofs.Lays.n137 Tryz.prog Tryz.N7:={
 mixed:=by kernel_rfl
 f137:=Tryz.func116.trans (congrArg some (by kernel_rfl))
 f217:=Tryz.func112.trans (congrArg some (by kernel_rfl))
 f266:=Tryz.func128.trans (congrArg some (by kernel_rfl))
 t3:=Tryz.underlying3
 a3:=Tryz.isAgg3
 z3:=Tryz.sizeOf3
 v3:=Tryz.zeroValue3
 t5:=Tryz.underlying5
 a5:=Tryz.isAgg5
 z5:=Tryz.sizeOf5
 v5:=Tryz.zeroValue5
 t9:=Tryz.underlying9
 a9:=Tryz.isAgg9
 z9:=Tryz.sizeOf9
 v9:=Tryz.zeroValue9 }
end Go.Proofs

set_option maxRecDepth 1000000
namespace Go.AD
open Go.Proofs
noncomputable abbrev CE:List (Nat × List Value):=AL
noncomputable def J2:AA:=⟨.leaf,20⟩
end Go.AD

set_option maxRecDepth 1000000
namespace Go.AD
open Go.Proofs
noncomputable def Tg (s:ByteArray) (out b:List (EK.C Gg)) (sv bv:Value) (n i:Int):Ay:=
 ⟨⟨Eu,Ib [(3,sv),(10,bv),(11,.int .i64 n),(12,.int .i64 i)],28,[.code (Bb Tryz.prog Eu [1,1,0,1,0,0]),.inLoop (Bb Tryz.prog Eu [1,1,0,1,0,0]),.inBlock 0,.code (Bb Tryz.prog Eu [1,1,1])],[],false,.normal,none⟩,
  [⟨Bz,Ib [(0,.string s),(2,.string ⟨#[]⟩),(3,.int .i64 0),(4,.int .i64 0),(5,.string s),(6,.int .i64 0),(7,.int .i64 0),(8,.bool false),(10,.string s),(11,.bool false),(12,.string s),(13,bv)],15,[KU (Bb Tryz.prog Bz [1,1,1,0]) 2,.code .ret],[],false,.normal,none⟩],
  O4 (O4 J2 false [⟨Gg,out⟩]) false [⟨Gg,b⟩]⟩
def X1:Stop:=⟨Eu,1,3,20,[],[3,10,11,12]⟩
theorem Z9 (s:ByteArray) (Q:Value→List (Option AJ)→Prop) (R:Ay→Prop):JI X0 Cv Bz [] X1 Q R 2000 (st Bz 15 [.string s] J2)=(
 (bif decide (Int.ofNat (ByteArray.size s) > 512)then(Q (.tuple ⟨[(.string ({ data:=#[] })),(.int .i64 12)]⟩) [])else(bif ByteArray.toList s==ByteArray.toList { data:=#[] } then(Q (.tuple ⟨[(.string ({ data:=#[45] })),(.int .i64 0)]⟩) [])else(bif decide (0≤IntKind.wrap .i64 (2 * Int.ofNat (ByteArray.size s)))&&decide (IntKind.wrap .i64 (2 * Int.ofNat (ByteArray.size s))≤140737488355328)then(R (Tg s [] (By s) (.slice (some ⟨20,0,(some 0)⟩) 0 18446744073709551616) (.slice (some ⟨21,0,(some 0)⟩) (ByteArray.size s) 18446744073709551616) (Int.ofNat (ByteArray.size s)) 0))else False)))):=by kernel_rfl
theorem Sk (s:ByteArray) (out b:List (EK.C Gg)) (m:Nat) (bn:Nat) (n i:Int) (Q:Value→List (Option AJ)→Prop) (R:Ay→Prop):JI X0 Cv Bz [] X1 Q R 2000 (Tg s out b (.slice (some ⟨20,0,some 0⟩) m AF) (.slice (some ⟨21,0,some 0⟩) bn AF) n i)=(
 (bif decide (i < n)then(bif decide (0≤i)&&Nat.blt (Int.toNat i) bn then(bif Nat.blt (0+Int.toNat i) (List.length b)then(bif decide (0≤Int.fdiv (List.getD b (0+Int.toNat i) (EK.AQ Gg)) (2 ^ min 4 (IntKind.bits IntKind.u8)))&&Nat.blt (Int.toNat (Int.fdiv (List.getD b (0+Int.toNat i) (EK.AQ Gg)) (2 ^ min 4 (IntKind.bits IntKind.u8)))) (ByteArray.size { data:=#[48,49,50,51,52,53,54,55,56,57,97,98,99,100,101,102] })then(bif decide (0≤IntKind.wrap IntKind.u8 ↑(BitVec.toNat (BitVec.ofInt (IntKind.bits IntKind.u8) (List.getD b (0+Int.toNat i) (EK.AQ Gg)) &&& BitVec.ofInt (IntKind.bits IntKind.u8) 15)))&&Nat.blt (Int.toNat (IntKind.wrap IntKind.u8 ↑(BitVec.toNat (BitVec.ofInt (IntKind.bits IntKind.u8) (List.getD b (0+Int.toNat i) (EK.AQ Gg)) &&& BitVec.ofInt (IntKind.bits IntKind.u8) 15)))) (ByteArray.size { data:=#[48,49,50,51,52,53,54,55,56,57,97,98,99,100,101,102] })then(bif true&&Nat.ble (0+m) (List.length out)&&BO 1 (m+2)then(R (Tg s (List.take m (List.drop 0 out)++[A9 { data:=#[48,49,50,51,52,53,54,55,56,57,97,98,99,100,101,102] } (Int.toNat (Int.fdiv (List.getD b (0+Int.toNat i) (EK.AQ Gg)) (2 ^ min 4 (IntKind.bits IntKind.u8)))),A9 { data:=#[48,49,50,51,52,53,54,55,56,57,97,98,99,100,101,102] } (Int.toNat (IntKind.wrap IntKind.u8 ↑(BitVec.toNat (BitVec.ofInt (IntKind.bits IntKind.u8) (List.getD b (0+Int.toNat i) (EK.AQ Gg)) &&& BitVec.ofInt (IntKind.bits IntKind.u8) 15))))]) b (.slice (some ⟨20,0,(some 0)⟩) (m+2) 18446744073709551616) (.slice (some ⟨21,0,(some 0)⟩) bn 18446744073709551616) n (IntKind.wrap .i64 (i+1))))else False)else False)else False)else False)else False)else(bif Nat.ble (0+m) (List.length out)then(Q (.tuple ⟨[(.string (KD (List.take m (List.drop 0 out)))),(.int .i64 0)]⟩) [])else False))):=by kernel_rfl
end Go.AD

set_option maxRecDepth 100000
namespace Go.AD
abbrev Mr:ByteArray:={ data:=#[48,49,50,51,52,53,54,55,56,57,97,98,99,100,101,102] }
def EB (x:Int):List Int:=[A9 Mr (Int.toNat (Int.tdiv x 16)),A9 Mr (Int.toNat (Int.tmod x 16))]
def HT (l:List Int):List Int:=l.flatMap EB
def da (x:Int):Prop:=0≤x∧x < 256
theorem L0 {p:Int→Prop} [∀x,Decidable (p x)] (h:(∀n:_root_.Fin 256,p (n.1:Int))) {x:Int} (hx:da x):p x:=by
 obtain⟨h0,h1⟩:=hx
 have:=h ⟨x.toNat,by omega⟩
 rwa [show((x.toNat:Nat):Int)=x by omega]at this
theorem Tp {x:Int} (hx:da x):[A9 Mr (Int.toNat (Int.fdiv x (2 ^ min 4 (IntKind.bits IntKind.u8)))),A9 Mr (Int.toNat (IntKind.wrap IntKind.u8 ↑(BitVec.toNat (BitVec.ofInt (IntKind.bits IntKind.u8) x &&& BitVec.ofInt (IntKind.bits IntKind.u8) 15))))]=EB x:=
 L0 (p:=fun x=>[A9 Mr (Int.toNat (Int.fdiv x (2 ^ min 4 (IntKind.bits IntKind.u8)))),A9 Mr (Int.toNat (IntKind.wrap IntKind.u8 ↑(BitVec.toNat (BitVec.ofInt (IntKind.bits IntKind.u8) x &&& BitVec.ofInt (IntKind.bits IntKind.u8) 15))))]=EB x) (by decide +kernel) hx
theorem X7 {x:Int} (hx:da x):(decide (0≤Int.fdiv x (2 ^ min 4 (IntKind.bits IntKind.u8)))&&Nat.blt (Int.toNat (Int.fdiv x (2 ^ min 4 (IntKind.bits IntKind.u8)))) (ByteArray.size Mr))=true:=
 L0 (p:=fun x=>(decide (0≤Int.fdiv x (2 ^ min 4 (IntKind.bits IntKind.u8)))&&Nat.blt (Int.toNat (Int.fdiv x (2 ^ min 4 (IntKind.bits IntKind.u8)))) (ByteArray.size Mr))=true) (by decide +kernel) hx
theorem ZZ {x:Int} (hx:da x):(decide (0≤IntKind.wrap IntKind.u8 ↑(BitVec.toNat (BitVec.ofInt (IntKind.bits IntKind.u8) x &&& BitVec.ofInt (IntKind.bits IntKind.u8) 15)))&&Nat.blt (Int.toNat (IntKind.wrap IntKind.u8 ↑(BitVec.toNat (BitVec.ofInt (IntKind.bits IntKind.u8) x &&& BitVec.ofInt (IntKind.bits IntKind.u8) 15)))) (ByteArray.size Mr))=true:=
 L0 (p:=fun x=>(decide (0≤IntKind.wrap IntKind.u8 ↑(BitVec.toNat (BitVec.ofInt (IntKind.bits IntKind.u8) x &&& BitVec.ofInt (IntKind.bits IntKind.u8) 15)))&&Nat.blt (Int.toNat (IntKind.wrap IntKind.u8 ↑(BitVec.toNat (BitVec.ofInt (IntKind.bits IntKind.u8) x &&& BitVec.ofInt (IntKind.bits IntKind.u8) 15)))) (ByteArray.size Mr))=true) (by decide +kernel) hx
theorem XJ (s:ByteArray) (i:Nat):da (A9 s i):=by
 unfold A9 da
 have:=(s.data.toList.getD i 0).toNat_lt
 omega
theorem Jh (s:ByteArray) (i:Nat) (h:i < s.size):List.getD (By s) i 0=A9 s i:=by
 unfold By A9
 have:i < s.data.toList.length:=by simpa using h
 rw[List.getD_eq_getElem?_getD,List.getD_eq_getElem?_getD,List.getElem?_map,List.getElem?_eq_getElem this]
 rfl
theorem G8:∀l:List Int,(HT l).length=2 * l.length
 | []=>rfl
 | x::l=>by
  have:=G8 l
  unfold HT at this ⊢
  rw[List.flatMap_cons,List.length_append,this]
  simp[EB];omega
theorem SU (s:ByteArray) (i:Nat) (h:i < s.size):HT ((By s).take (i+1))=HT ((By s).take i)++EB (A9 s i):=by
 have hl:i < (By s).length:=by rw[Cs];exact h
 rw[List.take_succ_eq_append_getElem hl]
 unfold HT
 rw[List.flatMap_append,List.flatMap_singleton]
 have:=Jh s i h
 rw[List.getD_eq_getElem?_getD,List.getElem?_eq_getElem hl]at this
 rw[←this];rfl
noncomputable def Ms (s:ByteArray):ByteArray:=if s.size > 512 then⟨#[]⟩else if s.size=0 then⟨#[45]⟩else KD (HT (By s))
def FN (s:ByteArray):Int:=if s.size > 512 then 12 else 0
noncomputable def Mk (s:ByteArray):Value:= .tuple ⟨[.string (Ms s),.int .i64 (FN s)]⟩
end Go.AD

set_option maxRecDepth 1000000
namespace Go.AD
open Go.Proofs
theorem Oh:AF=18446744073709551616:=by kernel_rfl
theorem Xf {m:Nat} (h:m≤2000000):BO 1 m=true:=by
 unfold BO
 rw[Bool.and_eq_true]
 exact⟨Nat.ble_eq_true_of_le (by omega),Nat.ble_eq_true_of_le (by omega)⟩
theorem ed {i n:Nat} (h:i < n):(decide ((0:Int)≤(i:Int))&&Nat.blt (Int.toNat (i:Int)) n)=true:=by
 rw[Int.toNat_natCast,show Nat.blt i n=true from Nat.ble_eq_true_of_le h];simp
theorem cW {i n:Nat} (h:i < n):Nat.blt (0+Int.toNat (i:Int)) n=true:=by
 rw[Int.toNat_natCast,Nat.zero_add];exact Nat.ble_eq_true_of_le h
noncomputable def R1 (s:ByteArray):Value:= .tuple ⟨[.string (KD (HT (By s))),.int .i64 0]⟩
theorem T7 {s:ByteArray} (h:s.size > 512):Mk s= .tuple ⟨[.string ⟨#[]⟩,.int .i64 12]⟩:=by
 unfold Mk Ms FN
 rw[if_pos h,if_pos h]
theorem VZ {s:ByteArray} (h:s.size=0):Mk s= .tuple ⟨[.string ⟨#[45]⟩,.int .i64 0]⟩:=by
 unfold Mk Ms FN
 rw[if_neg (by omega),if_pos h,if_neg (by omega)]
theorem Vt {s:ByteArray} (h:s.size≤512) (h2:s.size≠0):Mk s=R1 s:=by
 unfold Mk Ms FN R1
 rw[if_neg (by omega),if_neg h2,if_neg (by omega)]
theorem U1 {s:ByteArray} {i:Nat} (h:s.size≤i):(By s).take i=By s:=List.take_of_length_le (by rw[Cs];exact h)
theorem LF {s:ByteArray} {i:Nat} (h:i≤s.size):(HT ((By s).take i)).length=2 * i:=by
 rw[G8,List.length_take,Cs,Nat.min_eq_left h]
theorem Wr (s:ByteArray) (hs:s.size≤512):∀(m i:Nat),s.size - i=m→i≤s.size→
 As X0 20 Bz (fun v _=>v=R1 s) (Tg s (HT ((By s).take i)) (By s) (.slice (some ⟨20,0,some 0⟩) (2 * i) AF) (.slice (some ⟨21,0,some 0⟩) s.size AF) s.size i):=by
 intro m
 induction m with
 | zero=>
  intro i hm hi
  refine Bd (Av X0) (ids:=[]) (S:=X1) rfl (Q:=fun v _=>v=R1 s) (R:=fun _=>False) (fun v H h=>h) (fun c h=>h.elim) 2000 _ ?_
  rw[Sk]
  refine AT (fun h=>?_) (fun _=>?_)
  ·exfalso;have:(i:Int) < s.size:=h;omega
  refine AE (by rw[LF hi,Nat.zero_add];exact Nat.ble_eq_true_of_le (Nat.le_refl _)) ?_
  show Value.tuple _=R1 s
  unfold R1
  rw[List.drop_zero,List.take_of_length_le (by rw[LF hi];exact Nat.le_refl _),U1 (by omega)]
 | succ m ih=>
  intro i hm hi
  have hlt:i < s.size:=by omega
  refine Bd (Av X0) (ids:=[]) (S:=X1) rfl (Q:=fun v _=>v=R1 s)
   (R:=fun c=>c=Tg s (HT ((By s).take (i+1))) (By s) (.slice (some ⟨20,0,some 0⟩) (2 * (i+1)) AF) (.slice (some ⟨21,0,some 0⟩) s.size AF) s.size (i+1:Nat)) (fun v H h=>h) (fun c h=>by rw[h];exact ih (i+1) (by omega) (by omega)) 2000 _ ?_
  rw[Sk]
  refine AT (fun _=>?_) (fun h=>absurd (show(i:Int) < (s.size:Int) by omega) h)
  have hg:List.getD (By s) (0+Int.toNat (i:Int)) (EK.AQ Gg)=A9 s i:=by
   rw[Int.toNat_natCast,Nat.zero_add];exact Jh s i hlt
  rw[hg]
  have hin:=XJ s i
  refine AE (ed hlt) (AE (cW (by rw[Cs];exact hlt)) (AE (X7 hin) (AE (ZZ hin) (AE ?_ ?_))))
  ·rw[Xf (by omega),LF hi,Nat.zero_add,show Nat.ble (2 * i) (2 * i)=true from Nat.ble_eq_true_of_le (Nat.le_refl _)];rfl
  ·rw[SU s i hlt,List.drop_zero,List.take_of_length_le (by rw[LF hi];exact Nat.le_refl _),Tp hin,wrap64 (by omega) (by omega),show 2 * (i+1)=2 * i+2 by omega,show((i+1:Nat):Int)=(i:Int)+1 by omega,Oh]
theorem Td {s:ByteArray}:(ByteArray.toList s==ByteArray.toList { data:=#[] })=decide (s.size=0):=by
 rw[ByteArray.toList_eq,ByteArray.toList_eq]
 rcases s with⟨⟨l⟩⟩
 cases l<;>rfl
theorem W9 (s:ByteArray):As X0 20 Bz (fun v _=>v=Mk s) (st Bz 15 [.string s] J2):=by
 refine Bd (Av X0) (ids:=[]) (S:=X1) rfl (Q:=fun v _=>v=Mk s)
  (R:=fun c=>s.size≤512∧s.size≠0∧c=Tg s [] (By s) (.slice (some ⟨20,0,some 0⟩) 0 AF) (.slice (some ⟨21,0,some 0⟩) s.size AF) s.size 0) (fun v H h=>h) (fun c h=>?_) 2000 _ ?_
 ·obtain⟨h1,h2,rfl⟩:=h
  refine As.mono (Wr s h1 s.size 0 (by omega) (by omega)) fun v H h=>?_
  rw[h,Vt h1 h2]
 rw[Z9]
 refine AT (fun h=>?_) (fun h=>?_)
 ·exact(T7 (by have:(s.size:Int) > 512:=h;omega)).symm
 have h1:s.size≤512:=by have:¬(s.size:Int) > 512:=h;omega
 rw[Td]
 refine AT (fun h=>(VZ h).symm) (fun h=>?_)
 rw[show Int.ofNat s.size=(s.size:Int)from rfl,wrap64 (by omega) (by omega)]
 refine AE (by simp;omega) ⟨h1,h,?_⟩
 rw[Oh]
theorem Da.sub {P:Program} {laid:List (Nat × List Value)} {f:FuncId} {F G:Cn} (h:Da P laid f G) (hs:∀args H r,F args H=some r→G args H=some r):Da P laid f F:=
 ⟨h.1,fun base W0 μ H W args args' v H' hW hH hl ha hF=>h.2 base W0 μ H W args args' v H' hW hH hl ha (hs _ _ _ hF)⟩
noncomputable def bu (args:List Value) (objs:List AJ):GT:=match args,objs with
 | [.string s],[]=> .ret ⟨Mk s,[],[]⟩
 | _,_=> .fail
noncomputable def T8:Cn:=fun args H=>match args with
 | [.string s]=>some (Mk s,H)
 | _=>none
theorem Wu (args:List Value) (H:AA) (r:Value × AA) (h:T8 args H=some r):A3 CE 20 [] bu args H=some r:=by
 unfold T8 at h
 split at h
 ·rename_i s
  cases h
  rfl
 ·cases h
theorem Xi {f:FuncId} {n:Nat} (he:entry Tryz.prog f=some (n,Bb Tryz.prog f [])) (hn:1≤n) (hE:∀s,As X0 20 f (fun v _=>v=Mk s) (st f n [.string s] J2)):Da Tryz.prog CE f T8:=
 Da.sub (LR (fs:=[]) (Aw.nil _ _) (by kernel_rfl) (n:=n) (N:=20) (muts:=[]) (G:=bu) he rfl fun argsc objs x hx _=>by
  unfold bu at hx
  split at hx
  ·rename_i s _
   simp only[GT.run]at hx
   cases hx
   refine⟨by simpa using hn,As.mono (hE s) fun v H h=>?_⟩
   subst h
   exact E9 (by rfl)
  ·cases hx) Wu
theorem aM:Da Tryz.prog CE Bz T8:=Xi (n:=15) (by kernel_rfl) (by omega) W9
end Go.AD

set_option maxRecDepth 1000000
namespace Go.AD
open Go.Proofs
structure Co where
 ok:List Value→Prop
 v:List Value→Value
open Classical in
noncomputable def Co.F (q:Co):Cn:=fun args H=>if q.ok args then some (q.v args,H)else none
noncomputable def Co.p (q:Co):FJ:=fun args H K=>q.ok args∧K (q.v args) H
theorem Co.Vf {q:Co} {X:Ctx} {f:FuncId} (hX:X.FL f=some q.F) (args:List Value) (H:AA) (K:Value→AA→Prop) (h:q.p args H K):∃v H',Bp X f args .normal H=some (v,H')∧K v H':=by
 refine⟨q.v args,H,?_,h.2⟩
 unfold Bp
 simp only[hX]
 unfold Co.F
 exact if_pos h.1
theorem HA {f:FuncId} {n:Nat} (he:entry Tryz.prog f=some (n,Bb Tryz.prog f [])) {q:Co}
 (hF:∀args,q.ok args→args.all flat=true∧args.length≤n∧flat (q.v args)=true∧∃fs,Aw Tryz.prog CE fs∧As (Cp Tryz.prog CE fs) 20 f (fun v' _=>v'=q.v args) (st f n args J2)):Da Tryz.prog CE f q.F:=by
 refine⟨⟨n,_,he⟩,?_⟩
 intro base W0 μ H W args args' v H' hW hH hl ha hFv
 unfold Co.F at hFv
 split at hFv
 ·rename_i hq
  cases hFv
  obtain⟨h1,h2,h3,fs,hfs,h4⟩:=hF args hq
  have hW1:DR (Cp Tryz.prog CE fs) (base.at W) W:=by
   have:=hW.carry hH
   unfold DR at this ⊢
   exact this
  obtain⟨s1,s2⟩:=OI (X:=Cp Tryz.prog CE fs) hW1 (none_le _) (fun _ hi=>hi) (n:=20) (OU (by kernel_rfl))
  have s3:=s1.sub (H':=J2) (fun b o e=>by cases e) (Iv _ _).symm
  have hargs:args'.toList=args:=EJ args _ h1 ha
  intro cs
  obtain⟨c',⟨v2,Hf,hd,rfl⟩,μ1,fr1,cs1,W1,st,m1⟩:=h4 (base.at W) W (fun b T hb=>by cases hb) (hfs.FL _ _ hW1) (FY (by kernel_rfl) rfl) cs _ _ [] W (Gr s3 s2 he (by rw[hargs];exact Ek args h1) h2)
  obtain⟨rfl,hf,v',e1,e2,e3⟩:=Hn m1 hd
  have hs':Steps (Cp Tryz.prog CE fs).P (lone (Frame.enter (Cp Tryz.prog CE fs).P f args' .normal) cs W) (lone fr1 cs W1):=by simpa using st
  refine⟨.returned v',W1,fr1,⟨v',μ,rfl,hH.carry (HO e2) e2.below e2.out e2.os,?_,Ac.refl _ _⟩,hs',hf,e1⟩
  rw[FU h3 e3];exact Cc h3
 ·cases hFv
end Go.AD

namespace Go.AD
end Go.AD

namespace Go.AD
open Go.Proofs Go.Shelf Go.RowKit
theorem Nf {P:Program} {laid:List (Nat × List Value)} {f:FuncId} (he:∃n c,entry P f=some (n,c)) {F:List Value→Option Value}
 (h:∀args v,F args=some v→args.all flat=true∧flat v=true∧∀w,Calls P f args.toArray w fun e w'=>e= .returned v∧Below w.heap.size w w'):
 Da P laid f (fun args H=>match F args with | some v=>some (v,H) | none=>none):=by
 refine⟨he,?_⟩
 intro base W0 μ H W args args' v H' _ hH _ ha hFv
 have hFv:F args=some v∧H'=H:=by
  simp only at hFv
  split at hFv
  ·rename_i v0 e;cases hFv;exact⟨e,rfl⟩
  ·cases hFv
 obtain⟨hFv2,rfl⟩:=hFv
 obtain⟨h1,h2,h3⟩:=h args v hFv2
 have hargs:args'=args.toArray:=by
  have:=EJ args _ h1 ha
  rw[←this]
 rw[hargs]
 refine(h3 W).mono fun e W' ⟨e1,e2⟩=>⟨v,μ,e1,hH.carry e2.size (fun i hi=>e2.block i hi) e2.output e2.os,Cc h2,Ac.refl _ _⟩
end Go.AD

namespace Go.AD
open Go.Proofs Go.Shelf Go.RowKit
end Go.AD

namespace Go.AD
open Go.Proofs Go.Shelf Go.RowKit
def U7:ByteArray→Option UInt8
 | ⟨⟨[c]⟩⟩=>some c
 | _=>none
theorem TL {s:ByteArray} {c:UInt8} (h:U7 s=some c):s=⟨#[c]⟩:=by
 unfold U7 at h
 split at h
 ·cases h;rfl
 ·cases h
def RD:List Value→Option Value
 | [.string s,.string sep]=>match U7 sep with
  | some c=>some (.int .i64 (Go.Lib.indexByte s.data.toList c))
  | none=>none
 | _=>none
noncomputable def L1:Cn:=fun args H=>match RD args with | some v=>some (v,H) | none=>none
theorem Tz {P:Program} {laid:List (Nat × List Value)} {ρ:Shelf.Ren} (L:Lays.n143 P ρ) {f:FuncId} (hf:ρ.f 143=f) (he:∃n c,entry P f=some (n,c)):Da P laid f L1:=by
 subst hf
 refine Nf he fun args v h=>?_
 unfold RD at h
 split at h
 ·rename_i s sep
  split at h
  ·rename_i c hc
   obtain rfl:=TL hc
   cases h
   refine⟨rfl,rfl,fun w=>?_⟩
   refine(Any.strings_Index_one L s c w).mono fun e w' ⟨h1,h2⟩=>⟨h1,?_⟩
   rw[h2];exact Below.refl _ _
  ·cases h
 ·cases h
noncomputable def Jz:Cn:=fun args H=>match args with
 | [.string s,.string sep]=>match U7 sep with
  | some _=>bif Nat.blt s.size 4294967281 then some (.slice (some ⟨H.next,0,some 0⟩) (Go.Lib.splitB sep 0 (Go.Lib.countB s sep) s).length AF,H.alloc (.vec [.str] (Go.Lib.splitB sep 0 (Go.Lib.countB s sep) s) false))else none
  | none=>none
 | _=>none
noncomputable def SC (sp:ByteArray→List ByteArray):FJ:=fun args H K=>match args with
 | [.string s,.string sep]=>match U7 sep with
  | some _=>(s.size < 4294967281∧Go.Lib.splitB sep 0 (Go.Lib.countB s sep) s=sp s)∧K (.slice (some ⟨H.next,0,some 0⟩) (sp s).length AF) (H.alloc (.vec [.str] (sp s) false))
  | none=>False
 | _=>False
theorem Uw {X:Ctx} {f:FuncId} {sp:ByteArray→List ByteArray} (hX:X.FL f=some Jz) {args:List Value} {H:AA} {K:Value→AA→Prop} (h:SC sp args H K):∃v H',Bp X f args .normal H=some (v,H')∧K v H':=by
 unfold SC at h
 split at h
 ·rename_i s sep
  split at h
  ·rename_i c hc
   refine⟨_,_,?_,h.2⟩
   unfold Bp
   simp only[hX]
   unfold Jz
   have hb:Nat.blt s.size 4294967281=true:=Nat.ble_eq_true_of_le h.1.1
   simp only[hc,hb,cond_true,h.1.2]
  ·cases h
 ·cases h
theorem Ty (l:List ByteArray):Ar [.str] l=l.map Value.string:=by
 induction l with
 | nil=>rfl
 | cons x l ih=>rw[Cb,ih];rfl
theorem Uv {P:Program} {laid:List (Nat × List Value)} {ρ:Shelf.Ren} (L:Lays.n146 P ρ) (hi9:(P.info? (ρ.t 9)).map (fun i=>(i.zero,i.size,i.bytes))=some (some (.string ByteArray.empty),1,16)) {f:FuncId} (hf:ρ.f 146=f) (he:∃n c,entry P f=some (n,c)):Da P laid f Jz:=by
 subst hf
 refine⟨he,?_⟩
 intro base W0 μ H W args args' v H' _ hH _ ha hFv
 unfold Jz at hFv
 split at hFv
 ·rename_i s sep
  split at hFv
  ·rename_i c hc
   cases hb:Nat.blt s.size 4294967281
   ·simp only[hb,cond_false]at hFv;cases hFv
   ·simp only[hb,cond_true,Option.some.injEq,Prod.mk.injEq]at hFv
    obtain⟨rfl,rfl⟩:=hFv
    obtain rfl:=TL hc
    have hs:s.size < 4294967281:=Nat.le_of_ble_eq_true hb
    have hargs:args'=#[.string s,.string ⟨#[c]⟩]:=by
     have:=EJ [.string s,.string ⟨#[c]⟩] _ rfl ha
     apply Array.ext'
     rw[this]
    rw[hargs]
    have h1:1≤(⟨#[c]⟩:ByteArray).size:=Nat.le_refl _
    have hle:=Lib.countB_le ⟨#[c]⟩ h1 s.size s (Nat.le_refl _)
    have hlen:=Lib.splitB_all ⟨#[c]⟩ h1 0 _ s rfl
    have cnt:=(Any.strings_Count_one { L with } s c W).mono (R':=fun e w'=>e= .returned (.int .i64 (Lib.countB s ⟨#[c]⟩))∧w'=W) fun e w' ⟨he',hw⟩=>⟨by
     rw[he']
     show _=Ending.returned (Value.int .i64 ((Lib.count s.data.toList [c]:Nat):Int))
     rw[Lib.count_one]
     rfl,hw⟩
    have g:=Any.strings_genSplit_core (P:=P) (ρ:=ρ) { L with } hi9 s ⟨#[c]⟩ 0 (-1) (Lib.countB s ⟨#[c]⟩+1) W hs h1 (Nat.zero_le _)
     (fun x cc hx=>(Any.strings_Index_one { L with } x c _).mono fun e w' ⟨he',hw⟩=>⟨by
      rw[he']
      show _=Ending.returned (Value.int .i64 (Lib.index x.data.toList [c]))
      rw[Lib.index_one],hw⟩)
     cnt (by decide) (by decide) (by rw[if_pos (by decide)];omega)
    rw[Nat.add_sub_cancel,hlen]at g
    have e2:Lib.cellsOf (Lib.splitB ⟨#[c]⟩ 0 (Lib.countB s ⟨#[c]⟩) s) (Lib.countB s ⟨#[c]⟩+1)=((Lib.splitB ⟨#[c]⟩ 0 (Lib.countB s ⟨#[c]⟩) s).map Value.string).toArray:=by rw[←hlen];exact Lib.cellsOf_full _
    rw[e2]at g
    have hall:Calls P (ρ.f 146) #[.string s,.string ⟨#[c]⟩] W fun e w'=>
     e= .returned (.slice (some ⟨W.heap.size,0,none⟩) (Lib.countB s ⟨#[c]⟩+1) (Lib.countB s ⟨#[c]⟩+1))∧w'=W.alloc (.cells ((Lib.splitB ⟨#[c]⟩ 0 (Lib.countB s ⟨#[c]⟩) s).map Value.string).toArray (ρ.t 9)):=by
     have t3:=L.t3;have t9:=L.t9;have t31:=L.t31
     have a3:=L.a3;have a9:=L.a9;have a31:=L.a31
     have z3:=L.z3;have v3:=L.v3;have z9:=L.z9;have v9:=L.v9;have z31:=L.z31;have v31:=L.v31
     have e221:∀args w,(callFunc (ρ.f 221) args).run P w= .ok (.enter (ρ.f 221) args) w:=enters_of L.f221 (by kernel_rfl) rfl
     go_enter L.f146,Body.n146_ntmps ρ
     go_wp2_with (go_at_fn (ρ.f 221);refine g.mono ?_;rintro e w' ⟨rfl,hw⟩;rw[hw])
     go_ret
     exact⟨rfl,rfl⟩
    refine hall.mono fun e W' ⟨e1,e3⟩=>?_
    subst e3
    have hsl:((Lib.splitB ⟨#[c]⟩ 0 (Lib.countB s ⟨#[c]⟩) s).map Value.string).toArray.size=Lib.countB s ⟨#[c]⟩+1:=by
     rw[List.size_toArray,List.length_map,hlen]
    obtain⟨g1,g2⟩:=hH.alloc (T:=⟨W.heap.size,0,Lib.countB s ⟨#[c]⟩+1,1⟩) (o:= .vec [.str] (Lib.splitB ⟨#[c]⟩ 0 (Lib.countB s ⟨#[c]⟩) s) false) (o':= .cells ((Lib.splitB ⟨#[c]⟩ 0 (Lib.countB s ⟨#[c]⟩) s).map Value.string).toArray (ρ.t 9)) rfl
     (.vec _ _ _ _ _ (.cells _ _ _ _ _ _ 0 0 rfl (by
      rw[Ty,List.length_map,List.drop_zero]
      rw[List.take_of_length_le (by simp)]
      exact Aq.map _ _ _ fun x _=> .string x) (by rw[hsl];simp) (fun _ i _ h=>by omega)))
    refine⟨_,_,e1,g1,?_,g2⟩
    rw[hlen]
    refine .Bt H.next 0 _ AF _ _ ⟨W.heap.size,0,Lib.countB s ⟨#[c]⟩+1,1⟩ (Ah.A8 _ _ _) (.inr ⟨Nat.le_refl _,by omega,Nat.le_refl _,?_,.inl rfl⟩) (.inl rfl) (Nat.succ_ne_zero _)
    show 0 * 1+(Lib.countB s ⟨#[c]⟩+1) * 1≤Lib.countB s ⟨#[c]⟩+1
    omega
  ·cases hFv
 ·cases hFv
end Go.AD

namespace Go.AD
open Go.Proofs Go.Shelf Go.RowKit
def isNum (s:ByteArray):Bool:=match Go.Lib.atoiAll s.data.toList with
 | .ok _=>true
 | _=>false
def Ag (s:ByteArray):Int:=match Go.Lib.atoiAll s.data.toList with
 | .ok v=>v
 | _=>0
noncomputable def KC (T:TypeId):Cn:=fun args H=>match args with
 | [.string s]=>bif Nat.ble s.size 100000 then
  (bif isNum s then some (.tuple ⟨[.int .i64 (Ag s),.nilIface]⟩,H)else some (.tuple ⟨[A5,.iface T A5]⟩,H))else none
 | _=>none
noncomputable def Wi (T:TypeId):FJ:=fun args H K=>match args with
 | [.string s]=>s.size≤100000∧(bif isNum s then K (.tuple ⟨[.int .i64 (Ag s),.nilIface]⟩) H else K (.tuple ⟨[A5,.iface T A5]⟩) H)
 | _=>False
theorem Ts {X:Ctx} {f:FuncId} {T:TypeId} (hX:X.FL f=some (KC T)) {args:List Value} {H:AA} {K:Value→AA→Prop} (h:Wi T args H K):∃v H',Bp X f args .normal H=some (v,H')∧K v H':=by
 unfold Wi at h
 split at h
 ·rename_i s
  obtain⟨h1,h2⟩:=h
  have hb:Nat.ble s.size 100000=true:=Nat.ble_eq_true_of_le h1
  unfold Bp
  simp only[hX]
  unfold KC
  simp only[hb,cond_true]
  cases hn:isNum s
  ·rw[hn]at h2;exact⟨_,_,rfl,h2⟩
  ·rw[hn]at h2;exact⟨_,_,rfl,h2⟩
 ·cases h
theorem LZ {P:Program} {laid:List (Nat × List Value)} {base:Env} {W0 W:World} {μ:Ah} {H:AA} {g:Nat} (hL:DR (Ta P laid) base W0) (hH:AP base W0 μ H W) (hg:(g,[A5])∈laid):∃te pe,W.cell? ⟨g,0,none⟩=some (.iface te pe):=by
 obtain⟨h1,a,t,fz,h3,h4⟩:=hL.2 _ hg
 obtain⟨te,pe,e⟩:=h4.isIface
 refine⟨te,pe,?_⟩
 have h5:W.heap[g]? = some (.cells a t fz):=by rw[hH.below g h1];exact h3
 unfold World.cell?
 simp only[h5]
 rw[←Array.getElem?_toList,e]
 rfl
theorem Ux {P:Program} {laid:List (Nat × List Value)} {ρ:Shelf.Ren} (L:LaysC.n172 P ρ) {f:FuncId} (hf:ρ.f 172=f) (he:∃n c,entry P f=some (n,c)) {T:TypeId} (hT:ρ.t 168=T) {g1 g2:Nat} (e1:ρ.g 15=g1) (e2:ρ.g 16=g2) (h1:(g1,[A5])∈laid) (h2:(g2,[A5])∈laid):Da P laid f (KC T):=by
 subst hf hT e1 e2
 refine⟨he,?_⟩
 intro base W0 μ H W args args' v H' hL hH _ ha hFv
 unfold KC at hFv
 split at hFv
 ·rename_i s
  cases hb:Nat.ble s.size 100000
  ·simp only[hb,cond_false]at hFv;cases hFv
  ·simp only[hb,cond_true]at hFv
   have hsz:s.size≤100000:=Nat.le_of_ble_eq_true hb
   have hargs:args'=#[.string s]:=by
    have:=EJ [.string s] _ rfl ha
    apply Array.ext'
    rw[this]
   rw[hargs]
   have HS:∀W',Below W.heap.size W W'→AP base W0 μ H W':=fun W' hbl=>hH.carry hbl.size (fun i hi=>hbl.block i hi) hbl.output hbl.os
   rcases hn:Go.Lib.atoiAll s.data.toList with n | _ | _
   ·have e3:isNum s=true:=by unfold isNum;rw[hn]
    have e4:Ag s=n:=by unfold Ag;rw[hn]
    rw[e3,e4]at hFv
    cases hFv
    refine(Any.strconv_Atoi_ok L s (by omega) n hn W).mono fun e W' ⟨h1,h2⟩=>?_
    refine⟨_,μ,h1,HS W' ?_,AH.Bf.2 ⟨_,rfl,.cons (.int _ _) (.cons .nilIface .nil)⟩,Ac.refl _ _⟩
    rcases h2 with rfl | ⟨t,rfl⟩
    ·exact Below.refl _ _
    ·exact Lib.bytesWorld_below _ _ _
   ·have e3:isNum s=false:=by unfold isNum;rw[hn]
    rw[e3]at hFv
    cases hFv
    obtain⟨te,pe,hc⟩:=LZ hL hH h1
    refine(Any.strconv_Atoi_syntax L s (by omega) hn _ W hc (.inr ⟨te,pe,rfl⟩)).mono fun e W' ⟨N,h1,_,_,h2⟩=>?_
    exact⟨_,μ,h1,HS W' h2,AH.Bf.2 ⟨_,rfl,.cons (.A5 _) (.cons (.iface _ _ _ (.A5 _)) .nil)⟩,Ac.refl _ _⟩
   ·have e3:isNum s=false:=by unfold isNum;rw[hn]
    rw[e3]at hFv
    cases hFv
    obtain⟨te,pe,hc⟩:=LZ hL hH h2
    refine(Any.strconv_Atoi_range L s (by omega) hn _ W hc (.inr ⟨te,pe,rfl⟩)).mono fun e W' ⟨N,h1,_,_,h2⟩=>?_
    exact⟨_,μ,h1,HS W' h2,AH.Bf.2 ⟨_,rfl,.cons (.A5 _) (.cons (.iface _ _ _ (.A5 _)) .nil)⟩,Ac.refl _ _⟩
 ·cases hFv
def BT (n:Int):ByteArray:=⟨(Go.Lib.itoa n).toArray⟩
open Classical in
noncomputable def JC:Cn:=fun args H=>match args with
 | [.int .i64 n]=>if -9223372036854775808≤n∧n≤9223372036854775807 then some (.string (BT n),H)else none
 | _=>none
noncomputable def Vj:FJ:=fun args H K=>match args with
 | [.int .i64 n]=>(-9223372036854775808≤n∧n≤9223372036854775807)∧K (.string (BT n)) H
 | _=>False
theorem Ue {P:Program} {laid:List (Nat × List Value)} {ρ:Shelf.Ren} (L:LaysM.n171 P ρ) {f:FuncId} (hf:ρ.f 171=f) (he:∃n c,entry P f=some (n,c)) {g:Nat}
 (hg:P.globalNamed "internal/strconv.uint64pow10" = some g) (hl:(g,Go.Lib.pow10Tab.map fun z=>Value.int .u64 z)∈laid):Da P laid f JC:=by
 subst hf
 refine⟨he,?_⟩
 intro base W0 μ H W args args' v H' hL hH _ ha hFv
 unfold JC at hFv
 split at hFv
 ·rename_i n
  split at hFv
  ·rename_i hn
   cases hFv
   have hargs:args'=#[.int .i64 n]:=by
    have:=EJ _ _ rfl ha
    apply Array.ext'
    rw[this]
   have hL1:DR (Ta P laid) (base.at W) W:=hL.carry hH
   have htab:Lib.TabIs P W "internal/strconv.uint64pow10" .u64 Lib.pow10Tab:=by
    obtain⟨_,a,t,fz,h3,h4⟩:=hL1.2 _ hl
    have h4:=h4.eq (by kernel_rfl)
    unfold Lib.TabIs World.var?
    rw[hg]
    simp only[Option.bind_some]
    have h3:W.heap[g]? = some (.cells a t fz):=h3
    rw[h3]
    have h4:a.toList=Lib.pow10Tab.map fun z=>Value.int .u64 z:=h4
    rw[←h4]
   rw[hargs]
   refine(Any.strconv_Itoa L n hn.1 hn.2 W htab).mono fun e W' ⟨e1,k,os,e2⟩=>?_
   refine⟨.string (BT n),μ,?_,?_,.string _,Ac.refl _ _⟩
   ·rw[e1];rfl
   ·rw[e2]
    refine hH.carry ?_ ?_ rfl rfl
    ·show W.heap.size≤(W.heap++os).size
     rw[Array.size_append];omega
    ·intro i hi
     show(W.heap++os)[i]? = W.heap[i]?
     rw[Array.getElem?_append_left hi]
  ·cases hFv
 ·cases hFv
theorem NR {X:Ctx} {f:FuncId} (hX:X.FL f=some JC) {args:List Value} {H:AA} {K:Value→AA→Prop} (h:Vj args H K):∃v H',Bp X f args .normal H=some (v,H')∧K v H':=by
 unfold Vj at h
 split at h
 ·rename_i n
  refine⟨_,_,?_,h.2⟩
  unfold Bp
  simp only[hX]
  unfold JC
  exact if_pos h.1
 ·cases h
def ba (s:ByteArray) (c:Int):Int:=Go.Lib.indexByte s.data.toList c.toNat.toUInt8
def Wa:List Value→Option Value
 | [.string s,.int .u8 c]=>some (.int .i64 (ba s c))
 | _=>none
noncomputable def PK:Cn:=fun args H=>match Wa args with | some v=>some (v,H) | none=>none
theorem Xr {P:Program} {laid:List (Nat × List Value)} {ρ:Shelf.Ren} (L:Lays.n137 P ρ) {f:FuncId} (hf:ρ.f 137=f) (he:∃n c,entry P f=some (n,c)):Da P laid f PK:=by
 subst hf
 refine Nf he fun args v h=>?_
 unfold Wa at h
 split at h
 ·rename_i s c
  cases h
  refine⟨rfl,rfl,fun w=>?_⟩
  refine(Any.strings_IndexByte L s c w).mono fun e w' ⟨h1,h2⟩=>⟨h1,?_⟩
  rw[h2];exact Below.refl _ _
 ·cases h
end Go.AD

namespace Go.AD
noncomputable def Yt (X:Ctx) (c:Ay):Option Value:=
 match c with
 | ⟨⟨_,t,_,todo,_,r,_,_⟩,_,_⟩=>bif r then none else match todo with
  | .G0 _ (o::_)::_=>match o.guard with
   | none=>match o.op with
    | .panic x=>match Bc X t x with
     | .iface T v=>some (.iface T v)
     | _=>none
    | _=>none
   | some _=>none
  | _=>none
noncomputable def Np (X:Ctx) (f:AU) (H:AA):Option AA:=
 match f with
 | ⟨fn,_,_,_,ds,r,_,_⟩=>bif r then none else match entry X.P fn with
  | none=>none
  | some _=>match ds with
   | []=>some H
   | [⟨.collected b,_⟩]=>match H.get b with
    | some (.deferred (some []))=>some (H.put b (.deferred none))
    | _=>none
   | _=>none
def Vv:List Deferred→Bool
 | [⟨.fn (.func _) _,_⟩]=>true
 | _=>false
noncomputable def KR (X:Ctx):List AU→AA→Option (AU × List AU × AA)
 | [],_=>none
 | f::l,H=>bif Vv f.defers then(bif f.ret then none else some (f,l,H))else match Np X f H with
  | some H1=>KR X l H1
  | none=>none
noncomputable def Oc (c:Ay):Bool:=
 match c with
 | ⟨⟨_,_,_,todo,_,r,kd,rd⟩,cs,_⟩=>bif r then false else match cs,kd,rd,todo with
  | [],.deferred,none,.G0 _ (o::_)::_=>match o.guard with
   | none=>match o.op with
    | .call c=>match c.callee with
     | .builtin b=>isRec b
     | _=>false
    | _=>false
   | some _=>false
  | _,_,_,_=>false
noncomputable def X6 (X:Ctx) (c:Ay):Bool:=
 match c with
 | ⟨⟨fn,t,_,_,ds,r,kd,_⟩,cs,H⟩=>match cs,ds,r,kd with
  | [],[],true,.deferred=>match Fg X fn t H with
   | some _=>true
   | none=>false
  | _,_,_,_=>false
noncomputable def Mj (X:Ctx) (v:Value):Nat→Bool→Ay→Option AA
 | 0,_,_=>none
 | n+1,rc,c=>bif X6 X c then(bif rc then some c.H else none)else bif Oc c then(bif rc then none else match Bg c.fr v with
  | some f=>Mj X v n true ⟨f,[],c.H⟩
  | none=>none)
  else match DQ X c with
   | some c'=>Mj X v n rc c'
   | none=>none
noncomputable def LB (X:Ctx) (c:Ay):Option Ay:=
 match Yt X c with
 | none=>none
 | some v=>match Np X c.fr c.H with
  | none=>none
  | some H1=>match KR X c.cs H1 with
   | some (⟨fn,t,n,todo,[⟨.fn (.func g) cap,args⟩],_,.normal,none⟩,[],H2)=>bif Gn todo then match entry X.P g with
    | some (m,code)=>bif Nat.ble (args.toList++cap.toList).length m then
     match Mj X v 300 false ⟨⟨g,B3 0 (args.toList++cap.toList) .leaf,m,[.code code],[],false,.deferred,none⟩,[],H2⟩with
     | some H3=>some ⟨⟨fn,t,n,todo,[],true,.normal,none⟩,[],H3⟩
     | none=>none
     else none
    | none=>none
    else none
   | _=>none
section
variable {P:Program} {fn:FuncId} {tm:Array Value} {k:List Item} {ds:List Deferred} {kd:CallKind} {rd:Option Nat} {cs:List Frame} {W:World}
theorem Yn {ops:Array Oper} {i:Nat} {o:Oper} {rest:List Nat} (ho:ops[i]? = some o) (hw:Region.wanted o (yielded ops tm)=true) {x:Operand} (hop:o.op= .panic x) {T:TypeId} {v:Value}
 (hx:Frame.eval ⟨fn,tm,.inRegion ops (i::rest)::k,ds,.run,kd,rd⟩ x= .iface T v):
 step P (lone ⟨fn,tm,.inRegion ops (i::rest)::k,ds,.run,kd,rd⟩ cs W)= .next (lone ⟨fn,tm,.inRegion ops (i::rest)::k,ds,.panicking [{ v:= .iface T v,recovered:=false }],kd,rd⟩ cs W):=by
 have hr:(execOp (Frame.eval ⟨fn,tm,.inRegion ops (i::rest)::k,ds,.run,kd,rd⟩) o).run P W= .halt (.panic (.iface T v)) W:=by
  simp only[execOp,hop,hx]
  rfl
 refine step_lone_go ?_
 have hop2:stepG.oper P true ⟨fn,tm,.inRegion ops (i::rest)::k,ds,.run,kd,rd⟩ cs none W=stepG.apply P true ⟨fn,tm,.inRegion ops (i::rest)::k,ds,.run,kd,rd⟩ cs none (execOp (Frame.eval ⟨fn,tm,.inRegion ops (i::rest)::k,ds,.run,kd,rd⟩) o) W:=by
  simp only[stepG.oper,Frame.oper?,ho]
  cases rd with
  | none=>rfl
  | some l=>simp only[hop]
 simp only[stepG,stepG.exec,ho,hw,Option.map_some,Option.getD_some,if_true]
 rw[hop2]
 simp[stepG.apply,hr,Frame.raise]
theorem RC {ops:Array Oper} {i:Nat} {o:Oper} {rest:List Nat} (ho:ops[i]? = some o) (hw:Region.wanted o (yielded ops tm)=true) {W':World}
 (hr:(execOp (Frame.eval ⟨fn,tm,.inRegion ops (i::rest)::k,ds,.run,kd,none⟩) o).run P W= .ok .recover W') {v:Value} {cs':List Frame} (hn:tryRecover ⟨fn,tm,.inRegion ops (i::rest)::k,ds,.run,kd,none⟩ cs=some (v,cs')):
 step P (lone ⟨fn,tm,.inRegion ops (i::rest)::k,ds,.run,kd,none⟩ cs W)= .next (lone (Frame.finish ⟨fn,tm,.inRegion ops (i::rest)::k,ds,.run,kd,none⟩ v) cs' W'):=by
 refine step_lone_go ?_
 simp only[stepG,stepG.exec,ho,hw,Option.map_some,Option.getD_some,if_true,stepG.oper,Frame.oper?]
 simp[stepG.apply,hr,hn]
theorem L6 {b:Nat} {a:Array Value} {l:List Deferred} {todo:List Item} {ch:List PanicEntry} {W':World} (hr:(Instr.takeDeferred b).run P W= .ok l W'):
 step P (lone ⟨fn,tm,todo,⟨.collected b,a⟩::ds,.panicking ch,kd,rd⟩ cs W)= .next (lone ⟨fn,tm,todo,l++ds,.panicking ch,kd,rd⟩ cs W'):=
 step_lone_go (by simp[stepG,unwind,hr])
end
def Jl (ch:List PanicEntry):Frame→Frame
 | ⟨fn,tm,k,ds,_,kd,rd⟩=>⟨fn,tm,k,ds,.panicking ch,kd,rd⟩
theorem Ns {f:Frame} {ch:List PanicEntry} (h:f.mode= .run):f.raise ch=Jl ch f:=by
 obtain⟨a1,a2,a3,a4,a5,a6,a7⟩:=f
 simp only at h
 subst h
 rfl
section
variable {X:Ctx} {base:Env} {W0:World} {μ:Ah} {H:AA} {W:World}
theorem FH.Lg {g:List Nat} {f:AU} {f':Frame} (h:FH X μ H g f f') (hr:f.ret=false):f'.mode= .run:=by
 cases h with
 | plain=>simp only at hr;subst hr;rfl
 | Jg=>rfl
theorem FH.parts {g:List Nat} {f:AU} {f':Frame} (h:FH X μ H g f f'):f'.fn=f.fn∧Bw μ f.defers f'.defers:=by
 cases h with
 | plain=>rename_i hd _;exact⟨rfl,hd⟩
 | Jg=>rename_i hd _;exact⟨rfl,hd⟩
theorem Po {f:AU} {f':Frame} (hfn:f'.fn=f.fn) (hds:Bw μ f.defers f'.defers) {H1:AA} (hp:Np X f H=some H1) (hH:AP base W0 μ H W) (c:Frame) (hc:c.mode= .run) (cs:List Frame) (ch:List PanicEntry):
 ∃W1,Steps X.P (lone (Jl ch f') (c::cs) W) (lone (Jl ch c) cs W1)∧AP base W0 μ H1 W1:=by
 obtain⟨fn,t,n,todo,ds,r,kd,rd⟩:=f
 obtain⟨fn',tm,k,ds',md,kd',rd'⟩:=f'
 simp only at hfn hds
 subst hfn
 unfold Np at hp
 simp only at hp
 cases r with
 | true=>simp at hp
 | false=>
  simp only[cond_false]at hp
  split at hp
  ·cases hp
  ·rename_i nc he
   obtain⟨fnn,hf1,_⟩:=entry_eq (n:=nc.1) (c:=nc.2) he
   split at hp
   ·cases hp
    cases hds
    refine⟨W,.one ?_,hH⟩
    rw[←Ns hc]
    exact step_leave_panicked (fr:=⟨fn',tm,k,[],.panicking ch,kd',rd'⟩) ⟨rfl,rfl,fnn,hf1⟩
   ·rename_i b a
    split at hp
    ·rename_i hget
     cases hp
     cases hds with
     | cons h1 h2=>
      cases h2
      rename_i d'
      obtain⟨tgt',args'⟩:=d'
      obtain⟨h3,h4⟩:=h1
      simp only at h3
      cases h3 with
      | collected _ T hT=>
       obtain⟨o',ho',hor⟩:=hH.obj b _ hget T hT
       cases hor with
       | deferred _ q' hq=>
        cases hq
        obtain⟨g1,g2⟩:=hH.setObj (o1:= .deferred none) (o1':= .deferred none) hget rfl hT (.Cm T)
        have hrun:(Instr.takeDeferred T.c).run X.P W= .ok [] { W with heap:=W.heap.setIfInBounds T.c (.deferred none) }:=by
         simp[Instr.takeDeferred,D8 (P:=X.P) ho' (by intro c t f;simp),C1 (P:=X.P) ho' (by intro c t f;simp)]
        refine⟨_,.head (L6 hrun) (.one ?_),g1⟩
        rw[←Ns hc]
        exact step_leave_panicked (fr:=⟨fn',tm,k,[]++[],.panicking ch,kd',rd'⟩) ⟨rfl,rfl,fnn,hf1⟩
    ·cases hp
   ·cases hp
theorem Qi {x:AU} {H2:AA} (hp:Np X x H=some H2):x.ret=false:=by
 obtain⟨a1,a2,a3,a4,a5,r,a7,a8⟩:=x
 cases r with
 | true=>simp[Np]at hp
 | false=>rfl
theorem Lk {H0:AA} {l:List AU} {l':List Frame} {gs:List Nat} {H:AA} {y:AU × List AU × AA} (hl:Cu X μ H0 gs l l') (hc:KR X l H=some y):∃f0 l0,l'=f0::l0∧f0.mode= .run:=by
 cases hl with
 | nil=>cases hc
 | @cons g gs x x' l l1 hx hxl=>
  refine⟨x',l1,rfl,hx.Lg ?_⟩
  unfold KR at hc
  cases hb:Vv x.defers
  ·simp only[hb,cond_false]at hc
   split at hc
   ·rename_i H2 hp;exact Qi hp
   ·cases hc
  ·simp only[hb,cond_true]at hc
   cases hr:x.ret
   ·rfl
   ·simp[hr]at hc
theorem Tx {ch:List PanicEntry} {cs0:List Frame} {H0:AA}:∀(l:List AU) {l':List Frame} {gs:List Nat} {H H1:AA} {W:World} {f:AU} {r:List AU},Cu X μ H0 gs l l'→KR X l H=some (f,r,H1)→AP base W0 μ H W→
 ∃f0 l0 f' r' W1 g gs',l'=f0::l0∧f0.mode= .run∧Steps X.P (lone (Jl ch f0) (l0++cs0) W) (lone (Jl ch f') (r'++cs0) W1)∧FH X μ H0 g f f'∧Cu X μ H0 gs' r r'∧AP base W0 μ H1 W1:=by
 intro l
 induction l with
 | nil=>intro l' gs H H1 W f r hl hc;cases hc
 | cons x l ih=>
  intro l' gs H H1 W f r hl hc hH
  cases hl with
  | @cons g gs x x' l l1 hx hxl=>
   unfold KR at hc
   cases hb:Vv x.defers
   ·simp only[hb,cond_false]at hc
    split at hc
    ·rename_i H2 hp
     obtain⟨p1,p2⟩:=hx.parts
     obtain⟨f0,l0,rfl,hm⟩:=Lk hxl hc
     obtain⟨W1,s1,g1⟩:=Po p1 p2 hp hH f0 hm (l0++cs0) ch
     obtain⟨f1,l2,f',r',W2,g',gs',e1,e2,s2,e3,e4,g2⟩:=ih (W:=W1) hxl hc g1
     cases e1
     exact⟨x',f0::l0,f',r',W2,g',gs',rfl,hx.Lg (Qi hp),s1.trans s2,e3,e4,g2⟩
    ·cases hc
   ·simp only[hb,cond_true]at hc
    cases hr:x.ret
    ·simp only[hr,cond_false,Option.some.injEq,Prod.mk.injEq]at hc
     obtain⟨rfl,rfl,rfl⟩:=hc
     exact⟨x',l1,x',l1,W,g,gs,rfl,hx.Lg hr,.refl _ _,hx,hxl,hH⟩
    ·simp[hr]at hc
theorem Vq {f:FuncId} {t:Tr Value} {n:Nat} {tm:Array Value} (hH:AP base W0 μ H W) (ht:ES μ t n tm) {v:Value} (h:Fg X f t H=some v) (k:List Item) (rd:Option Nat):
 ∃v',Frame.going X.P ⟨f,tm,k,[],.returning,.deferred,rd⟩ W (.returned v'):=by
 obtain⟨fnn,v',h1,h2,_⟩:=Hi hH ht h
 exact⟨v',rfl,rfl,fnn,h1,h2⟩
theorem RL (hok:Cr X base W0) (hplan:Ef X) {v v':Value} (hv:AH base.YO v v') {cf:Frame} {cs0:List Frame} (hisv:∃T x,v'= .iface T x):∀(n:Nat) (rc:Bool) (c:Ay) (H2:AA) (μ:Ah) (fr:Frame) (cs:List Frame) (W:World),Mj X v n rc c=some H2→G6 X base W0 μ c fr cs W→
 ∃μ' fr1 W1 u,Steps X.P (lone fr (cs++Jl [{ v:=v',recovered:=rc }] cf::cs0) W) (lone fr1 (Jl [{ v:=v',recovered:=true }] cf::cs0) W1)∧fr1.kind= .deferred∧fr1.going X.P W1 (.returned u)∧AP base W0 μ' H2 W1:=by
 intro n
 induction n with
 | zero=>intro rc c H2 μ fr cs W h;cases h
 | succ n ih=>
  intro rc c H2 μ fr cs W h hm
  unfold Mj at h
  cases hd:X6 X c
  ·simp only[hd,cond_false]at h
   cases hn:Oc c
   ·simp only[hn,cond_false]at h
    split at h
    ·rename_i c1 hs
     obtain⟨μ1,fr1,cs1,W1,s1,m1⟩:=L7 (cs0:=Jl [{ v:=v',recovered:=rc }] cf::cs0) hok hplan hm hs
     obtain⟨μ2,fr2,W2,u,s2,a,b,d⟩:=ih rc c1 H2 μ1 fr1 cs1 W1 h m1
     exact⟨μ2,fr2,W2,u,s1.trans s2,a,b,d⟩
    ·cases h
   ·simp only[hn,cond_true]at h
    cases rc with
    | true=>simp at h
    | false=>
     simp only[cond_false]at h
     split at h
     ·rename_i f hf
      obtain⟨hH,hlaid,g,gs,hfr,hcs,hnd⟩:=hm
      obtain⟨⟨fn,t,n1,todo,ds,r,kd,rd⟩,cs1,H1⟩:=c
      simp only at hH hfr hcs hf h
      unfold Oc at hn
      simp only at hn
      cases r with
      | true=>simp at hn
      | false=>
       simp only[cond_false]at hn
       split at hn
       ·rename_i ops o rest k
        split at hn
        ·rename_i hg
         split at hn
         ·rename_i cal hop
          split at hn
          ·rename_i b hcal
           have hbe:b= .recover:=by cases b<;>first | rfl | cases hn
           cases hcs
           cases hfr with
           | plain _ _ _ tm _ todo' _ ds' _ _ _ rd' ht hi hdd hr=>
            cases hr
            cases hi with
            | @cons _ it' _ k' h1 hk=>
             cases h1 with
             | G0 _ _ idx hidx=>
              cases idx with
              | nil=>simp at hidx
              | cons i idx=>
               simp only[List.map_cons,List.cons.injEq]at hidx
               have hw:Region.wanted o (yielded ops tm)=true:=by unfold Region.wanted;simp[hg]
               have hex:(execOp (Frame.eval ⟨fn,tm,.inRegion ops (i::idx)::k',ds',.run,.deferred,none⟩) o).run X.P W= .ok .recover W:=by
                simp only[execOp,hop,resolve,hcal,hbe]
                rfl
               obtain⟨T,x,rfl⟩:=hisv
               have hst:=RC (P:=X.P) (W:=W) hidx.1 hw hex (cs:=Jl [{ v:= .iface T x,recovered:=false }] cf::cs0) (v:= .iface T x) (cs':=Jl [{ v:= .iface T x,recovered:=true }] cf::cs0) (by simp[tryRecover,Jl])
               have hfin:=Ce (X:=X) (H:=H1) (.plain fn t n1 tm _ _ ds ds' false .deferred none none ht (.cons (.G0 ops (o::rest) (i::idx) (by simp[hidx.1,hidx.2])) hk) hdd .none) (hv.mono hH.le) hf
               obtain⟨μ2,fr2,W2,u,s2,a,b,d⟩:=ih true ⟨f,[],H1⟩ H2 μ _ [] W h ⟨hH,hlaid,[],[],hfin,.nil,by simp⟩
               exact⟨μ2,fr2,W2,u,.head hst s2,a,b,d⟩
          ·cases hn
         ·cases hn
        ·cases hn
       ·cases hn
     ·cases h
  ·simp only[hd,cond_true]at h
   cases rc with
   | false=>simp at h
   | true=>
    simp only[cond_true,Option.some.injEq]at h
    subst h
    obtain⟨hH,hlaid,g,gs,hfr,hcs,hnd⟩:=hm
    obtain⟨⟨fn,t,n1,todo,ds,r,kd,rd⟩,cs1,H1⟩:=c
    simp only at hH hfr hcs
    unfold X6 at hd
    simp only at hd
    split at hd
    ·split at hd
     ·rename_i vv hres
      cases hcs
      cases hfr with
      | plain _ _ _ tm _ todo' _ ds' _ _ _ rd' ht hi hdd hr=>
       cases hdd
       obtain⟨u,hu⟩:=Vq hH ht hres todo' rd'
       exact⟨μ,_,W,u,.refl _ _,rfl,hu,hH⟩
     ·cases hd
    ·cases hd
theorem Cr.env (h:Cr X base W0) {m0:Ah} (hle:base.YO.le m0):Cr X ⟨base.K,m0⟩ W0:=by
 intro f F hf
 obtain⟨h1,h2⟩:=h f F hf
 refine⟨h1,fun μ H W args args' v H' hH hl ha hF=>?_⟩
 have hH2:AP base W0 μ H W:=⟨hH.obj,hH.own,hH.inj,hH.fresh,hH.bound,hH.size,hH.below,hH.out,hH.os,(let ⟨φ,q⟩:=hH.abs;⟨φ,q.rep,q.Be⟩),Ah.le_trans hle hH.le,hH.grow⟩
 refine(h2 μ H W args args' v H' hH2 hl ha hF).mono fun e W' ⟨v',μ',a,b,c,d⟩=>⟨v',μ',a,?_,c,d⟩
 exact⟨b.obj,b.own,b.inj,b.fresh,b.bound,b.size,b.below,b.out,b.os,(let ⟨φ,q⟩:=b.abs;⟨φ,q.rep,q.Be⟩),Ah.le_trans hH.le d.le,b.grow⟩
theorem AP.env (hH:AP base W0 μ H W) {m0:Ah} (hle:m0.le μ):AP ⟨base.K,m0⟩ W0 μ H W:=
 ⟨hH.obj,hH.own,hH.inj,hH.fresh,hH.bound,hH.size,hH.below,hH.out,hH.os,(let ⟨φ,q⟩:=hH.abs;⟨φ,q.rep,q.Be⟩),hle,hH.grow⟩
theorem Qf {c c':Ay} (h:LB X c=some c'):ML X c c':=by
 intro base W0 hok hplan cs0 μ fr cs W hm
 obtain⟨hH,hlaid,g,gs,hfr,hcs,hnd⟩:=hm
 unfold LB at h
 split at h
 ·cases h
 ·rename_i v hpv
  split at h
  ·cases h
  ·rename_i H1 hpass
   split at h
   ·rename_i fn t n todo gf cap args r0 H2 hcat
    cases hph:Gn todo
    ·simp[hph]at h
    ·simp only[hph,cond_true]at h
     split at h
     ·rename_i m code hent
      cases hb:Nat.ble (args.toList++cap.toList).length m
      ·simp only[hb,cond_false]at h;cases h
      ·simp only[hb,cond_true]at h
       split at h
       ·rename_i H3 hrec
        cases h
        obtain⟨⟨fn0,t0,n0,todo0,ds0,rr,kd0,rd0⟩,cs1,H⟩:=c
        simp only at hH hfr hcs hpv hpass hcat
        unfold Yt at hpv
        simp only at hpv
        cases rr with
        | true=>simp at hpv
        | false=>
         simp only[cond_false]at hpv
         split at hpv
         ·rename_i ops o rest k
          split at hpv
          ·rename_i hg
           split at hpv
           ·rename_i x hop
            split at hpv
            ·rename_i T xv hx
             cases hpv
             cases hfr with
             | plain _ _ _ tm _ todo' _ ds' _ _ _ rd' ht hi hdd hr=>
              cases hi with
              | @cons _ it' _ k' h1 hk=>
               cases h1 with
               | G0 _ _ idx hidx=>
                cases idx with
                | nil=>simp at hidx
                | cons i idx=>
                 simp only[List.map_cons,List.cons.injEq]at hidx
                 have hw:Region.wanted o (yielded ops tm)=true:=by unfold Region.wanted;simp[hg]
                 have hev:=HY (fr:=⟨fn0,tm,.inRegion ops (i::idx)::k',ds',.run,kd0,rd'⟩) hlaid ht x
                 rw[hx]at hev
                 generalize hxe:Frame.eval ⟨fn0,tm,.inRegion ops (i::idx)::k',ds',.run,kd0,rd'⟩ x=xe at hev
                 have hvv:=hev
                 cases hev with
                 | iface _ _ xv' hxx=>
                  obtain⟨f1,l1,rfl,hm1⟩:=Lk hcs hcat
                  have s0:=Yn (P:=X.P) (W:=W) (cs:=(f1::l1)++cs0) hidx.1 hw hop hxe
                  obtain⟨W1,s1,g1⟩:=Po (X:=X) (f:=⟨fn0,t0,n0,.G0 ops (o::rest)::k,ds0,false,kd0,rd0⟩) (f':=⟨fn0,tm,.inRegion ops (i::idx)::k',ds',.run,kd0,rd'⟩) rfl hdd hpass hH f1 hm1 (l1++cs0) [{ v:= .iface T xv',recovered:=false }]
                  obtain⟨f2,l2,f',r',W2,g',gs',e1,e2,s2,e3,e4,g2⟩:=Tx (cs0:=cs0) (ch:=[{ v:= .iface T xv',recovered:=false }]) cs1 hcs hcat g1
                  cases e1
                  cases e4
                  cases e3 with
                  | Jg=>cases hph
                  | plain _ _ _ tm2 _ td2 _ ds2 _ _ _ rd2 ht2 hi2 hd2 hr2=>
                   cases hr2
                   cases hd2 with
                   | cons hd3 hd4=>
                    cases hd4
                    rename_i d'
                    obtain⟨tgt',args'⟩:=d'
                    obtain⟨hd5,hd6⟩:=hd3
                    simp only at hd5 hd6
                    cases hd5 with
                    | fn _ fn' _ ys' hfn hy=>
                     cases hfn
                     have hal:Aq μ (args.toList++cap.toList) (args'++ys').toList:=by simp only[Array.toList_append];exact hd6.append hy
                     have s3:=step_defer (P:=X.P) (fr:=Jl [{ v:= .iface T xv',recovered:=false }] ⟨fn,tm2,td2,[⟨.fn (.func gf) ys',args'⟩],MV r0,.normal,none⟩) (cs:=cs0) (w:=W2) (by simp[Jl]) rfl rfl (f:=gf) (args:=args'++ys') (by simp only[invoke];exact FP hent _ W2)
                     have hok2:=hok.env (m0:=μ) hH.le
                     have m3:G6 X ⟨base.K,μ⟩ W0 μ ⟨⟨gf,B3 0 (args.toList++cap.toList) .leaf,m,[.code code],[],false,.deferred,none⟩,[],H2⟩ (Frame.enter X.P gf (args'++ys') .deferred) [] W2:=by
                      refine⟨g2.env (Ah.le_refl _),hlaid,[],[],?_,.nil,by simp⟩
                      rw[Ji hent]
                      exact .plain gf _ m _ _ _ [] [] false .deferred none none (IQ hal (Nat.le_of_ble_eq_true hb)) (.cons (.code code) .nil) .nil .none
                     obtain⟨μ3,fr3,W3,u,s4,k1,k2,g3⟩:=RL (X:=X) (base:=⟨base.K,μ⟩) hok2 hplan (v:= .iface T xv) (v':= .iface T xv') hvv (cf:=⟨fn,tm2,td2,[],.run,.normal,none⟩) (cs0:=cs0) ⟨_,_,rfl⟩ 300 false _ H3 μ _ [] W2 hrec m3
                     have s5:=step_going_returned (P:=X.P) (c:=Jl [{ v:= .iface T xv',recovered:=true }] ⟨fn,tm2,td2,[],.run,.normal,none⟩) (cs:=cs0) k1 k2
                     have hle:=g3.le
                     have hle:μ.le μ3:=hle
                     refine⟨μ3,⟨fn,tm2,td2,[],.returning,.normal,none⟩,[],W3,?_,⟨g3.env (Ah.le_trans hH.le hle),hlaid.mono hle,[],[],.plain fn t n tm2 todo td2 [] [] true .normal none none (ht2.mono hle) (hi2.mono hle) .nil .none,.nil,by simp⟩⟩
                     refine .head s0 (s1.trans (s2.trans (.head s3 (Steps.trans s4 (.one ?_)))))
                     exact s5
            ·cases hpv
           ·cases hpv
          ·cases hpv
         ·cases hpv
       ·cases h
     ·cases h
   ·cases h
end
noncomputable def dh (X:Ctx) (pf:Pf) (f:FuncId) (ids:List Nat) (S:Stop) (ks:List (FuncId × List Nat)) (Q:Value→List (Option AJ)→Prop) (R:Ay→Prop) (n:Nat):Ay→Prop:=
 Nat.rec (motive:=fun _=>Ay→Prop) (fun _=>False) (fun _ ih c=>match EX X f c with
  | some (v,H)=>Q v ((ids++Af 4 v).map H.get)
  | none=>bif S.here c then(match S.Te X ks c with
   | some c2=>R c2
   | none=>False)
   else match Yt X c with
    | some _=>match LB X c with
     | some c2=>ih c2
     | none=>False
    | none=>Gi X pf c ih) n
theorem YB {X:Ctx} {pf:Pf} (hpf:FD X pf) {f:FuncId} {ids:List Nat} {S:Stop} {ks:List (FuncId × List Nat)} (hl:(X.laid.all fun p=>Nat.blt p.1 S.N)=true) {Q:Value→List (Option AJ)→Prop} {R:Ay→Prop} {Q':Value→AA→Prop}
 (hQ:∀v H,Q v ((ids++Af 4 v).map H.get)→Q' v H) (hR:∀c,R c→As X S.N f Q' c):∀(n:Nat) (c:Ay),dh X pf f ids S ks Q R n c→As X S.N f Q' c:=by
 intro n
 induction n with
 | zero=>intro c h;cases h
 | succ n ih=>
  intro c h
  have h:(match EX X f c with
   | some (v,H)=>Q v ((ids++Af 4 v).map H.get)
   | none=>bif S.here c then(match S.Te X ks c with
    | some c2=>R c2
    | none=>False)
    else match Yt X c with
     | some _=>match LB X c with
      | some c2=>dh X pf f ids S ks Q R n c2
      | none=>False
     | none=>Gi X pf c (dh X pf f ids S ks Q R n)):=h
  split at h
  ·rename_i v H e;exact A6.here ⟨v,H,e,hQ v H h⟩
  ·cases hs:S.here c
   ·simp only[hs,cond_false]at h
    split at h
    ·split at h
     ·rename_i c2 hp
      exact A6.bind (Reach.Gq ((Qf hp).reach (Φ:=fun c'=>c'=c2) rfl)) fun c' e=>e ▸ ih c2 h
     ·cases h
    ·exact A6.bind (Reach.Gq (Hl hpf h)) fun c' hc=>ih c' hc
   ·simp only[hs,cond_true]at h
    split at h
    ·rename_i c2 hc
     unfold Stop.Te at hc
     split at hc
     ·rename_i c1 h1
      cases hd:(Ck c1.fr.todo&&(c1.cs.all fun f=>Ck f.todo))
      ·simp only[hd,cond_false]at hc;cases hc
      ·simp only[hd,cond_true]at hc
       simp only[Bool.and_eq_true]at hd
       cases hb:(Nat.ble S.N (Gb ks (S.ids c1) c1).H.next&&(S.ids (Gb ks (S.ids c1) c1)).all (fun b=>Nat.blt b (Gb ks (S.ids c1) c1).H.next))
       ·simp only[hb,cond_false]at hc;cases hc
       ·simp only[hb,cond_true]at hc
        simp only[Bool.and_eq_true]at hb
        have hr:=O5 (X:=X) hl (Nat.le_of_ble_eq_true hb.1) hb.2 hc (hR c2 h)
        exact A6.bind (Reach.Gq ((ML.step h1).reach (Φ:=fun c'=>c'=c1) rfl)) fun c' e=>e ▸ QD hd.1 hd.2 hr
     ·cases hc
    ·cases h
end Go.AD

set_option maxRecDepth 1000000
namespace Go.AD
open Go.Proofs
abbrev lets:ByteArray:={ data:=#[45,46,48,49,50,51,52,53,54,55,56,57,95,97,98,99,100,101,102,103,104,105,106,107,108,109,110,111,112,113,114,115,116,117,118,119,120,121,122] }
noncomputable abbrev dN:List (FuncId × Cn):=[(Cq,PK)]
noncomputable def W7:Ctx:=Cp Tryz.prog AL dN
structure GK (s:ByteArray) (c:Int):Prop where
 no:ba s c= -1
noncomputable def QG:FJ:=fun args H K=>match args with
 | [.string s,.int .u8 c]=>GK s c∧K (.int .i64 (.negSucc 0)) H
 | _=>False
noncomputable def W6:Pf:=fun g=>bif Nat.beq g Cq then some QG else Cv g
def ez (r:Nat):Bool:=decide (0≤ba lets r)
theorem XR (Q:Value→List (Option AJ)→Prop):(List.range 128).map (fun r=>Gv W7 Cv AY [] Q 600 (st AY 9 [.string lets,.int .i32 (Int.ofNat r)] J2))=(List.range 128).map (fun r=>Q (.bool (ez r)) []):=by kernel_rfl
theorem Va (r:Int) (Q:Value→List (Option AJ)→Prop):Gv W7 W6 AY [] Q 210 (st AY 9 [.string lets,.int .i32 r] J2)=(
 (bif decide (0≤r)then(bif decide (r < 128)then(GK lets (IntKind.wrap IntKind.u8 r))∧(Q (.bool false) [])else(bif r==65533 then False else(bif decide (0≤r)then(bif decide (r < 55296)then(bif decide (IntKind.wrap .i64 (Int.ofNat (ByteArray.size (Utf8.encode r)) - 1) < 39)then(bif decide (0≤IntKind.wrap .i64 (Int.ofNat (ByteArray.size (Utf8.encode r)) - 1))&&Nat.blt (Int.toNat (IntKind.wrap .i64 (Int.ofNat (ByteArray.size (Utf8.encode r)) - 1))) (ByteArray.size lets)then(bif decide (0≤IntKind.wrap .i64 (Int.ofNat (ByteArray.size (Utf8.encode r)) - 1))&&Nat.blt (Int.toNat (IntKind.wrap .i64 (Int.ofNat (ByteArray.size (Utf8.encode r)) - 1))) (ByteArray.size (Utf8.encode r))then(bif A9 lets (Int.toNat (IntKind.wrap .i64 (Int.ofNat (ByteArray.size (Utf8.encode r)) - 1))) != A9 (Utf8.encode r) (Int.toNat (IntKind.wrap .i64 (Int.ofNat (ByteArray.size (Utf8.encode r)) - 1)))then(bif decide (0≤39)&&Nat.ble 39 (ByteArray.size lets)&&decide (0≤IntKind.wrap .i64 (IntKind.wrap .i64 (Int.ofNat (ByteArray.size (Utf8.encode r)) - 1)+1))&&Nat.ble (Int.toNat (IntKind.wrap .i64 (IntKind.wrap .i64 (Int.ofNat (ByteArray.size (Utf8.encode r)) - 1)+1))) 39 then(bif decide (0≤IntKind.wrap .i64 (Int.ofNat (ByteArray.size (Utf8.encode r)) - 1))&&Nat.blt (Int.toNat (IntKind.wrap .i64 (Int.ofNat (ByteArray.size (Utf8.encode r)) - 1))) (ByteArray.size (Utf8.encode r))then(GK (ByteArray.extract lets (Int.toNat (IntKind.wrap .i64 (IntKind.wrap .i64 (Int.ofNat (ByteArray.size (Utf8.encode r)) - 1)+1))) 39) (A9 (Utf8.encode r) (Int.toNat (IntKind.wrap .i64 (Int.ofNat (ByteArray.size (Utf8.encode r)) - 1)))))∧(Q (.bool false) [])else False)else False)else(bif decide (1 < Int.ofNat (ByteArray.size (Utf8.encode r)))then(bif decide (0≤IntKind.wrap .i64 (IntKind.wrap .i64 (Int.ofNat (ByteArray.size (Utf8.encode r)) - 1) - 1))&&Nat.blt (Int.toNat (IntKind.wrap .i64 (IntKind.wrap .i64 (Int.ofNat (ByteArray.size (Utf8.encode r)) - 1) - 1))) (ByteArray.size lets)then(bif decide (0≤IntKind.wrap .i64 (IntKind.wrap .i64 (Int.ofNat (ByteArray.size (Utf8.encode r)) - 1) - 1))&&Nat.blt (Int.toNat (IntKind.wrap .i64 (IntKind.wrap .i64 (Int.ofNat (ByteArray.size (Utf8.encode r)) - 1) - 1))) (ByteArray.size (Utf8.encode r))then(bif A9 lets (Int.toNat (IntKind.wrap .i64 (IntKind.wrap .i64 (Int.ofNat (ByteArray.size (Utf8.encode r)) - 1) - 1))) != A9 (Utf8.encode r) (Int.toNat (IntKind.wrap .i64 (IntKind.wrap .i64 (Int.ofNat (ByteArray.size (Utf8.encode r)) - 1) - 1)))then False else(bif decide (2 < Int.ofNat (ByteArray.size (Utf8.encode r)))then(bif decide (0≤IntKind.wrap .i64 (IntKind.wrap .i64 (Int.ofNat (ByteArray.size (Utf8.encode r)) - 1) - 2))&&Nat.blt (Int.toNat (IntKind.wrap .i64 (IntKind.wrap .i64 (Int.ofNat (ByteArray.size (Utf8.encode r)) - 1) - 2))) (ByteArray.size lets)then(bif decide (0≤IntKind.wrap .i64 (IntKind.wrap .i64 (Int.ofNat (ByteArray.size (Utf8.encode r)) - 1) - 2))&&Nat.blt (Int.toNat (IntKind.wrap .i64 (IntKind.wrap .i64 (Int.ofNat (ByteArray.size (Utf8.encode r)) - 1) - 2))) (ByteArray.size (Utf8.encode r))then(bif A9 lets (Int.toNat (IntKind.wrap .i64 (IntKind.wrap .i64 (Int.ofNat (ByteArray.size (Utf8.encode r)) - 1) - 2))) != A9 (Utf8.encode r) (Int.toNat (IntKind.wrap .i64 (IntKind.wrap .i64 (Int.ofNat (ByteArray.size (Utf8.encode r)) - 1) - 2)))then False else(bif decide (3 < Int.ofNat (ByteArray.size (Utf8.encode r)))then
 (bif decide (0≤IntKind.wrap .i64 (IntKind.wrap .i64 (Int.ofNat (ByteArray.size (Utf8.encode r)) - 1) - 3))&&Nat.blt (Int.toNat (IntKind.wrap .i64 (IntKind.wrap .i64 (Int.ofNat (ByteArray.size (Utf8.encode r)) - 1) - 3))) (ByteArray.size lets)then False else False)else False))else False)else False)else(bif decide (IntKind.wrap .i64 (IntKind.wrap .i64 (Int.ofNat (ByteArray.size (Utf8.encode r)) - 1) - IntKind.wrap .i64 (Int.ofNat (ByteArray.size (Utf8.encode r)) - 1))≥0)then(Q (.bool true) [])else(Q (.bool false) []))))else False)else False)else(bif decide (IntKind.wrap .i64 (IntKind.wrap .i64 (Int.ofNat (ByteArray.size (Utf8.encode r)) - 1) - IntKind.wrap .i64 (Int.ofNat (ByteArray.size (Utf8.encode r)) - 1))≥0)then(Q (.bool true) [])else(Q (.bool false) []))))else False)else False)else(Q (.bool false) []))else(bif decide (57343 < r)then(bif decide (r≤1114111)then(bif decide (IntKind.wrap .i64 (Int.ofNat (ByteArray.size (Utf8.encode r)) - 1) < 39)then(bif decide (0≤IntKind.wrap .i64 (Int.ofNat (ByteArray.size (Utf8.encode r)) - 1))&&Nat.blt (Int.toNat (IntKind.wrap .i64 (Int.ofNat (ByteArray.size (Utf8.encode r)) - 1))) (ByteArray.size lets)then(bif decide (0≤IntKind.wrap .i64 (Int.ofNat (ByteArray.size (Utf8.encode r)) - 1))&&Nat.blt (Int.toNat (IntKind.wrap .i64 (Int.ofNat (ByteArray.size (Utf8.encode r)) - 1))) (ByteArray.size (Utf8.encode r))then(bif A9 lets (Int.toNat (IntKind.wrap .i64 (Int.ofNat (ByteArray.size (Utf8.encode r)) - 1))) != A9 (Utf8.encode r) (Int.toNat (IntKind.wrap .i64 (Int.ofNat (ByteArray.size (Utf8.encode r)) - 1)))then(bif decide (0≤39)&&Nat.ble 39 (ByteArray.size lets)&&decide (0≤IntKind.wrap .i64 (IntKind.wrap .i64 (Int.ofNat (ByteArray.size (Utf8.encode r)) - 1)+1))&&Nat.ble (Int.toNat (IntKind.wrap .i64 (IntKind.wrap .i64 (Int.ofNat (ByteArray.size (Utf8.encode r)) - 1)+1))) 39 then(bif decide (0≤IntKind.wrap .i64 (Int.ofNat (ByteArray.size (Utf8.encode r)) - 1))&&Nat.blt (Int.toNat (IntKind.wrap .i64 (Int.ofNat (ByteArray.size (Utf8.encode r)) - 1))) (ByteArray.size (Utf8.encode r))then(GK (ByteArray.extract lets (Int.toNat (IntKind.wrap .i64 (IntKind.wrap .i64 (Int.ofNat (ByteArray.size (Utf8.encode r)) - 1)+1))) 39) (A9 (Utf8.encode r) (Int.toNat (IntKind.wrap .i64 (Int.ofNat (ByteArray.size (Utf8.encode r)) - 1)))))∧(Q (.bool false) [])else False)else False)else(bif decide (1 < Int.ofNat (ByteArray.size (Utf8.encode r)))then(bif decide (0≤IntKind.wrap .i64 (IntKind.wrap .i64 (Int.ofNat (ByteArray.size (Utf8.encode r)) - 1) - 1))&&Nat.blt (Int.toNat (IntKind.wrap .i64 (IntKind.wrap .i64 (Int.ofNat (ByteArray.size (Utf8.encode r)) - 1) - 1))) (ByteArray.size lets)then(bif decide (0≤IntKind.wrap .i64 (IntKind.wrap .i64 (Int.ofNat (ByteArray.size (Utf8.encode r)) - 1) - 1))&&Nat.blt (Int.toNat (IntKind.wrap .i64 (IntKind.wrap .i64 (Int.ofNat (ByteArray.size (Utf8.encode r)) - 1) - 1))) (ByteArray.size (Utf8.encode r))then(bif A9 lets (Int.toNat (IntKind.wrap .i64 (IntKind.wrap .i64 (Int.ofNat (ByteArray.size (Utf8.encode r)) - 1) - 1))) != A9 (Utf8.encode r) (Int.toNat (IntKind.wrap .i64 (IntKind.wrap .i64 (Int.ofNat (ByteArray.size (Utf8.encode r)) - 1) - 1)))then False else(bif decide (2 < Int.ofNat (ByteArray.size (Utf8.encode r)))then(bif decide (0≤IntKind.wrap .i64 (IntKind.wrap .i64 (Int.ofNat (ByteArray.size (Utf8.encode r)) - 1) - 2))&&Nat.blt (Int.toNat (IntKind.wrap .i64 (IntKind.wrap .i64 (Int.ofNat (ByteArray.size (Utf8.encode r)) - 1) - 2))) (ByteArray.size lets)then
 (bif decide (0≤IntKind.wrap .i64 (IntKind.wrap .i64 (Int.ofNat (ByteArray.size (Utf8.encode r)) - 1) - 2))&&Nat.blt (Int.toNat (IntKind.wrap .i64 (IntKind.wrap .i64 (Int.ofNat (ByteArray.size (Utf8.encode r)) - 1) - 2))) (ByteArray.size (Utf8.encode r))then(bif A9 lets (Int.toNat (IntKind.wrap .i64 (IntKind.wrap .i64 (Int.ofNat (ByteArray.size (Utf8.encode r)) - 1) - 2))) != A9 (Utf8.encode r) (Int.toNat (IntKind.wrap .i64 (IntKind.wrap .i64 (Int.ofNat (ByteArray.size (Utf8.encode r)) - 1) - 2)))then False else(bif decide (3 < Int.ofNat (ByteArray.size (Utf8.encode r)))then False else False))else False)else False)else(bif decide (IntKind.wrap .i64 (IntKind.wrap .i64 (Int.ofNat (ByteArray.size (Utf8.encode r)) - 1) - IntKind.wrap .i64 (Int.ofNat (ByteArray.size (Utf8.encode r)) - 1))≥0)then(Q (.bool true) [])else(Q (.bool false) []))))else False)else False)else(bif decide (IntKind.wrap .i64 (IntKind.wrap .i64 (Int.ofNat (ByteArray.size (Utf8.encode r)) - 1) - IntKind.wrap .i64 (Int.ofNat (ByteArray.size (Utf8.encode r)) - 1))≥0)then(Q (.bool true) [])else(Q (.bool false) []))))else False)else False)else(Q (.bool false) []))else(Q (.bool false) []))else(Q (.bool false) [])))else(bif decide (57343 < r)then(bif decide (r≤1114111)then(bif decide (IntKind.wrap .i64 (Int.ofNat (ByteArray.size (Utf8.encode r)) - 1) < 39)then(bif decide (0≤IntKind.wrap .i64 (Int.ofNat (ByteArray.size (Utf8.encode r)) - 1))&&Nat.blt (Int.toNat (IntKind.wrap .i64 (Int.ofNat (ByteArray.size (Utf8.encode r)) - 1))) (ByteArray.size lets)then(bif decide (0≤IntKind.wrap .i64 (Int.ofNat (ByteArray.size (Utf8.encode r)) - 1))&&Nat.blt (Int.toNat (IntKind.wrap .i64 (Int.ofNat (ByteArray.size (Utf8.encode r)) - 1))) (ByteArray.size (Utf8.encode r))then(bif A9 lets (Int.toNat (IntKind.wrap .i64 (Int.ofNat (ByteArray.size (Utf8.encode r)) - 1))) != A9 (Utf8.encode r) (Int.toNat (IntKind.wrap .i64 (Int.ofNat (ByteArray.size (Utf8.encode r)) - 1)))then(bif decide (0≤39)&&Nat.ble 39 (ByteArray.size lets)&&decide (0≤IntKind.wrap .i64 (IntKind.wrap .i64 (Int.ofNat (ByteArray.size (Utf8.encode r)) - 1)+1))&&Nat.ble (Int.toNat (IntKind.wrap .i64 (IntKind.wrap .i64 (Int.ofNat (ByteArray.size (Utf8.encode r)) - 1)+1))) 39 then(bif decide (0≤IntKind.wrap .i64 (Int.ofNat (ByteArray.size (Utf8.encode r)) - 1))&&Nat.blt (Int.toNat (IntKind.wrap .i64 (Int.ofNat (ByteArray.size (Utf8.encode r)) - 1))) (ByteArray.size (Utf8.encode r))then(GK (ByteArray.extract lets (Int.toNat (IntKind.wrap .i64 (IntKind.wrap .i64 (Int.ofNat (ByteArray.size (Utf8.encode r)) - 1)+1))) 39) (A9 (Utf8.encode r) (Int.toNat (IntKind.wrap .i64 (Int.ofNat (ByteArray.size (Utf8.encode r)) - 1)))))∧(Q (.bool false) [])else False)else False)else(bif decide (1 < Int.ofNat (ByteArray.size (Utf8.encode r)))then(bif decide (0≤IntKind.wrap .i64 (IntKind.wrap .i64 (Int.ofNat (ByteArray.size (Utf8.encode r)) - 1) - 1))&&Nat.blt (Int.toNat (IntKind.wrap .i64 (IntKind.wrap .i64 (Int.ofNat (ByteArray.size (Utf8.encode r)) - 1) - 1))) (ByteArray.size lets)then(bif decide (0≤IntKind.wrap .i64 (IntKind.wrap .i64 (Int.ofNat (ByteArray.size (Utf8.encode r)) - 1) - 1))&&Nat.blt (Int.toNat (IntKind.wrap .i64 (IntKind.wrap .i64 (Int.ofNat (ByteArray.size (Utf8.encode r)) - 1) - 1))) (ByteArray.size (Utf8.encode r))then(bif A9 lets (Int.toNat (IntKind.wrap .i64 (IntKind.wrap .i64 (Int.ofNat (ByteArray.size (Utf8.encode r)) - 1) - 1))) != A9 (Utf8.encode r) (Int.toNat (IntKind.wrap .i64 (IntKind.wrap .i64 (Int.ofNat (ByteArray.size (Utf8.encode r)) - 1) - 1)))then False else
 (bif decide (2 < Int.ofNat (ByteArray.size (Utf8.encode r)))then(bif decide (0≤IntKind.wrap .i64 (IntKind.wrap .i64 (Int.ofNat (ByteArray.size (Utf8.encode r)) - 1) - 2))&&Nat.blt (Int.toNat (IntKind.wrap .i64 (IntKind.wrap .i64 (Int.ofNat (ByteArray.size (Utf8.encode r)) - 1) - 2))) (ByteArray.size lets)then(bif decide (0≤IntKind.wrap .i64 (IntKind.wrap .i64 (Int.ofNat (ByteArray.size (Utf8.encode r)) - 1) - 2))&&Nat.blt (Int.toNat (IntKind.wrap .i64 (IntKind.wrap .i64 (Int.ofNat (ByteArray.size (Utf8.encode r)) - 1) - 2))) (ByteArray.size (Utf8.encode r))then(bif A9 lets (Int.toNat (IntKind.wrap .i64 (IntKind.wrap .i64 (Int.ofNat (ByteArray.size (Utf8.encode r)) - 1) - 2))) != A9 (Utf8.encode r) (Int.toNat (IntKind.wrap .i64 (IntKind.wrap .i64 (Int.ofNat (ByteArray.size (Utf8.encode r)) - 1) - 2)))then False else(bif decide (3 < Int.ofNat (ByteArray.size (Utf8.encode r)))then False else False))else False)else False)else(bif decide (IntKind.wrap .i64 (IntKind.wrap .i64 (Int.ofNat (ByteArray.size (Utf8.encode r)) - 1) - IntKind.wrap .i64 (Int.ofNat (ByteArray.size (Utf8.encode r)) - 1))≥0)then(Q (.bool true) [])else(Q (.bool false) []))))else False)else False)else(bif decide (IntKind.wrap .i64 (IntKind.wrap .i64 (Int.ofNat (ByteArray.size (Utf8.encode r)) - 1) - IntKind.wrap .i64 (Int.ofNat (ByteArray.size (Utf8.encode r)) - 1))≥0)then(Q (.bool true) [])else(Q (.bool false) []))))else False)else False)else(Q (.bool false) []))else(Q (.bool false) []))else(Q (.bool false) [])))))else(bif r==65533 then False else(bif decide (0≤r)then(bif decide (r < 55296)then(bif decide (IntKind.wrap .i64 (Int.ofNat (ByteArray.size (Utf8.encode r)) - 1) < 39)then(bif decide (0≤IntKind.wrap .i64 (Int.ofNat (ByteArray.size (Utf8.encode r)) - 1))&&Nat.blt (Int.toNat (IntKind.wrap .i64 (Int.ofNat (ByteArray.size (Utf8.encode r)) - 1))) (ByteArray.size lets)then(bif decide (0≤IntKind.wrap .i64 (Int.ofNat (ByteArray.size (Utf8.encode r)) - 1))&&Nat.blt (Int.toNat (IntKind.wrap .i64 (Int.ofNat (ByteArray.size (Utf8.encode r)) - 1))) (ByteArray.size (Utf8.encode r))then(bif A9 lets (Int.toNat (IntKind.wrap .i64 (Int.ofNat (ByteArray.size (Utf8.encode r)) - 1))) != A9 (Utf8.encode r) (Int.toNat (IntKind.wrap .i64 (Int.ofNat (ByteArray.size (Utf8.encode r)) - 1)))then(bif decide (0≤39)&&Nat.ble 39 (ByteArray.size lets)&&decide (0≤IntKind.wrap .i64 (IntKind.wrap .i64 (Int.ofNat (ByteArray.size (Utf8.encode r)) - 1)+1))&&Nat.ble (Int.toNat (IntKind.wrap .i64 (IntKind.wrap .i64 (Int.ofNat (ByteArray.size (Utf8.encode r)) - 1)+1))) 39 then(bif decide (0≤IntKind.wrap .i64 (Int.ofNat (ByteArray.size (Utf8.encode r)) - 1))&&Nat.blt (Int.toNat (IntKind.wrap .i64 (Int.ofNat (ByteArray.size (Utf8.encode r)) - 1))) (ByteArray.size (Utf8.encode r))then(GK (ByteArray.extract lets (Int.toNat (IntKind.wrap .i64 (IntKind.wrap .i64 (Int.ofNat (ByteArray.size (Utf8.encode r)) - 1)+1))) 39) (A9 (Utf8.encode r) (Int.toNat (IntKind.wrap .i64 (Int.ofNat (ByteArray.size (Utf8.encode r)) - 1)))))∧(Q (.bool false) [])else False)else False)else(bif decide (1 < Int.ofNat (ByteArray.size (Utf8.encode r)))then(bif decide (0≤IntKind.wrap .i64 (IntKind.wrap .i64 (Int.ofNat (ByteArray.size (Utf8.encode r)) - 1) - 1))&&Nat.blt (Int.toNat (IntKind.wrap .i64 (IntKind.wrap .i64 (Int.ofNat (ByteArray.size (Utf8.encode r)) - 1) - 1))) (ByteArray.size lets)then
 (bif decide (0≤IntKind.wrap .i64 (IntKind.wrap .i64 (Int.ofNat (ByteArray.size (Utf8.encode r)) - 1) - 1))&&Nat.blt (Int.toNat (IntKind.wrap .i64 (IntKind.wrap .i64 (Int.ofNat (ByteArray.size (Utf8.encode r)) - 1) - 1))) (ByteArray.size (Utf8.encode r))then(bif A9 lets (Int.toNat (IntKind.wrap .i64 (IntKind.wrap .i64 (Int.ofNat (ByteArray.size (Utf8.encode r)) - 1) - 1))) != A9 (Utf8.encode r) (Int.toNat (IntKind.wrap .i64 (IntKind.wrap .i64 (Int.ofNat (ByteArray.size (Utf8.encode r)) - 1) - 1)))then False else(bif decide (2 < Int.ofNat (ByteArray.size (Utf8.encode r)))then(bif decide (0≤IntKind.wrap .i64 (IntKind.wrap .i64 (Int.ofNat (ByteArray.size (Utf8.encode r)) - 1) - 2))&&Nat.blt (Int.toNat (IntKind.wrap .i64 (IntKind.wrap .i64 (Int.ofNat (ByteArray.size (Utf8.encode r)) - 1) - 2))) (ByteArray.size lets)then(bif decide (0≤IntKind.wrap .i64 (IntKind.wrap .i64 (Int.ofNat (ByteArray.size (Utf8.encode r)) - 1) - 2))&&Nat.blt (Int.toNat (IntKind.wrap .i64 (IntKind.wrap .i64 (Int.ofNat (ByteArray.size (Utf8.encode r)) - 1) - 2))) (ByteArray.size (Utf8.encode r))then(bif A9 lets (Int.toNat (IntKind.wrap .i64 (IntKind.wrap .i64 (Int.ofNat (ByteArray.size (Utf8.encode r)) - 1) - 2))) != A9 (Utf8.encode r) (Int.toNat (IntKind.wrap .i64 (IntKind.wrap .i64 (Int.ofNat (ByteArray.size (Utf8.encode r)) - 1) - 2)))then False else(bif decide (3 < Int.ofNat (ByteArray.size (Utf8.encode r)))then(bif decide (0≤IntKind.wrap .i64 (IntKind.wrap .i64 (Int.ofNat (ByteArray.size (Utf8.encode r)) - 1) - 3))&&Nat.blt (Int.toNat (IntKind.wrap .i64 (IntKind.wrap .i64 (Int.ofNat (ByteArray.size (Utf8.encode r)) - 1) - 3))) (ByteArray.size lets)then False else False)else False))else False)else False)else(bif decide (IntKind.wrap .i64 (IntKind.wrap .i64 (Int.ofNat (ByteArray.size (Utf8.encode r)) - 1) - IntKind.wrap .i64 (Int.ofNat (ByteArray.size (Utf8.encode r)) - 1))≥0)then(Q (.bool true) [])else(Q (.bool false) []))))else False)else False)else(bif decide (IntKind.wrap .i64 (IntKind.wrap .i64 (Int.ofNat (ByteArray.size (Utf8.encode r)) - 1) - IntKind.wrap .i64 (Int.ofNat (ByteArray.size (Utf8.encode r)) - 1))≥0)then(Q (.bool true) [])else(Q (.bool false) []))))else False)else False)else(Q (.bool false) []))else(bif decide (57343 < r)then(bif decide (r≤1114111)then(bif decide (IntKind.wrap .i64 (Int.ofNat (ByteArray.size (Utf8.encode r)) - 1) < 39)then(bif decide (0≤IntKind.wrap .i64 (Int.ofNat (ByteArray.size (Utf8.encode r)) - 1))&&Nat.blt (Int.toNat (IntKind.wrap .i64 (Int.ofNat (ByteArray.size (Utf8.encode r)) - 1))) (ByteArray.size lets)then(bif decide (0≤IntKind.wrap .i64 (Int.ofNat (ByteArray.size (Utf8.encode r)) - 1))&&Nat.blt (Int.toNat (IntKind.wrap .i64 (Int.ofNat (ByteArray.size (Utf8.encode r)) - 1))) (ByteArray.size (Utf8.encode r))then(bif A9 lets (Int.toNat (IntKind.wrap .i64 (Int.ofNat (ByteArray.size (Utf8.encode r)) - 1))) != A9 (Utf8.encode r) (Int.toNat (IntKind.wrap .i64 (Int.ofNat (ByteArray.size (Utf8.encode r)) - 1)))then(bif decide (0≤39)&&Nat.ble 39 (ByteArray.size lets)&&decide (0≤IntKind.wrap .i64 (IntKind.wrap .i64 (Int.ofNat (ByteArray.size (Utf8.encode r)) - 1)+1))&&Nat.ble (Int.toNat (IntKind.wrap .i64 (IntKind.wrap .i64 (Int.ofNat (ByteArray.size (Utf8.encode r)) - 1)+1))) 39 then(bif decide (0≤IntKind.wrap .i64 (Int.ofNat (ByteArray.size (Utf8.encode r)) - 1))&&Nat.blt (Int.toNat (IntKind.wrap .i64 (Int.ofNat (ByteArray.size (Utf8.encode r)) - 1))) (ByteArray.size (Utf8.encode r))then
 (GK (ByteArray.extract lets (Int.toNat (IntKind.wrap .i64 (IntKind.wrap .i64 (Int.ofNat (ByteArray.size (Utf8.encode r)) - 1)+1))) 39) (A9 (Utf8.encode r) (Int.toNat (IntKind.wrap .i64 (Int.ofNat (ByteArray.size (Utf8.encode r)) - 1)))))∧(Q (.bool false) [])else False)else False)else(bif decide (1 < Int.ofNat (ByteArray.size (Utf8.encode r)))then(bif decide (0≤IntKind.wrap .i64 (IntKind.wrap .i64 (Int.ofNat (ByteArray.size (Utf8.encode r)) - 1) - 1))&&Nat.blt (Int.toNat (IntKind.wrap .i64 (IntKind.wrap .i64 (Int.ofNat (ByteArray.size (Utf8.encode r)) - 1) - 1))) (ByteArray.size lets)then(bif decide (0≤IntKind.wrap .i64 (IntKind.wrap .i64 (Int.ofNat (ByteArray.size (Utf8.encode r)) - 1) - 1))&&Nat.blt (Int.toNat (IntKind.wrap .i64 (IntKind.wrap .i64 (Int.ofNat (ByteArray.size (Utf8.encode r)) - 1) - 1))) (ByteArray.size (Utf8.encode r))then(bif A9 lets (Int.toNat (IntKind.wrap .i64 (IntKind.wrap .i64 (Int.ofNat (ByteArray.size (Utf8.encode r)) - 1) - 1))) != A9 (Utf8.encode r) (Int.toNat (IntKind.wrap .i64 (IntKind.wrap .i64 (Int.ofNat (ByteArray.size (Utf8.encode r)) - 1) - 1)))then False else(bif decide (2 < Int.ofNat (ByteArray.size (Utf8.encode r)))then(bif decide (0≤IntKind.wrap .i64 (IntKind.wrap .i64 (Int.ofNat (ByteArray.size (Utf8.encode r)) - 1) - 2))&&Nat.blt (Int.toNat (IntKind.wrap .i64 (IntKind.wrap .i64 (Int.ofNat (ByteArray.size (Utf8.encode r)) - 1) - 2))) (ByteArray.size lets)then(bif decide (0≤IntKind.wrap .i64 (IntKind.wrap .i64 (Int.ofNat (ByteArray.size (Utf8.encode r)) - 1) - 2))&&Nat.blt (Int.toNat (IntKind.wrap .i64 (IntKind.wrap .i64 (Int.ofNat (ByteArray.size (Utf8.encode r)) - 1) - 2))) (ByteArray.size (Utf8.encode r))then(bif A9 lets (Int.toNat (IntKind.wrap .i64 (IntKind.wrap .i64 (Int.ofNat (ByteArray.size (Utf8.encode r)) - 1) - 2))) != A9 (Utf8.encode r) (Int.toNat (IntKind.wrap .i64 (IntKind.wrap .i64 (Int.ofNat (ByteArray.size (Utf8.encode r)) - 1) - 2)))then False else(bif decide (3 < Int.ofNat (ByteArray.size (Utf8.encode r)))then False else False))else False)else False)else(bif decide (IntKind.wrap .i64 (IntKind.wrap .i64 (Int.ofNat (ByteArray.size (Utf8.encode r)) - 1) - IntKind.wrap .i64 (Int.ofNat (ByteArray.size (Utf8.encode r)) - 1))≥0)then(Q (.bool true) [])else(Q (.bool false) []))))else False)else False)else(bif decide (IntKind.wrap .i64 (IntKind.wrap .i64 (Int.ofNat (ByteArray.size (Utf8.encode r)) - 1) - IntKind.wrap .i64 (Int.ofNat (ByteArray.size (Utf8.encode r)) - 1))≥0)then(Q (.bool true) [])else(Q (.bool false) []))))else False)else False)else(Q (.bool false) []))else(Q (.bool false) []))else(Q (.bool false) [])))else(bif decide (57343 < r)then(bif decide (r≤1114111)then(bif decide (IntKind.wrap .i64 (Int.ofNat (ByteArray.size (Utf8.encode r)) - 1) < 39)then(bif decide (0≤IntKind.wrap .i64 (Int.ofNat (ByteArray.size (Utf8.encode r)) - 1))&&Nat.blt (Int.toNat (IntKind.wrap .i64 (Int.ofNat (ByteArray.size (Utf8.encode r)) - 1))) (ByteArray.size lets)then(bif decide (0≤IntKind.wrap .i64 (Int.ofNat (ByteArray.size (Utf8.encode r)) - 1))&&Nat.blt (Int.toNat (IntKind.wrap .i64 (Int.ofNat (ByteArray.size (Utf8.encode r)) - 1))) (ByteArray.size (Utf8.encode r))then(bif A9 lets (Int.toNat (IntKind.wrap .i64 (Int.ofNat (ByteArray.size (Utf8.encode r)) - 1))) != A9 (Utf8.encode r) (Int.toNat (IntKind.wrap .i64 (Int.ofNat (ByteArray.size (Utf8.encode r)) - 1)))then
 (bif decide (0≤39)&&Nat.ble 39 (ByteArray.size lets)&&decide (0≤IntKind.wrap .i64 (IntKind.wrap .i64 (Int.ofNat (ByteArray.size (Utf8.encode r)) - 1)+1))&&Nat.ble (Int.toNat (IntKind.wrap .i64 (IntKind.wrap .i64 (Int.ofNat (ByteArray.size (Utf8.encode r)) - 1)+1))) 39 then(bif decide (0≤IntKind.wrap .i64 (Int.ofNat (ByteArray.size (Utf8.encode r)) - 1))&&Nat.blt (Int.toNat (IntKind.wrap .i64 (Int.ofNat (ByteArray.size (Utf8.encode r)) - 1))) (ByteArray.size (Utf8.encode r))then(GK (ByteArray.extract lets (Int.toNat (IntKind.wrap .i64 (IntKind.wrap .i64 (Int.ofNat (ByteArray.size (Utf8.encode r)) - 1)+1))) 39) (A9 (Utf8.encode r) (Int.toNat (IntKind.wrap .i64 (Int.ofNat (ByteArray.size (Utf8.encode r)) - 1)))))∧(Q (.bool false) [])else False)else False)else(bif decide (1 < Int.ofNat (ByteArray.size (Utf8.encode r)))then(bif decide (0≤IntKind.wrap .i64 (IntKind.wrap .i64 (Int.ofNat (ByteArray.size (Utf8.encode r)) - 1) - 1))&&Nat.blt (Int.toNat (IntKind.wrap .i64 (IntKind.wrap .i64 (Int.ofNat (ByteArray.size (Utf8.encode r)) - 1) - 1))) (ByteArray.size lets)then(bif decide (0≤IntKind.wrap .i64 (IntKind.wrap .i64 (Int.ofNat (ByteArray.size (Utf8.encode r)) - 1) - 1))&&Nat.blt (Int.toNat (IntKind.wrap .i64 (IntKind.wrap .i64 (Int.ofNat (ByteArray.size (Utf8.encode r)) - 1) - 1))) (ByteArray.size (Utf8.encode r))then(bif A9 lets (Int.toNat (IntKind.wrap .i64 (IntKind.wrap .i64 (Int.ofNat (ByteArray.size (Utf8.encode r)) - 1) - 1))) != A9 (Utf8.encode r) (Int.toNat (IntKind.wrap .i64 (IntKind.wrap .i64 (Int.ofNat (ByteArray.size (Utf8.encode r)) - 1) - 1)))then False else(bif decide (2 < Int.ofNat (ByteArray.size (Utf8.encode r)))then(bif decide (0≤IntKind.wrap .i64 (IntKind.wrap .i64 (Int.ofNat (ByteArray.size (Utf8.encode r)) - 1) - 2))&&Nat.blt (Int.toNat (IntKind.wrap .i64 (IntKind.wrap .i64 (Int.ofNat (ByteArray.size (Utf8.encode r)) - 1) - 2))) (ByteArray.size lets)then(bif decide (0≤IntKind.wrap .i64 (IntKind.wrap .i64 (Int.ofNat (ByteArray.size (Utf8.encode r)) - 1) - 2))&&Nat.blt (Int.toNat (IntKind.wrap .i64 (IntKind.wrap .i64 (Int.ofNat (ByteArray.size (Utf8.encode r)) - 1) - 2))) (ByteArray.size (Utf8.encode r))then(bif A9 lets (Int.toNat (IntKind.wrap .i64 (IntKind.wrap .i64 (Int.ofNat (ByteArray.size (Utf8.encode r)) - 1) - 2))) != A9 (Utf8.encode r) (Int.toNat (IntKind.wrap .i64 (IntKind.wrap .i64 (Int.ofNat (ByteArray.size (Utf8.encode r)) - 1) - 2)))then False else(bif decide (3 < Int.ofNat (ByteArray.size (Utf8.encode r)))then False else False))else False)else False)else(bif decide (IntKind.wrap .i64 (IntKind.wrap .i64 (Int.ofNat (ByteArray.size (Utf8.encode r)) - 1) - IntKind.wrap .i64 (Int.ofNat (ByteArray.size (Utf8.encode r)) - 1))≥0)then(Q (.bool true) [])else(Q (.bool false) []))))else False)else False)else(bif decide (IntKind.wrap .i64 (IntKind.wrap .i64 (Int.ofNat (ByteArray.size (Utf8.encode r)) - 1) - IntKind.wrap .i64 (Int.ofNat (ByteArray.size (Utf8.encode r)) - 1))≥0)then(Q (.bool true) [])else(Q (.bool false) []))))else False)else False)else(Q (.bool false) []))else(Q (.bool false) []))else(Q (.bool false) [])))))):=by kernel_rfl
theorem WG (Q:Value→List (Option AJ)→Prop):Gv W7 Cv AY [] Q 3000 (st AY 9 [.string lets,.int .i32 65533] J2)=Q (.bool false) []:=by kernel_rfl
end Go.AD

set_option maxRecDepth 1000000
namespace Go.AD
open Go.Proofs
theorem QR (c:UInt8):∀(l:List UInt8),c∉l→Go.Lib.indexByte l c= -1
 | [],_=>rfl
 | b::l,h=>by
  have h1:(b==c)=false:=by rw[beq_eq_false_iff_ne];exact fun e=>h (by simp[e])
  rw[Go.Lib.indexByte,h1,QR c l (fun e=>h (List.mem_cons_of_mem _ e))]
  rfl
theorem QT {n:Nat} (h1:128≤n) (h2:n < 256):128≤(UInt8.ofNat n).toNat:=by
 rw[UInt8.toNat_ofNat'];omega
theorem cO {r:Int} (h:128≤r):∃m,(Utf8.encode r).size=m∧2≤m∧m≤4∧128≤A9 (Utf8.encode r) (m - 1)∧A9 (Utf8.encode r) (m - 1) < 256:=by
 have hlt:∀m,A9 (Utf8.encode r) m < 256:=fun m=>by
  unfold A9
  have:=((Utf8.encode r).data.toList.getD m 0).toNat_lt
  omega
 suffices hh:∃m,(Utf8.encode r).size=m∧2≤m∧m≤4∧128≤A9 (Utf8.encode r) (m - 1) by
  obtain⟨m,a,b,c,d⟩:=hh
  exact⟨m,a,b,c,d,hlt _⟩
 have hc:128≤(if Utf8.valid r then r.toNat else Utf8.runeError):=by
  split
  ·omega
  ·decide
 unfold Utf8.encode
 simp only
 generalize (if Utf8.valid r then r.toNat else Utf8.runeError)=c at hc
 have b:∀(n:Nat),(128:Int)≤((UInt8.ofNat (0x80+n % 64)).toNat:Int):=fun n=>by
  have:=QT (n:=0x80+n % 64) (by omega) (by omega)
  omega
 rw[if_neg (by omega)]
 split
 ·exact⟨2,rfl,by omega,by omega,b c⟩
 ·split
  ·exact⟨3,rfl,by omega,by omega,b c⟩
  ·exact⟨4,rfl,by omega,by omega,b c⟩
theorem S2:∀b∈lets.data.toList,b.toNat < 128:=by decide
theorem Z3 (i:Nat):A9 lets i < 128:=by
 unfold A9
 rw[List.getD_eq_getElem?_getD]
 cases h:lets.data.toList[i]? with
 | none=>decide
 | some b=>
  have:=S2 b (List.mem_of_getElem? h)
  show((b.toNat:Nat):Int) < 128
  omega
theorem PI {c:Int} (h1:128≤c) (h2:c < 256) (a b:Nat):GK (lets.extract a b) c:=by
 refine⟨QR _ _ fun hm=>?_⟩
 have hm2:c.toNat.toUInt8∈lets.data.toList:=by
  have e:(lets.extract a b).data.toList=(lets.data.toList.drop a).take (b - a):=by
   rw[ByteArray.data_extract,Array.toList_extract,List.extract_eq_take_drop]
  rw[e]at hm
  exact List.mem_of_mem_drop (List.mem_of_mem_take hm)
 have:=S2 _ hm2
 have e2:(c.toNat.toUInt8).toNat=c.toNat:=by
  show(UInt8.ofNat c.toNat).toNat=_
  rw[UInt8.toNat_ofNat'];omega
 omega
theorem Yh {a b:Int} (h:a≠b):(a != b)=true:=by
 rw[bne_iff_ne];exact h
theorem beq_false {a b:Int} (h:a≠b):(a==b)=false:=by rw[beq_eq_false_iff_ne];exact h
def Wc (r:Nat):Bool:=if r < 128 then ez r else false
theorem Y1 {r:Int} (h1:128≤r) (h2:r≠65533):Gv W7 W6 AY [] (fun v _=>v= .bool false) 210 (st AY 9 [.string lets,.int .i32 r] J2):=by
 rw[Va]
 obtain⟨m,hm,hm1,hm2,hl,hl2⟩:=cO h1
 have key:∀i,(A9 lets i != A9 (Utf8.encode r) (m - 1))=true:=fun i=>Yh (by have:=Z3 i;omega)
 rw[hm]
 rw[beq_false h2]
 have hq:(fun(v:Value) (_:List (Option AJ))=>v= .bool false) (.bool false) []:=rfl
 have hnb:∀a b,GK (lets.extract a b) (A9 (Utf8.encode r) (m - 1)):=fun a b=>PI hl hl2 a b
 rcases(show m=2∨m=3∨m=4 by omega)with rfl | rfl | rfl
 ·have w:IntKind.wrap .i64 (Int.ofNat 2 - 1)=1:=by decide
  rw[w]
  repeat' first
   | exact hq
   | omega
   | refine AT (fun _=>?_) (fun _=>?_)
   | refine And.intro (hnb _ _) ?_
   | refine AE (key _) ?_
   | refine AE (by decide) ?_
   | refine AW rfl ?_
 ·have w:IntKind.wrap .i64 (Int.ofNat 3 - 1)=2:=by decide
  rw[w]
  repeat' first
   | exact hq
   | omega
   | refine AT (fun _=>?_) (fun _=>?_)
   | refine And.intro (hnb _ _) ?_
   | refine AE (key _) ?_
   | refine AE (by decide) ?_
   | refine AW rfl ?_
 ·have w:IntKind.wrap .i64 (Int.ofNat 4 - 1)=3:=by decide
  rw[w]
  repeat' first
   | exact hq
   | omega
   | refine AT (fun _=>?_) (fun _=>?_)
   | refine And.intro (hnb _ _) ?_
   | refine AE (key _) ?_
   | refine AE (by decide) ?_
   | refine AW rfl ?_
end Go.AD
