/-
  Part of the proof: the machine that runs a program by fixed orders, and that each of its runs is a run of the model; or a run of it in parts. No conditions.
-/
import Derived.Test.YtbojbpalkegahaaGreatDoorC42b
import Derived.WalkKit
import Derived.Lib.Walk
import Derived.Lib.SliceRun
import Derived.Lib.JoinLaws
import Derived.Lib.AppendZeros
import Derived.Lib.AppendZerosOnto
import Derived.Lib.Overlaps
import Derived.Laws.Externs
import Derived.Laws.IdiomCopy
import Derived.Laws.NewBlocks
import Derived.Shelf.RegionOpenPlain
import Derived.Shelf.Spec.SlicesInsert
import Derived.Test.YtbojbpalkegahaaGreatDoorChecked
import Derived.OwnWalk
import Derived.Deep.RegionLaw
import Derived.Below
import Derived.Test.YtbojbpalkegahaaGreatDoorIdSim5
import Derived.Laws.Strings
namespace Go.AD
theorem J3 {H:AA} {b:Nat} {ro:Bool} {o o1:AJ} (hlt:b < H.next) (hf:∀x,H.next≤x→H.get x=none) (h0:BN (D1 b H.next 1) (K5 ro o)=some o1):I6 H b ro [o] (H.put b o1):=by
 refine⟨rfl,fun x hx _=>?_,fun x hx=>?_,fun i p hp=>?_⟩
 ·rw[AA.AN,if_neg hx]
 ·have hx:H.next≤x:=hx
  rw[AA.AN,if_neg (by omega)];exact hf x hx
 ·cases i with
  | zero=>cases hp;exact⟨o1,h0,by show(H.put b o1).get b=_;rw[AA.AN,if_pos rfl]⟩
  | succ i=>cases i<;>cases hp
theorem HT {H:AA} {b:Nat} {ro:Bool} {o o1 p p1:AJ} (hlt:b < H.next) (hf:∀x,H.next≤x→H.get x=none) (h0:BN (D1 b H.next 2) (K5 ro o)=some o1) (h1:BN (D1 b H.next 2) (K5 ro p)=some p1):
 I6 H b ro [o,p] ((H.put b o1).alloc p1):=by
 refine⟨rfl,fun x hx D5=>?_,fun x hx=>?_,fun i q hq=>?_⟩
 ·rw[AA.AQ,if_neg (by show x≠H.next;omega),AA.AN,if_neg hx]
 ·have hx:H.next+1≤x:=hx
  rw[AA.AQ,if_neg (by show x≠H.next;omega),AA.AN,if_neg (by omega)];exact hf x (by omega)
 ·cases i with
  | zero=>
   cases hq
   refine⟨o1,h0,?_⟩
   show((H.put b o1).alloc p1).get b=_
   rw[AA.AQ,if_neg (by show b≠H.next;omega),AA.AN,if_pos rfl]
  | succ i=>cases i with
   | zero=>
    cases hq
    refine⟨p1,h1,?_⟩
    show((H.put b o1).alloc p1).get H.next=_
    rw[AA.AQ,if_pos (show H.next=(H.put b o1).next from rfl)]
   | succ i=>cases i<;>cases hq
theorem Az {H:AA} {b:Nat} {o:AJ} {r seen:List Nat} {f:Nat} (h:H.get b=some o) (hs:seen.any (Nat.beq b)=false):Ah H 0 (f+1) (b::r) seen=Ah H 0 f (EJ o++r) (seen++[b]):=by
 rw[Ah]
 have:Nat.blt b 0=false:=rfl
 simp only[this,hs,Bool.or_false,cond_false,h]
theorem Bg (H:AA) (N:Nat):∀(f:Nat) (todo seen:List Nat) (x:Nat),x∈seen→x∈Ah H N f todo seen
 | 0,_,_,_,h=>h
 | f+1,[],_,_,h=>h
 | f+1,b::r,seen,x,h=>by
  rw[Ah]
  cases hc:(Nat.blt b N||seen.any (Nat.beq b))
  ·simp only[cond_false]
   split
   ·exact Bg H N f _ _ x (by simp[h])
   ·exact Bg H N f r seen x h
  ·simp only[cond_true]
   exact Bg H N f r seen x h
theorem Ma {D:Nat→Prop} {v:Value} {H H2:AA} {s:Pk} {b:Nat} {o o1:AJ} (hr:DU s [o]) (hD:b∈Ac 4 v∨D b) (hg:H.get b=some o1) (hro:o1.ro=false) (hp:o1.Gs=true) (hren:BN (fun i=>[b][i]?) o=some o1)
 (k:B7 D v (C1 s [b] H) H2)
 (hx0:D9 s=[]:=by rfl) (hroot:∀T,¬o.void T:=by intro _;exact id):B7 D v H H2:=by
 refine .step s [o] [b] [b] hr (by simp) rfl (by simp) (fun x hx=>by simp at hx;rw[hx];exact hD) (fun x hx=>?_) (fun i x q hx hq=>?_) (fun q T hq=>by cases hq;exact hroot T) k
 ·simp only[List.mem_singleton]at hx
  subst hx
  rw[Az hg rfl]
  exact Bg H 0 _ _ _ x (by simp)
 ·cases i with
  | zero=>cases hx;cases hq;exact⟨o1,hg,hro,hp,by rw[hx0,E4];exact hren⟩
  | succ i=>cases i<;>cases hx
theorem N0 {D:Nat→Prop} {v:Value} {H H2:AA} {s:Pk} {b n:Nat} {o o1 p p1:AJ} (hr:DU s [o,p]) (hD:b∈Ac 4 v∨D b) (hne:n≠b) (hg:H.get b=some o1) (hro:o1.ro=false) (hp:o1.Gs=true) (hren:BN (fun i=>[b,n][i]?) o=some o1)
 (href:EJ o1=[n]) (hg2:H.get n=some p1) (hro2:p1.ro=false) (hp2:p1.Gs=true) (hren2:BN (fun i=>[b,n][i]?) p=some p1) (k:B7 D v (C1 s [b,n] H) H2)
 (hx0:D9 s=[]:=by rfl) (hroot:∀T,¬o.void T:=by intro _;exact id):B7 D v H H2:=by
 have hn:Nat.beq n b=false:=by
  cases hq:Nat.beq n b
  ·rfl
  ·exact absurd (Nat.eq_of_beq_eq_true hq) hne
 have hreach:∀x,x=b∨x=n→x∈Ah H 0 200 [b] []:=by
  intro x hx
  rw[Az hg rfl,href,List.append_nil,List.nil_append,Az hg2 (by simp[hn])]
  refine Bg H 0 _ _ _ x ?_
  rcases hx with rfl | rfl<;>simp
 refine .step s [o,p] [b,n] [b] hr (by simp) rfl (by simp[Ne.symm hne]) (fun x hx=>by simp at hx;rw[hx];exact hD) (fun x hx=>hreach x (by simpa using hx)) (fun i x q hx hq=>?_) (fun q T hq=>by cases hq;exact hroot T) k
 cases i with
 | zero=>cases hx;cases hq;exact⟨o1,hg,hro,hp,by rw[hx0,E4];exact hren⟩
 | succ i=>cases i with
  | zero=>cases hx;cases hq;exact⟨p1,hg2,hro2,hp2,by rw[hx0,E4];exact hren2⟩
  | succ i=>cases i<;>cases hx
end Go.AD

set_option maxRecDepth 1000000
namespace Go.AD
open Go.Proofs
theorem An {X:Ctx} {f:FuncId} {p:GP} {rest:Pf} (h:∀args H (K:Value→AA→Prop),p args H K→∃v H',B5 X f args .normal H=some (v,H')∧K v H') (hr:El X rest):El X (fun g=>bif Nat.beq g f then some p else rest g):=by
 intro g F hg args H K hF
 cases hb:Nat.beq g f
 ·simp only[hb,cond_false]at hg
  exact hr g F hg args H K hF
 ·simp only[hb,cond_true,Option.some.injEq]at hg
  subst hg
  have:=Nat.eq_of_beq_eq_true hb;subst this
  exact h args H K hF
noncomputable def fY:List (FuncId × Ci):=[(BI,Ay AM 9 [] PA)]
noncomputable def XA:Ctx:=Cf Tryz.prog AM fY
noncomputable def Zt:Pf:=fun g=>bif Nat.beq g BI then some (Bh AM 9 [] PA)else Cp g
theorem I7:El XA Zt:=An (fun _ _ _ h=>Ap (by kernel_rfl) h) (Ax _)
theorem XE:Au Tryz.prog AM fY:=Au.cons Uv (Au.nil _ _)
noncomputable def Lp:List AJ:=[.cells [.bool true,.slice none 0 0] 0 false]
noncomputable def J7 (l:List (EK.C AT)):List AJ:=[.cells [.bool true,.slice (some ⟨10,0,some 0⟩) l.length AE] 0 false,.vec AT l false]
noncomputable def p9:Value:= .pointer (some ⟨9,0,none⟩)
end Go.AD

set_option maxRecDepth 1000000
namespace Go.AD
open Go.Proofs
def MH (H:AA) (l:List (EK.C AT)):Prop:=
 (l=[]∧H.get 9=some (.cells [.bool true,.slice none 0 0] 0 false))∨∃m,m≠9∧H.get 9=some (.cells [.bool true,.slice (some ⟨m,0,some 0⟩) l.length AE] 0 false)∧H.get m=some (.vec AT l false)
structure Aj where
 ok:List (EK.C AT)→List Value→Prop
 v:List (EK.C AT)→List Value→Value
 nx:List (EK.C AT)→List Value→List (EK.C AT)
noncomputable def Aj.G (q:Aj) (args:List Value) (objs:List AJ):GT:=
 match args,objs with
 | .pointer (some ⟨9,0,none⟩)::rest,[.abs (.pack (.table l)) _]=> .ask (q.ok l rest) (.ret ⟨q.v l rest,[some (.abs (.pack (.table (q.nx l rest))) false)],[]⟩)
 | _,_=> .fail
noncomputable def Hg (l:List (EK.C AT)):AA:=BF ⟨.leaf,9⟩ [.abs (.pack (.table l)) false]
theorem Gu (l:List (EK.C AT)):∀x,10≤x→(Hg l).get x=none:=by
 intro x hx
 unfold Hg
 rw[EI]
 show(if x < 9 then _ else _)=_
 rw[if_neg (by omega),List.getElem?_eq_none (by simp;omega)]
 rfl
theorem M0:(Hg []).put 9 (.cells [.bool true,.slice none 0 0] 0 false)=BF ⟨.leaf,9⟩ Lp:=by kernel_rfl
theorem MI (l:List (EK.C AT)):((Hg l).put 9 (.cells [.bool true,.slice (some ⟨10,0,some 0⟩) l.length AE] 0 false)).alloc (.vec AT l false)=BF ⟨.leaf,9⟩ (J7 l):=by kernel_rfl
theorem SY {v:Value} {H:AA} {l:List (EK.C AT)} (hv:Cd 6 v=true) (h:H.get 9=some (.abs (.pack (.table l)) false)):Ck AM 9 1 [true] ⟨v,[some (.abs (.pack (.table l)) false)],[]⟩ v H:=by
 refine⟨[],List.nodup_nil,fun b hb=>(by cases hb),rfl,Jr 6 v hv,fun j b o hj=>(by cases hj),fun j o hj hm ho=>?_⟩
 cases j with
 | zero=>cases ho;exact⟨_,rfl,h⟩
 | succ j=>omega
theorem LR {fs:List (FuncId × Ci)} (hfs:Au Tryz.prog AM fs) {f:FuncId} {n:Nat} (he:entry Tryz.prog f=some (n,BH Tryz.prog f [])) {q:Aj}
 (hrun:∀l rest,q.ok l rest→rest.length+1≤n∧Cd 6 (q.v l rest)=true∧Ac 4 (q.v l rest)=[]∧
  (l=[]→Ai (Cf Tryz.prog AM fs) 10 f (fun v H=>v=q.v l rest∧MH H (q.nx l rest)) (st f n (p9::rest) (BF ⟨.leaf,9⟩ Lp)))∧
  Ai (Cf Tryz.prog AM fs) 10 f (fun v H=>v=q.v l rest∧MH H (q.nx l rest)) (st f n (p9::rest) (BF ⟨.leaf,9⟩ (J7 l)))):Dr Tryz.prog AM f (Ay AM 9 [true] q.G):=by
 refine BZ hfs (by kernel_rfl) he (by kernel_rfl) fun argsc objs x hx hro=>?_
 unfold Aj.G at hx
 split at hx
 ·rename_i rest l ro
  simp only[GT.run]at hx
  split at hx
  ·rename_i hok
   cases hx
   have hr0:ro=false:=hro 0 _ rfl rfl
   subst hr0
   obtain⟨g1,g2,g3,g4,g5⟩:=hrun l rest hok
   refine⟨by simpa using g1,?_⟩
   refine At.shut (Q:=fun v H=>v=q.v l rest∧MH H (q.nx l rest)) ?_ ?_
   ·show At (Cf Tryz.prog AM fs) 10 (fun b=>9≤b∧b < 10) f _ (st f n (p9::rest) (Hg l))
    refine At.opened (b:=9) (s:= .table l) (ro:=false) ⟨by omega,by omega⟩ (by rfl) (fun ops p k h=>by cases h) fun objs hr=>?_
    cases hr with
    | Cv=>
     have hN:At (Cf Tryz.prog AM fs) 10 (fun b=>9≤b∧b < 10) f (fun v H=>v=q.v [] rest∧MH H (q.nx [] rest)) (st f n (p9::rest) ((Hg []).put 9 (.cells [.bool true,.slice none 0 0] 0 false))):=by
      rw[M0];exact(g4 rfl).I3
     exact⟨_,J3 (H:=Hg []) (b:=9) (ro:=false) (o1:= .cells [.bool true,.slice none 0 0] 0 false) (show 9 < 10 by decide) (Gu []) rfl,hN⟩
    | table l=>
     have hN:At (Cf Tryz.prog AM fs) 10 (fun b=>9≤b∧b < 10) f (fun v H=>v=q.v l rest∧MH H (q.nx l rest)) (st f n (p9::rest) (((Hg l).put 9 (.cells [.bool true,.slice (some ⟨10,0,some 0⟩) l.length AE] 0 false)).alloc (.vec AT l false))):=by
      rw[MI];exact g5.I3
     exact⟨_,HT (H:=Hg l) (b:=9) (ro:=false) (o1:= .cells [.bool true,.slice (some ⟨10,0,some 0⟩) l.length AE] 0 false) (p1:= .vec AT l false) (show 9 < 10 by decide) (Gu l) rfl rfl,hN⟩
   ·rintro v H ⟨rfl,hT⟩
    rcases hT with⟨e,h9⟩ | ⟨m,hm,h9,hm2⟩
    ·refine⟨_,Ma (s:= .table (q.nx l rest)) (o:= .cells [.bool true,.slice none 0 0] 0 false) (by rw[e];exact .Cv) (.inr ⟨Nat.le_refl 9,Nat.lt_succ_self 9⟩) h9 rfl rfl rfl (.refl _),SY g2 ?_⟩
     exact(B0 (by simp)).root 9 rfl
    ·refine⟨_,N0 (s:= .table (q.nx l rest)) (n:=m) (.table _) (.inr ⟨Nat.le_refl 9,Nat.lt_succ_self 9⟩) hm h9 rfl rfl rfl rfl hm2 rfl rfl rfl (.refl _),SY g2 ?_⟩
     exact(B0 (by simp[Ne.symm hm])).root 9 rfl
  ·cases hx
 ·cases hx
end Go.AD

set_option maxRecDepth 1000000
namespace Go.AD
open Go.Proofs
theorem Pj {v:Value} {H:AA} {o:AJ} (hv:Ac 4 v=[]) (h:([9]++Ac 4 v).map H.get=[some o]):H.get 9=some o:=by
 rw[hv]at h
 simpa using h
theorem ZS {v:Value} {H:AA} {m:Nat} {o p:AJ} (hv:Ac 4 v=[]) (h:([9,m]++Ac 4 v).map H.get=[some o,some p]):H.get 9=some o∧H.get m=some p:=by
 rw[hv]at h
 simpa using h
end Go.AD

set_option linter.unusedVariables false
set_option linter.unusedSimpArgs false
namespace Go.AD
variable {P:Program}
theorem D0 (w:World) (dT sT ty elem:TypeId) (k b o dLen dCap:Nat) (a:Addr) (sLen sCap m:Nat) (cs:List Value)
 (hu:P.underlying dT=some (.slice elem)) (hs:(P.info? elem).map (·.size)=some k) (hm:m=Nat.min sLen dLen) (hn:cs.length=m * k)
 (hsrc:∀j v,cs[j]? = some v→w.cell? (a.add j)=some v) (hc:∀j,j < cs.length→(w.cell? ⟨b,o+j,none⟩).isSome=true) (hf:∀j,j < cs.length→w.frozen? ⟨b,o+j,none⟩=false) (h1:∀v∈cs,v.oneCell'=true):
 (Builtin.copy_ #[dT,sT] ty #[.slice (some ⟨b,o,none⟩) dLen dCap,.slice (some a) sLen sCap]).run P w= .ok (goInt m) (w.setCells b o cs):=by
 have hl:=run_loadCells_list (P:=P) w a cs hsrc
 have hst:=run_storeCells_cells (P:=P) b o cs 0 w (by simpa using hc) (by simpa using hf) h1
 cases hq:P.info? elem with
 | none=>simp[hq]at hs
 | some i=>
  have hi:i.size=k:=by simpa [hq] using hs
  simp[Builtin.copy_,run_underlying hu,Builtin.lenOf,Builtin.firstCells,sizeOf,typeInfo,hq,hi,←hm,←hn,hl,hst]
end Go.AD

set_option linter.unusedVariables false
set_option linter.unusedSimpArgs false
namespace Go.AD
open Go.Proofs Go.RowKit Go.Lib
set_option maxHeartbeats 4000000 in
set_option maxRecDepth 100000 in
theorem QJ (b off n c i vb voff m vc:Nat) (cs vs:List Value) (w:World) (hi:i < n) (hm:0 < m) (hroom:n+m≤c) (hc63:c≤9223372036854775807) (hvb:vb≠b)
 (hcl:cs.length=n * 2) (hvl:vs.length=m * 2)
 (hcs:∀j v,cs[j]? = some v→w.cell? ⟨b,off+j,none⟩=some v) (hsp:∀j,j < (n+m) * 2→(w.cell? ⟨b,off+j,none⟩).isSome=true) (hfz:∀j,j < (n+m) * 2→w.frozen? ⟨b,off+j,none⟩=false)
 (hvs:∀j v,vs[j]? = some v→w.cell? ⟨vb,voff+j,none⟩=some v) (h1c:∀v∈cs,v.oneCell'=true) (h1v:∀v∈vs,v.oneCell'=true)
 (tA tB:TypeId) (kA kB:Nat) (hsa:w.shape? vb=some (tA,kA)) (hsb:w.shape? b=some (tB,kB)) (hkB:kB≠0) (hfa:w.frozen? ⟨vb,voff,none⟩=false) (hfe:w.frozen? ⟨vb,kA,none⟩=false):
 Calls Tryz.prog 69 #[.slice (some ⟨b,off,none⟩) n c,.int .i64 i,.slice (some ⟨vb,voff,none⟩) m vc] w fun e w'=>
  e= .returned (.slice (some ⟨b,off,none⟩) (n+m) c)∧w'=(w.drew.setCells b (off+(i+m) * 2) (cs.drop (i * 2))).setCells b (off+i * 2) vs:=by
 have mixed:Tryz.prog.follows .mixedOrders=true:=by kernel_rfl
 have hz1:¬((m:Int)=0):=by omega
 have hz2:¬((i:Int)=(n:Int)):=by omega
 have hsz:(Tryz.prog.info? 101).map (·.size)=some 2:=by kernel_rfl
 have hov:∀lb cb,(callFunc 73 #[.slice (some ⟨vb,voff,none⟩) m vc,.slice (some ⟨b,off+(i+m) * 2,none⟩) lb cb]).run Tryz.prog w= .ok (.value (.bool false)) w:=fun lb cb=>by
  rw[run_callFunc_extern Tryz.func73 (by kernel_rfl) (by kernel_rfl) (by kernel_rfl) (e:=Extern.SlicesOverlaps.overlaps #[95,95] #[4]) (by kernel_rfl),
   Lib.run_overlaps_apart w 95 4 101 Tryz.underlying95 2 (fun w=>Tryz.sizeOf101 w) ⟨vb,voff,none⟩ ⟨b,off+(i+m) * 2,none⟩ m vc lb cb hvb tA tB kA kB hsa hsb hkB hfa hfe]
  rfl
 have hdl:(cs.drop (i * 2)).length=(n - i) * 2:=by rw[List.length_drop,hcl,Nat.sub_mul]
 have hw1:IntKind.i64.wrap ((i:Int)+(m:Int))=(i:Int)+(m:Int):=by rw[IntKind.wrap_i64];omega
 have hb1:(0:Int)≤(i:Int)+(m:Int):=by omega
 have hin:i≤n:=by omega
 have htn:((i:Int)+(m:Int)).toNat=i+m:=by omega
 have hb2:¬(c=i+m):=by omega
 have hb3:(i:Int)≤(n:Int)+(m:Int):=by omega
 have hb4:¬(c=i):=by omega
 have hcp1:∀ty dc sc,(Builtin.copy_ #[95,95] ty #[.slice (some ⟨b,off+(i+m) * 2,none⟩) (n+m - (i+m)) dc,.slice (some ⟨b,off+i * 2,none⟩) (n+m - i) sc]).run Tryz.prog w.drew= .ok (goInt ((n - i:Nat):Int)) (w.drew.setCells b (off+(i+m) * 2) (cs.drop (i * 2))):=fun ty dc sc=>
  D0 w.drew _ _ ty 101 2 b (off+(i+m) * 2) (n+m - (i+m)) dc ⟨b,off+i * 2,none⟩ (n+m - i) sc (n - i) (cs.drop (i * 2)) Tryz.underlying95 hsz (by simp only[Nat.min_def];split<;>omega) hdl
   (fun j v hj=>by rw[Addr.add_lit,Nat.add_assoc];exact hcs (i * 2+j) v (by rwa [List.getElem?_drop]at hj))
   (fun j hj=>by rw[Nat.add_assoc];exact hsp _ (by omega)) (fun j hj=>by rw[Nat.add_assoc];exact hfz _ (by omega)) (fun v hv=>h1c v (List.mem_of_mem_drop hv))
 obtain⟨W1,hW1⟩:∃W1,W1=w.drew.setCells b (off+(i+m) * 2) (cs.drop (i * 2)):=⟨_,rfl⟩
 have hsp1:∀k,k < (n+m) * 2→(W1.cell? ⟨b,off+k,none⟩).isSome=true:=fun k hk=>by
  rw[hW1]
  exact isSome_setCells b _ _ _ (fun j hj=>by rw[Nat.add_assoc];exact hsp _ (by omega)) _ (hsp k hk)
 have hcp2:∀(W:World),(∀x,W.cell? x=W1.cell? x)→(∀x,W.frozen? x=W1.frozen? x)→∀ty dc,(Builtin.copy_ #[95,95] ty #[.slice (some ⟨b,off+i * 2,none⟩) (n+m - i) dc,.slice (some ⟨vb,voff,none⟩) m vc]).run Tryz.prog W= .ok (goInt m) (W.setCells b (off+i * 2) vs):=fun W hWc hWf ty dc=>
  D0 W _ _ ty 101 2 b (off+i * 2) (n+m - i) dc ⟨vb,voff,none⟩ m vc m vs Tryz.underlying95 hsz (by simp only[Nat.min_def];split<;>omega) hvl
   (fun j v hj=>by
    rw[Addr.add_lit,hWc,hW1,World.cell?_setCells_out b _ _ _ _ (fun h _=>absurd h hvb)]
    exact hvs j v hj)
   (fun j hj=>by rw[hWc,Nat.add_assoc];exact hsp1 _ (by omega)) (fun j hj=>by rw[hWf,hW1,World.frozen?_setCells,Nat.add_assoc];exact hfz _ (by omega)) h1v
 rw[←hW1]at hcp1
 go_enter Tryz.func69,Tryz.ntmps69
 go_wp2_with (simp only[hov])
 go_region_law_o (refine step_copy_runI rfl _ _ 95 95 rfl _ _ (by simp[Act.eval,Act.put]) (by simp[Act.eval,Act.put]) (hcp1 _ _ _) ?_)
 go_wp2_with (at_builtin;refine wpList_copy_runI _ rfl _ _ 95 95 rfl _ _ rfl rfl (hcp2 _ (fun _=>rfl) (fun _=>rfl) _ _) ?_)
 go_ret
 first | exact⟨rfl,rfl⟩ | exact⟨rfl,by rw[hW1]⟩
set_option maxHeartbeats 4000000 in
set_option maxRecDepth 100000 in
theorem Rk (b off n c i vb voff m vc:Nat) (cs vs:List Value) (w:World) (hi:i < n) (hm:0 < m) (hnc:n≤c) (hroom:c < n+m) (hbig:(2 * (n+m)+192) * 32≤281474976710656)
 (hcl:cs.length=n * 2) (hvl:vs.length=m * 2)
 (hcs:∀j v,cs[j]? = some v→w.cell? ⟨b,off+j,none⟩=some v)
 (hvs:∀j v,vs[j]? = some v→w.cell? ⟨vb,voff+j,none⟩=some v) (h1c:∀v∈cs,v.oneCell'=true) (h1v:∀v∈vs,v.oneCell'=true):
 Calls Tryz.prog 69 #[.slice (some ⟨b,off,none⟩) n c,.int .i64 i,.slice (some ⟨vb,voff,none⟩) m vc] w fun e w'=>
  ∃(G:Nat) (ROW:Array Value),n+m≤G∧ROW.size=G * 2∧ROW.toList.take (i * 2)=cs.take (i * 2)∧e= .returned (.slice (some ⟨w.heap.size,0,none⟩) (n+m) G)∧G≤9223372036854775807∧
   w'=(((w.alloc (.cells ROW 101)).drew.setCells w.heap.size (i * 2) vs).drew).setCells w.heap.size ((i+m) * 2) (cs.drop (i * 2)):=by
 have mixed:Tryz.prog.follows .mixedOrders=true:=by kernel_rfl
 obtain⟨i0,z0,hi0,hz0,hzs,hzb,hzc⟩:∃i0 z0,Tryz.prog.info? 101=some i0∧i0.zero=some z0∧i0.size=2∧i0.bytes=32∧z0.cells.size=2:=⟨Tryz.t101,Tryz.t101.zero.getD default,by kernel_rfl,by kernel_rfl,by kernel_rfl,by kernel_rfl,by kernel_rfl⟩
 have hz1:¬((m:Int)=0):=by omega
 have hz2:¬((i:Int)=(n:Int)):=by omega
 have hz3:(c:Int) < (n:Int)+(m:Int):=by omega
 have hsz:(Tryz.prog.info? 101).map (·.size)=some 2:=by rw[hi0];simp[hzs]
 have hbw:b < w.heap.size:=block_lt_of_cell (hcs 0 _ (List.getElem?_eq_getElem (by omega)))
 have hvw:vb < w.heap.size:=block_lt_of_cell (hvs 0 _ (List.getElem?_eq_getElem (by omega)))
 have hkk:(n:Int)+(m:Int) - (i:Int)=((n+m - i:Nat):Int):=by omega
 have hik:i+(n+m - i)=n+m:=by omega
 have hold:(Builtin.firstCells i0.size i (.slice (some ⟨b,off,none⟩) i c)).run Tryz.prog w.drew= .ok (cs.take (i * 2)).toArray w.drew:=by
  rw[hzs]
  exact run_firstCells_some w.drew 2 i ⟨b,off,none⟩ i c (cs.take (i * 2)) (by rw[List.length_take];omega) (fun j v hj=>by
   rw[Addr.add_lit]
   rw[List.getElem?_take]at hj
   split at hj
   ·exact hcs j v hj
   ·cases hj)
 have hncl:=JL (need:=n+m) (cap:=c) hroom
 have hfits:Builtin.nextslicecap (n+m) c * 32≤281474976710656:=Nat.le_trans (Nat.mul_le_mul_right _ hncl) hbig
 have hrz:∀ty,(Builtin.append_ #[95,3] ty #[.slice (some ⟨b,off,none⟩) i c,.int .i64 ((n:Int)+(m:Int) - (i:Int))]).run Tryz.prog w=
  .ok (.slice (some ⟨w.heap.size,0,none⟩) (n+m) (grownCap w (n+m) c 101)) (w.drew.alloc (.cells ((cs.take (i * 2)).toArray++Builtin.zeroCells z0.cells (n+m - i)++Builtin.zeroCells z0.cells (grownCap w (n+m) c 101 - (n+m))) 101)):=fun ty=>by
  have h:=Lib.run_append_grow_zeros w 95 3 ty 101 i0 _ .i64 .i64 Tryz.underlying95 Tryz.underlying3 hi0 hz0 (some ⟨b,off,none⟩) i c (cs.take (i * 2)) hold (n+m - i) (by omega) (by omega) (by omega) (by omega) (by rw[hzb];omega) (by rw[hzb,hik];exact hfits)
  rw[hik]at h
  rw[hkk]
  exact h
 obtain⟨G,hG⟩:∃G,G=grownCap w (n+m) c 101:=⟨_,rfl⟩
 have hGn:n+m≤G:=by rw[hG];exact grownCap_ge w _ _ _
 obtain⟨ROW,hROW⟩:∃ROW:Array Value,ROW=(cs.take (i * 2)).toArray++Builtin.zeroCells z0.cells (n+m - i)++Builtin.zeroCells z0.cells (G - (n+m)):=⟨_,rfl⟩
 rw[←hG]at hrz
 rw[←hROW]at hrz
 have hRl:ROW.size=G * 2:=by
  rw[hROW]
  simp[Dv,hzc,hcl]
  omega
 have hRt:ROW.toList.take (i * 2)=cs.take (i * 2):=by
  rw[hROW]
  simp only[Array.toList_append,List.append_assoc]
  rw[List.take_append_of_le_length (by simp[hcl];omega),List.take_take,Nat.min_self]
 obtain⟨W1,hW1⟩:∃W1,W1=w.drew.alloc (.cells ROW 101):=⟨_,rfl⟩
 rw[←hW1]at hrz
 have hN:∀j,j < (n+m) * 2→(W1.cell? ⟨w.heap.size,j,none⟩).isSome=true:=fun j hj=>by
  rw[hW1,World.cell?_alloc_at (w:=w.drew) ROW _ w.heap.size j rfl,Array.getElem?_eq_getElem (by omega)];rfl
 have hNf:∀j,W1.frozen? ⟨w.heap.size,j,none⟩=false:=fun j=>by rw[hW1];exact World.frozen?_alloc_at (w:=w.drew) ROW _ w.heap.size j rfl
 have hOb:∀j v,w.cell? ⟨b,j,none⟩=some v→W1.cell? ⟨b,j,none⟩=some v:=fun j v h=>by rw[hW1,World.cell?_alloc_past (w:=w.drew) _ b j hbw];exact h
 have hOv:∀j v,w.cell? ⟨vb,j,none⟩=some v→W1.cell? ⟨vb,j,none⟩=some v:=fun j v h=>by rw[hW1,World.cell?_alloc_past (w:=w.drew) _ vb j hvw];exact h
 have hcpA:∀(W:World),(∀x,W.cell? x=W1.cell? x)→(∀x,W.frozen? x=W1.frozen? x)→∀ty dc,(Builtin.copy_ #[95,95] ty #[.slice (some ⟨w.heap.size,i * 2,none⟩) (n+m - i) dc,.slice (some ⟨vb,voff,none⟩) m vc]).run Tryz.prog W= .ok (goInt m) (W.setCells w.heap.size (i * 2) vs):=fun W hWc hWf ty dc=>
  D0 W _ _ ty 101 2 w.heap.size (i * 2) (n+m - i) dc ⟨vb,voff,none⟩ m vc m vs Tryz.underlying95 hsz (by simp only[Nat.min_def];split<;>omega) hvl
   (fun j v hj=>by rw[Addr.add_lit,hWc];exact hOv _ v (hvs j v hj))
   (fun j hj=>by rw[hWc];exact hN _ (by omega)) (fun j hj=>by rw[hWf];exact hNf _) h1v
 have hG63:G≤9223372036854775807:=by
  have:=grownCap_le_maxLen w (n+m) c 101 (by unfold maxLen;omega)
  rw[←hG]at this
  unfold maxLen at this
  omega
 have hGi:¬(G=i):=by omega
 have hGim:¬(G=i+m):=by omega
 have hci:¬(c=i):=by omega
 have hbN:b≠w.heap.size:=by omega
 have hdl:(cs.drop (i * 2)).length=(n - i) * 2:=by rw[List.length_drop,hcl,Nat.sub_mul]
 have hcpB:∀(W:World),(∀x,W.cell? x=(W1.setCells w.heap.size (i * 2) vs).cell? x)→(∀x,W.frozen? x=(W1.setCells w.heap.size (i * 2) vs).frozen? x)→∀ty dc sc,(Builtin.copy_ #[95,95] ty #[.slice (some ⟨w.heap.size,(i+m) * 2,none⟩) (n+m - (i+m)) dc,.slice (some ⟨b,off+i * 2,none⟩) (n - i) sc]).run Tryz.prog W= .ok (goInt ((n - i:Nat):Int)) (W.setCells w.heap.size ((i+m) * 2) (cs.drop (i * 2))):=fun W hWc hWf ty dc sc=>
  D0 W _ _ ty 101 2 w.heap.size ((i+m) * 2) (n+m - (i+m)) dc ⟨b,off+i * 2,none⟩ (n - i) sc (n - i) (cs.drop (i * 2)) Tryz.underlying95 hsz (by simp only[Nat.min_def];split<;>omega) hdl
   (fun j v hj=>by
    rw[Addr.add_lit,hWc,World.cell?_setCells_out _ _ _ _ _ (fun h _=>absurd h hbN),Nat.add_assoc]
    exact hOb _ v (hcs (i * 2+j) v (by rwa [List.getElem?_drop]at hj)))
   (fun j hj=>by rw[hWc];exact isSome_setCells _ _ _ _ (fun t ht=>hN _ (by omega)) _ (hN _ (by omega)))
   (fun j hj=>by rw[hWf,World.frozen?_setCells];exact hNf _) (fun v hv=>h1c v (List.mem_of_mem_drop hv))
 subst hW1
 have hE1:∀x,((w.alloc (.cells ROW 101)).drew).cell? x=(w.drew.alloc (.cells ROW 101)).cell? x:=fun x=>rfl
 have hE2:∀x,((w.alloc (.cells ROW 101)).drew).frozen? x=(w.drew.alloc (.cells ROW 101)).frozen? x:=fun x=>rfl
 have hF1:∀x,(((w.alloc (.cells ROW 101)).drew.setCells w.heap.size (i * 2) vs).drew).cell? x=((w.drew.alloc (.cells ROW 101)).setCells w.heap.size (i * 2) vs).cell? x:=fun x=>rfl
 have hF2:∀x,(((w.alloc (.cells ROW 101)).drew.setCells w.heap.size (i * 2) vs).drew).frozen? x=((w.drew.alloc (.cells ROW 101)).setCells w.heap.size (i * 2) vs).frozen? x:=fun x=>rfl
 have hw1:IntKind.i64.wrap ((i:Int)+(m:Int))=(i:Int)+(m:Int):=by rw[IntKind.wrap_i64];omega
 have hb1:(0:Int)≤(i:Int)+(m:Int):=by omega
 have hin:i≤n:=by omega
 have htn:((i:Int)+(m:Int)).toNat=i+m:=by omega
 have hb3:(i:Int)≤(n:Int):=by omega
 clear hkk hik hold hROW hG hncl hfits
 go_enter Tryz.func69,Tryz.ntmps69
 go_wp2_with (first
  | (at_builtin;refine Lib.wpList_append_run _ rfl _ _ _ _ rfl _ _ rfl rfl _ _ (hrz _) ?_)
  | (at_builtin;refine wpList_copy_runI _ rfl _ _ 95 95 rfl _ _ rfl rfl (hcpA _ hE1 hE2 _ _) ?_)
  | (at_builtin;refine wpList_copy_runI _ rfl _ _ 95 95 rfl _ _ rfl rfl (hcpB _ (fun _=>rfl) (fun _=>rfl) _ _ _) ?_))
 go_region_law_o (refine step_copy_runI rfl _ _ 95 95 rfl (.slice (some ⟨w.heap.size,(i+m) * 2,none⟩) (n+m - (i+m)) (G - (i+m))) (.slice (some ⟨b,off+i * 2,none⟩) (n - i) (c - i)) (by simp[Act.eval,Act.put]) (by simp[Act.eval,Act.put]) (hcpB _ hF1 hF2 3 (G - (i+m)) (c - i)) ?_)
 go_wp2
 go_ret
 exact⟨G,ROW,hGn,hRl,hRt,rfl,hG63,rfl⟩
end Go.AD

set_option linter.unusedVariables false
set_option linter.unusedSimpArgs false
namespace Go.AD
variable {P:Program}
theorem KN (w:World) (t e ty:TypeId) (z:Value) (ht:P.underlying t=some (.slice e)) (hv:∀w,(zeroValue e).run P w= .ok z w) (h1:∀v∈z.cells.toList,v.oneCell'=true) (b o n c:Nat) (hn:0 < n)
 (hc:∀j,j < n * z.cells.size→(w.cell? ⟨b,o+j,none⟩).isSome=true) (hf:∀j,j < n * z.cells.size→w.frozen? ⟨b,o+j,none⟩=false):
 (Builtin.clear_ #[t] ty #[.slice (some ⟨b,o,none⟩) n c]).run P w= .ok (.tuple #[]) (w.setCells b o (Builtin.zeroCells z.cells n).toList):=by
 have hl:(Builtin.zeroCells z.cells n).toList.length=n * z.cells.size:=by simp[Builtin.zeroCells]
 have hm:∀v∈(Builtin.zeroCells z.cells n).toList,v.oneCell'=true:=by
  intro v hv'
  simp only[Builtin.zeroCells,Array.toList_map,List.mem_map]at hv'
  obtain⟨i,hi,rfl⟩:=hv'
  have hi:i < n * z.cells.size:=by simpa using hi
  have hp:0 < z.cells.size:=by
   rcases Nat.eq_zero_or_pos z.cells.size with h | h
   ·rw[h,Nat.mul_zero]at hi;omega
   ·exact h
  have hlt:=Nat.mod_lt i hp
  rw[getElem!_pos z.cells (i % z.cells.size) hlt]
  exact h1 _ (by simp)
 have hst:=run_storeCells_cells (P:=P) b o (Builtin.zeroCells z.cells n).toList 0 w (by rw[hl];simpa using hc) (by rw[hl];simpa using hf) hm
 simp only[Nat.add_zero]at hst
 obtain⟨m,rfl⟩:∃m,n=m+1:=⟨n - 1,by omega⟩
 simp[Builtin.clear_,run_underlying ht,hv,hst]
end Go.AD

namespace Go.AD
open Classical in
noncomputable def Gb (sz:Nat):Ci:=fun args H=>
 match args with
 | [.slice (some ⟨b,0,some q⟩) n cap,.int .i64 x,.int .i64 y]=>
  match H.get b with
  | some (.vec k l false)=>
   if k.length=sz∧cap=AE∧k.all SK.plain=true∧q+n≤l.length∧0≤x∧x < y∧y≤n then
    some (.slice (some ⟨H.next,0,some 0⟩) (n - (y.toNat - x.toNat)) AE,(H.del b).alloc (.vec k (((l.drop q).take n).take x.toNat++((l.drop q).take n).drop y.toNat) false))
   else none
  | _=>none
 | _=>none
noncomputable def Oj (sz:Nat):GP:=fun args H K=>
 match args with
 | [.slice (some ⟨b,0,some q⟩) n cap,.int .i64 x,.int .i64 y]=>
  match H.get b with
  | some (.vec k l false)=>
   bif Nat.beq k.length sz&&Nat.beq cap AE&&k.all SK.plain then
    (q+n≤l.length∧0≤x∧x < y∧y≤n)∧K (.slice (some ⟨H.next,0,some 0⟩) (n - (y.toNat - x.toNat)) AE) ((H.del b).alloc (.vec k (((l.drop q).take n).take x.toNat++((l.drop q).take n).drop y.toNat) false))
   else False
  | _=>False
 | _=>False
theorem SW {X:Ctx} {f:FuncId} {sz:Nat} (hX:X.GC f=some (Gb sz)) {args:List Value} {H:AA} {K:Value→AA→Prop} (h:Oj sz args H K):∃v H',B5 X f args .normal H=some (v,H')∧K v H':=by
 unfold Oj at h
 split at h
 ·rename_i b q n cap x y
  split at h
  ·rename_i k l hb
   cases hc:(Nat.beq k.length sz&&Nat.beq cap AE&&k.all SK.plain)
   ·rw[hc]at h;cases h
   ·rw[hc]at h
    refine⟨_,_,?_,h.2⟩
    unfold B5
    simp only[hX]
    unfold Gb
    simp only[hb]
    simp only[Bool.and_eq_true]at hc
    exact if_pos ⟨Nat.eq_of_beq_eq_true hc.1.1,Nat.eq_of_beq_eq_true hc.1.2,hc.2,h.1⟩
  ·cases h
 ·cases h
def Xj (P:Program) (f:FuncId) (k:Nat):Prop:=∀(b off n c i j:Nat) (cs:List Value) (w:World),i < j→j≤n→n≤c→c≤9223372036854775807→cs.length=n * k→
 (∀t v,cs[t]? = some v→w.cell? ⟨b,off+t,none⟩=some v)→(∀t,t < n * k→w.frozen? ⟨b,off+t,none⟩=false)→(∀v∈cs,v.oneCell'=true)→
 Calls P f #[.slice (some ⟨b,off,none⟩) n c,.int .i64 i,.int .i64 j] w fun e w'=>
  ∃zs:List Value,zs.length=(j - i) * k∧e= .returned (.slice (some ⟨b,off,none⟩) (n - (j - i)) c)∧w'=(w.drew.setCells b (off+i * k) (cs.drop (j * k))).setCells b (off+(n - (j - i)) * k) zs
theorem Qc (A D Z:List Value) (x y:Nat) (hy:x+D.length=y) (hl:y+Z.length≤A.length):(BL (BL A x D) y Z).take (x+D.length)=A.take x++D:=by
 unfold BL
 have h1:(A.take x++(D++A.drop (x+D.length))).take y=A.take x++D:=by
  rw[←List.append_assoc,List.take_append_of_le_length (by simp;omega),List.take_of_length_le (by simp;omega)]
 rw[h1,List.take_append_of_le_length (by simp;omega),List.take_of_length_le (by simp;omega)]
section
variable {P:Program} {laid:List (Nat × List Value)}
theorem Rm {f:FuncId} {sz:Nat} (hent:∃n c,entry P f=some (n,c)) (hk0:0 < sz) (hk1:sz≠1) (hD:Xj P f sz):Dr P laid f (Gb sz):=by
 refine⟨hent,?_⟩
 intro base W0 μ H W args args' v H' hW h hl ha hF
 unfold Gb at hF
 split at hF
 ·rename_i b q n cap x y
  split at hF
  ·rename_i k l hb
   split at hF
   ·rename_i hc
    obtain⟨rfl,rfl,hpl,hq,hx0,hxy,hyn⟩:=hc
    obtain⟨i,rfl⟩:∃i:Nat,x=i:=⟨x.toNat,by omega⟩
    obtain⟨j,rfl⟩:∃j:Nat,y=j:=⟨y.toNat,by omega⟩
    simp only[Int.toNat_natCast,Option.some.injEq,Prod.mk.injEq]at hF
    obtain⟨rfl,rfl⟩:=hF
    have hij:i < j:=by omega
    have hjn:j≤n:=by omega
    generalize hqq:args'.toList=qq at ha
    cases ha with
    | cons h1 ha=>cases ha with
     | cons h2 ha=>cases ha with
      | cons h3 ha=>
       cases ha
       cases h2
       cases h3
       rcases FB h hb h1 with⟨h1f,hnr,_⟩ | ⟨_,hn0,_⟩
       rotate_left
       ·omega
       have hdv:=h.J4 hb fun T hT hv=>hnr T hT hv.2.1
       have hg:(H.put b (.cells (A3 k l) k.length false)).get b=some (.cells (A3 k l) k.length false):=by rw[AA.AN,if_pos rfl]
       have hT:∃T,μ b=some T:=by cases h1 with | Bk _ _ _ _ _ _ T hm _ _ _=>exact⟨T,hm⟩ | Cr _ _ _ T _ hm _=>exact⟨T,hm⟩
       have h1:=M4 h1f
       generalize hoff:q * k.length=off at h1
       cases h1 with
       | slice _ _ _ _ cap' o' T hm hcr ho=>
        have hargs:args'=#[.slice (some ⟨T.c,o',none⟩) n cap',.int .i64 (i:Int),.int .i64 (j:Int)]:=by rw[←Array.toList_inj,hqq]
        subst hargs
        have hcr':n≤cap'∧off+cap' * T.e≤T.r∧(T.e=1∨cap'≤9223372036854775807):=by
         rcases hcr with⟨c1,c2⟩ | ⟨c1,c2,c3,c4,c5⟩
         ·omega
         ·exact⟨c3,c4,c5⟩
        obtain⟨c3,c4,c5⟩:=hcr'
        have hoo:o'=T.d+off:=by
         rcases ho with ho | ⟨e1,_⟩
         ·exact ho
         ·omega
        subst hoo
        obtain⟨ob,hob,hor⟩:=hdv.obj b _ hg T hm
        have hqe:off+n * k.length≤l.length * k.length:=by rw[←hoff,←Nat.add_mul];exact Nat.mul_le_mul_right _ hq
        have hO1:((A3 k l).drop off).take (n * k.length)=A3 k ((l.drop q).take n):=by rw[←hoff,Di,EC]
        have hOl:(A3 k ((l.drop q).take n)).length=n * k.length:=by rw[CE,List.length_take,List.length_drop,Nat.min_eq_left (by omega)]
        generalize hM:(l.drop q).take n=M at hO1 hOl ⊢
        have hres:A3 k (M.take i++M.drop j)=(A3 k M).take (i * k.length)++(A3 k M).drop (j * k.length):=by rw[Cz,EC,Di]
        cases hor with
        | cells _ _ _ arr t lo hi2 hTe hcl hsz hfz=>
         rw[←hTe]at c4 c5
         have hold:A2 μ (A3 k M) ((arr.toList.drop (T.d+off)).take (n * k.length)):=by
          rw[←hO1]
          have:=(hcl.drop off).take (n * k.length)
          rw[List.drop_take,List.drop_drop,List.take_take,Nat.min_eq_left (by rw[CE];omega)]at this
          exact this
         generalize hO':(arr.toList.drop (T.d+off)).take (n * k.length)=O' at hold
         have hlo:=hold.length
         have hcsC:∀p v,O'[p]? = some v→W.cell? ⟨T.c,T.d+off+p,none⟩=some v:=fun p v hp=>Hj hob (by rw[hO'];exact hp)
         have h1O:=Hu hold (OW k hpl M)
         have hie:i * k.length≤j * k.length:=Nat.mul_le_mul_right _ (by omega)
         have hje:j * k.length≤n * k.length:=Nat.mul_le_mul_right _ hjn
         have hne:n * k.length≤cap' * k.length:=Nat.mul_le_mul_right _ c3
         have e1:(j - i) * k.length=j * k.length - i * k.length:=Nat.sub_mul _ _ _
         have e2:(n - (j - i)) * k.length=n * k.length - (j * k.length - i * k.length):=by rw[Nat.sub_mul,e1]
         have hdl:(O'.drop (j * k.length)).length=n * k.length - j * k.length:=by rw[List.length_drop];omega
         refine Calls.mono (hD T.c (T.d+off) n cap' i j O' W hij hjn c3 (by omega) (by omega) hcsC ?_ h1O) ?_
         ·intro p hp
          have:=hfz rfl (T.d+off+p) (.inl (by omega))
          simp only[World.frozen?,hob,Bool.and_eq_false_iff,decide_eq_false_iff_not]
          omega
         ·rintro ex W' ⟨zs,hz,rfl,rfl⟩
          obtain⟨a1,r1,r2,r2b,r3,r4,r5,r6⟩:=Df T.c t (lo,hi2) (O'.drop (j * k.length)) (T.d+off+i * k.length) arr W.drew hob (by omega)
          obtain⟨a2,s1,s2,s2b,s3,s4,s5,s6⟩:=Df T.c t (lo,hi2) zs (T.d+off+(n - (j - i)) * k.length) a1 _ r1 (by omega)
          obtain⟨hdel,hdelE⟩:=hdv.del hm
          obtain⟨φ,qa⟩:=hdv.abs
          have hmap:=hdel.HJ (T:=⟨T.c,T.d+off,T.r - off,k.length⟩) (o:= .cells (A3 k (M.take i++M.drop j)) k.length false) (W':=(W.drew.setCells T.c (T.d+off+i * k.length) (O'.drop (j * k.length))).setCells T.c (T.d+off+(n - (j - i)) * k.length) zs)
           (by rw[s3,r3];exact Nat.le_refl _) (fun p _ hp=>by rw[s4 p hp,r4 p hp];rfl)
           (fun b' p T' hb' hm' hv=>by
            intro e1
            obtain⟨e2,hb2⟩:=AA.A9 hb'
            exact e2 (hdv.inj b' b _ _ hb2 hg T' T hm' hm hv id e1 (.inr rfl)))
           ⟨φ,⟨fun b' a ro T' h1 h2=>qa.rep b' a ro T' (AA.A9 h1).2 h2,fun b' a ro T' h1 h2 b2 o2 T2 h3 h4 h5=>qa.D2 b' a ro T' (AA.A9 h1).2 h2 b2 o2 T2 (AA.A9 h3).2 h4 h5⟩,
            fun b' a ro h1 ⟨T',h2⟩=>(qa.D2 b' a ro T' (AA.A9 h1).2 h2 b _ T hg hm (Ne.symm (AA.A9 h1).1)).1 id⟩
           s1 (hdv.own b _ hg rfl T hm id) ?_ (by rw[s5,r5];rfl) (by rw[s6,r6];rfl)
          ·obtain⟨g1,g2⟩:=D8 (by omega) (H1:=H.del b) (m:=n - (j - i)) (v':= .slice (some ⟨T.c,T.d+off,none⟩) (n - (j - i)) cap') hmap.1
            (.slice H.next 0 _ _ _ _ ⟨T.c,T.d+off,T.r - off,k.length⟩ (Ad.Ak _ _ _) (.inr ⟨by omega,by omega,by omega,by show 0+cap' * k.length≤T.r - off;omega,.inr (by omega)⟩) (.inl rfl))
            (fun p _=>by
             rw[AA.BQ,AA.BQ,AA.AN]
             by_cases e:p=b<;>simp[e]) rfl
           refine⟨_,_,rfl,g1,g2,?_⟩
           refine(hdelE.trans hmap.2).congr (fun p hp hmp=>?_) (fun p hp hmp=>?_) rfl rfl
           ·have:p≠b:=by rintro rfl;rw[hm]at hmp;cases hmp
            rw[AA.AN,if_neg this]
           ·have:p≠b:=by rintro rfl;rw[hm]at hmp;cases hmp
            have hp:p < H.next:=hp
            rw[AA.AQ,AA.AQ,if_neg (by show p≠H.next;omega),if_neg (by show p≠H.next;omega),AA.BQ,AA.BQ,AA.AN,if_neg this,if_neg this,if_neg this]
          ·refine .cells ⟨T.c,T.d+off,T.r - off,k.length⟩ _ _ false _ t lo hi2 rfl ?_ ?_ ?_
           ·show A2 μ _ (List.take _ (List.drop (T.d+off) a2.toList))
            have hA:arr.toList=arr.toList.take (T.d+off)++arr.toList.drop (T.d+off):=(List.take_append_drop _ _).symm
            have hAl:(arr.toList.take (T.d+off)).length=T.d+off:=by rw[List.length_take,Array.length_toList];omega
            have hA1l:n * k.length≤(arr.toList.drop (T.d+off)).length:=by
             have e5:arr.toList.length=arr.size:=Array.length_toList
             rw[List.length_drop,e5];omega
            generalize hA0:arr.toList.take (T.d+off)=A0 at hA hAl
            generalize hA1:arr.toList.drop (T.d+off)=A1 at hA hO' hA1l
            have hs2:a2.toList=A0++BL (BL A1 (i * k.length) (O'.drop (j * k.length))) ((n - (j - i)) * k.length) zs:=by
             rw[s2,r2,hA]
             rw[show T.d+off+i * k.length=A0.length+i * k.length by omega,IH]
             rw[show T.d+off+(n - (j - i)) * k.length=A0.length+(n - (j - i)) * k.length by omega,IH]
            have hrl:((A3 k M).take (i * k.length)++(A3 k M).drop (j * k.length)).length=i * k.length+(O'.drop (j * k.length)).length:=by
             simp only[List.length_append,List.length_take,List.length_drop];omega
            rw[hs2,hres,hrl,List.drop_left' hAl]
            have hjn2:j * k.length - i * k.length≤n * k.length:=Nat.le_trans (Nat.sub_le _ _) hje
            rw[Qc A1 (O'.drop (j * k.length)) zs (i * k.length) ((n - (j - i)) * k.length) (by omega) (by rw[hz,e1,e2,Nat.sub_add_cancel hjn2];exact hA1l)]
            rw[show A1.take (i * k.length)=O'.take (i * k.length) by rw[←hO',List.take_take,Nat.min_eq_left (by omega)]]
            exact(hold.take _).append (hold.drop _)
           ·show a2.size=T.d+off+(T.r - off)
            omega
           ·intro _ p hp
            refine hfz rfl p ?_
            have:a2.size=arr.size:=by omega
            rw[←this];exact hp
   ·cases hF
  ·cases hF
 ·cases hF
end
end Go.AD

set_option linter.unusedVariables false
set_option linter.unusedSimpArgs false
namespace Go.AD
open Go.Proofs Go.RowKit Go.Lib
set_option maxHeartbeats 4000000 in
set_option maxRecDepth 1000000 in
theorem Ug:Xj Tryz.prog 67 2:=by
 intro b off n c i j cs w hij hjn hnc hc63 hcl hcs hfz h1c
 have mixed:Tryz.prog.follows .mixedOrders=true:=by kernel_rfl
 obtain⟨i0,z0,hi0,hz0,hzs,hzc,hz1⟩:∃i0 z0,Tryz.prog.info? 101=some i0∧i0.zero=some z0∧i0.size=2∧z0.cells.size=2∧z0.cells.toList.all (·.oneCell')=true:=⟨Tryz.t101,Tryz.t101.zero.getD default,by kernel_rfl,by kernel_rfl,by kernel_rfl,by kernel_rfl,by kernel_rfl⟩
 have hzv:∀w,(zeroValue 101).run Tryz.prog w= .ok z0 w:=fun w=>by simp[zeroValue,typeInfo,hi0,hz0]
 obtain⟨news,hnews⟩:∃news,news=cs.drop (j * 2):=⟨_,rfl⟩
 have hlen:news.length=(n - j) * 2:=by rw[hnews,List.length_drop,hcl,Nat.sub_mul]
 obtain⟨A,hA,hsrc⟩:∃A:Addr,(if c=j then some (⟨b,off,none⟩:Addr)else some ⟨b,off+j * 2,none⟩)=some A∧Hid (∀t u,news[t]? = some u→w.drew.cell? (A.add t)=some u):=by
  by_cases h:c=j
  ·refine⟨⟨b,off,none⟩,by simp[h],fun t u hu=>?_⟩
   have h0:news.length=0:=by rw[hlen,show n - j=0 by omega,Nat.zero_mul]
   rw[List.length_eq_zero_iff.1 h0]at hu
   simp at hu
  ·refine⟨⟨b,off+j * 2,none⟩,by simp[h],fun t u hu=>?_⟩
   rw[Addr.add_lit,Nat.add_assoc]
   rw[hnews,List.getElem?_drop]at hu
   exact hcs _ _ hu
 have s1:Hid (news.length=(n - j) * 2):=hlen
 have s2:Hid (∀u∈news,u.oneCell'=true):=fun u hu=>h1c u (by rw[hnews]at hu;exact List.mem_of_mem_drop hu)
 have hsome:∀t,t < n * 2→(w.cell? ⟨b,off+t,none⟩).isSome=true:=fun t ht=>by
  rw[hcs t _ (List.getElem?_eq_getElem (by omega))];rfl
 have s3:Hid (∀t,t < news.length→(w.drew.cell? ⟨b,off+i * 2+t,none⟩).isSome=true∧w.drew.frozen? ⟨b,off+i * 2+t,none⟩=false):=by
  intro t ht
  rw[hlen]at ht
  rw[Nat.add_assoc]
  exact⟨hsome _ (by omega),hfz _ (by omega)⟩
 obtain⟨W1,hW1⟩:∃W1,W1=w.drew.setCells b (off+i * 2) news:=⟨_,rfl⟩
 obtain⟨zs,hzs2⟩:∃zs,zs=(Builtin.zeroCells z0.cells (n - (i+(n - j)))).toList:=⟨_,rfl⟩
 have hzl:zs.length=(j - i) * 2:=by rw[hzs2];simp[Builtin.zeroCells,hzc];omega
 have hcl2:∀ty,(Builtin.clear_ #[95] ty #[.slice (some ⟨b,off+(i+(n - j)) * 2,none⟩) (n - (i+(n - j))) (c - (i+(n - j)))]).run Tryz.prog W1= .ok (.tuple #[]) (W1.setCells b (off+(i+(n - j)) * 2) zs):=fun ty=>by
  rw[hzs2]
  refine KN W1 95 101 ty z0 Tryz.underlying95 hzv (fun v hv=>List.all_eq_true.1 hz1 v hv) b (off+(i+(n - j)) * 2) _ _ (by omega) (fun t ht=>?_) (fun t ht=>?_)
  ·rw[hzc]at ht
   rw[hW1,Nat.add_assoc]
   exact isSome_setCells b _ _ _ (fun p hp=>by rw[hlen]at hp;rw[Nat.add_assoc];exact hsome _ (by omega)) _ (hsome _ (by omega))
  ·rw[hzc]at ht
   rw[hW1,World.frozen?_setCells,Nat.add_assoc]
   exact hfz _ (by omega)
 have hW:Hid (W1=w.drew.setCells b (off+i * 2) news):=hW1
 have X:Hid (news=cs.drop (j * 2)):=hnews
 have Y:Hid (zs.length=(j - i) * 2):=hzl
 have hic:i≤c:=by omega
 have hjc:j≤c:=by omega
 have hin:i≤n:=by omega
 clear hW1 hcs hfz h1c hnews hlen hzl hsome hzs2
 go_enter Tryz.func67,Tryz.ntmps67
 go_wp2_with fail
 go_region_law_o (refine step_append_room rfl (.tmp 22) (.tmp 25) 95 rfl 101 i0 2 Tryz.underlying95 hi0 hzs b off i c (by simp[Act.eval,Act.put]) A (n - j) (c - j) news (by simp[Act.eval,Act.put]) s1.out hsrc.out s2.out (by omega) s3.out ?_;rw[←hW.out])
 go_wp2
 go_ret
 refine⟨zs,Y.out,by rw[show n - (j - i)=i+(n - j) by omega];rfl,?_⟩
 rw[←X.out,←hW.out,show n - (j - i)=i+(n - j) by omega]
theorem Xh (laid:List (Nat × List Value)):Dr Tryz.prog laid 67 (Gb 2):=
 Rm ⟨_,_,show entry Tryz.prog 67=some (33,BH Tryz.prog 67 []) by kernel_rfl⟩ (by decide) (by decide) Ug
end Go.AD

namespace Go.AD
open Classical in
noncomputable def Dx (sz bytes:Nat):Ci:=fun args H=>
 match args with
 | [.slice (some ⟨b,0,some q⟩) n cap,.int .i64 x,.slice (some ⟨vb,voff,none⟩) m _]=>
  match H.get b,H.get vb with
  | some (.vec k l false),some (.cells vcs ve false)=>
   if k.length=sz∧cap=AE∧k.all SK.plain=true∧vb≠b∧m≠0∧ve≠1∧q+n≤l.length∧0≤x∧x < n∧BV bytes (n+m)=true then
    match Qx k m ((vcs.drop voff).take (m * k.length))with
    | some new=>some (.slice (some ⟨H.next,0,some 0⟩) (n+m) AE,(H.del b).alloc (.vec k (((l.drop q).take n).take x.toNat++(new++((l.drop q).take n).drop x.toNat)) false))
    | none=>none
   else none
  | _,_=>none
 | _=>none
noncomputable def La (sz bytes:Nat):GP:=fun args H K=>
 match args with
 | [.slice (some ⟨b,0,some q⟩) n cap,.int .i64 x,.slice (some ⟨vb,voff,none⟩) m _]=>
  match H.get b,H.get vb with
  | some (.vec k l false),some (.cells vcs ve false)=>
   bif Nat.beq k.length sz&&Nat.beq cap AE&&k.all SK.plain&& !(Nat.beq vb b)&& !(Nat.beq m 0)&& !(Nat.beq ve 1)then
    match Qx k m ((vcs.drop voff).take (m * k.length))with
    | some new=>(q+n≤l.length∧0≤x∧x < n∧BV bytes (n+m)=true)∧K (.slice (some ⟨H.next,0,some 0⟩) (n+m) AE) ((H.del b).alloc (.vec k (((l.drop q).take n).take x.toNat++(new++((l.drop q).take n).drop x.toNat)) false))
    | none=>False
   else False
  | _,_=>False
 | _=>False
theorem I4 {a b:Nat} (h:Nat.beq a b=false):a≠b:=by
 rintro rfl
 rw[Nat.beq_refl]at h;cases h
theorem LO {a b:Nat} (h:a≠b):Nat.beq a b=false:=by
 cases hq:Nat.beq a b
 ·rfl
 ·exact absurd (Nat.eq_of_beq_eq_true hq) h
theorem SE {X:Ctx} {f:FuncId} {sz B:Nat} (hX:X.GC f=some (Dx sz B)) {args:List Value} {H:AA} {K:Value→AA→Prop} (h:La sz B args H K):∃v H',B5 X f args .normal H=some (v,H')∧K v H':=by
 unfold La at h
 split at h
 ·rename_i b q n cap x vb voff m vcap
  split at h
  ·rename_i k l vcs ve hb hvb
   cases hc:(Nat.beq k.length sz&&Nat.beq cap AE&&k.all SK.plain&& !(Nat.beq vb b)&& !(Nat.beq m 0)&& !(Nat.beq ve 1))
   ·rw[hc]at h;cases h
   ·rw[hc]at h
    simp only[cond_true]at h
    split at h
    ·rename_i new hnew
     refine⟨_,_,?_,h.2⟩
     unfold B5
     simp only[hX]
     unfold Dx
     simp only[hb,hvb]
     simp only[Bool.and_eq_true,Bool.not_eq_true']at hc
     obtain⟨⟨⟨⟨⟨c1,c2⟩,c3⟩,c4⟩,c5⟩,c6⟩:=hc
     rw[if_pos ⟨Nat.eq_of_beq_eq_true c1,Nat.eq_of_beq_eq_true c2,c3,I4 c4,I4 c5,I4 c6,h.1⟩]
     simp only[hnew]
    ·cases h
  ·cases h
 ·cases h
section
variable {P:Program} {laid:List (Nat × List Value)}
theorem PV {f:FuncId} {sz B:Nat} {E:TypeId} (hent:∃n c,entry P f=some (n,c)) (hk0:0 < sz) (hk1:sz≠1) (hS:Qd P f sz) (hG:Su P f sz B E):Dr P laid f (Dx sz B):=by
 refine⟨hent,?_⟩
 intro base W0 μ H W args args' v H' hW h hl ha hF
 unfold Dx at hF
 split at hF
 ·rename_i b q n cap x vb voff m vcap
  split at hF
  ·rename_i k l vcs ve hb hvb
   split at hF
   ·rename_i hc
    obtain⟨rfl,rfl,hpl,hne,hm0,hve,hq,hx0,hxn,hbig⟩:=hc
    split at hF
    ·rename_i new hnew
     obtain⟨i,rfl⟩:∃i:Nat,x=i:=⟨x.toNat,by omega⟩
     simp only[Int.toNat_natCast,Option.some.injEq,Prod.mk.injEq]at hF
     obtain⟨rfl,rfl⟩:=hF
     generalize hqq:args'.toList=qq at ha
     cases ha with
     | cons h1 ha=>cases ha with
      | cons h2 ha=>cases ha with
       | cons h3 ha=>
        cases ha
        rcases FB h hb h1 with⟨h1f,hnr,_⟩ | ⟨_,hn0,_⟩
        rotate_left
        ·omega
        have hdv:=h.J4 hb fun T hT hv=>hnr T hT hv.2.1
        have hg:(H.put b (.cells (A3 k l) k.length false)).get b=some (.cells (A3 k l) k.length false):=by rw[AA.AN,if_pos rfl]
        have hgv:(H.put b (.cells (A3 k l) k.length false)).get vb=some (.cells vcs ve false):=by rw[AA.AN,if_neg hne];exact hvb
        have hT:∃T,μ b=some T:=by cases h1 with | Bk _ _ _ _ _ _ T hm _ _ _=>exact⟨T,hm⟩ | Cr _ _ _ T _ hm _=>exact⟨T,hm⟩
        obtain⟨d1,d2,d3⟩:=MZ k (by omega) _ _ _ hnew
        rw[List.take_take,Nat.min_self]at d1
        have hll:((vcs.drop voff).take (m * k.length)).length=m * k.length:=by rw[←d1,CE,d2]
        have hmk:Nat.beq (m * k.length) 0=false:=LO (Nat.mul_ne_zero hm0 (by omega))
        have hsrc:DL k.length (.slice (some ⟨vb,voff,none⟩) m vcap) (H.put b (.cells (A3 k l) k.length false))=some (m,A3 k new):=by
         unfold DL
         simp only[hmk,cond_false,hgv,hll,Nat.beq_refl,cond_true,d1]
        have hold:((A3 k l).drop (q * k.length)).take (n * k.length)=A3 k ((l.drop q).take n):=by rw[Di,EC]
        have hOl:(A3 k ((l.drop q).take n)).length=n * k.length:=by rw[CE,List.length_take,List.length_drop,Nat.min_eq_left (by omega)]
        have hok:=OW k hpl
        generalize hM:(l.drop q).take n=M at hold hOl ⊢
        have hres:A3 k (M.take i++(new++M.drop i))=(A3 k M).take (i * k.length)++(A3 k new++(A3 k M).drop (i * k.length)):=by rw[Cz,Cz,EC,Di]
        obtain⟨b5,b6⟩:=Hz hbig
        have hins:Le k.length B [.slice (some ⟨b,q * k.length,none⟩) n AE,.int .i64 (Int.ofNat i),.slice (some ⟨vb,voff,none⟩) m vcap] (H.put b (.cells (A3 k l) k.length false))=
         some (.slice (some ⟨H.next,0,none⟩) (n+m) (AE+(n+m)),((H.put b (.cells (A3 k l) k.length false)).del b).alloc (.cells (A3 k (M.take i++(new++M.drop i))) k.length false)):=by
         unfold Le
         have g1:Nat.ble AE AE=true:=Nat.ble_eq_true_of_le (Nat.le_refl _)
         have g2:Nat.blt i n=true:=Nat.ble_eq_true_of_le (by omega)
         have g3:Nat.beq vb b=false:=LO hne
         have g4:Nat.beq m 0=false:=LO hm0
         have g5:Qz ((H.put b (.cells (A3 k l) k.length false)).get vb)=true:=by
          rw[hgv]
          unfold Qz
          simp only[LO hve,Bool.not_false]
         simp only[g1,g2,g3,g4,g5,Bool.and_self,Bool.not_false,cond_true,hsrc]
         unfold ax
         simp only[hg,hold,hOl,Nat.beq_refl,hok,b5,b6,Bool.and_self,cond_true,hres]
         rfl
        have hrun:=(Sr (laid:=laid) hent hk0 hk1 hS hG).2 base W0 μ _ W _ args' _ _ hW hdv hl (by rw[hqq];exact .cons h1f (.cons h2 (.cons h3 .nil))) hins
        refine Calls.mono hrun ?_
        rintro e W' ⟨v',μ',rfl,r2,r3,r4⟩
        obtain⟨g1,g2⟩:=D8 (by omega) (H1:=H.del b) r2 r3 (fun p _=>by
         rw[AA.BQ,AA.BQ,AA.AN]
         by_cases e:p=b<;>simp[e]) rfl
        refine⟨v',μ',rfl,g1,g2,?_⟩
        obtain⟨T,hT⟩:=hT
        refine r4.congr (fun p hp hmp=>?_) (fun p hp hmp=>?_) rfl rfl
        ·have:p≠b:=by rintro rfl;rw[hT]at hmp;cases hmp
         rw[AA.AN,if_neg this]
        ·have:p≠b:=by rintro rfl;rw[hT]at hmp;cases hmp
         have hp:p < H.next:=hp
         rw[AA.AQ,AA.AQ,if_neg (by show p≠H.next;omega),if_neg (by show p≠H.next;omega),AA.BQ,AA.BQ,AA.AN,if_neg this,if_neg this,if_neg this]
    ·cases hF
   ·cases hF
  ·cases hF
 ·cases hF
end
end Go.AD

set_option maxRecDepth 1000000
namespace Go.AD
open Go.Proofs
theorem ZC (k:ByteArray) (Q:Value→List (Option AJ)→Prop):FD XA Zt Br [9] Q 300 (st Br 26 [p9,.string k] (BF ⟨.leaf,9⟩ Lp))=(
 (((.bool false):Value)=(.bool false))∧(Q (.tuple ⟨[(.string ({ data:=#[] })),(.bool false)]⟩) [some (.cells [(.bool true),(.slice none 0 0)] 0 false)])):=by kernel_rfl
theorem Z7 (l:List (EK.C AT)) (k:ByteArray) (Q:Value→List (Option AJ)→Prop):FD XA Zt Br [9,10] Q 300 (st Br 26 [p9,.string k] (BF ⟨.leaf,9⟩ (J7 l)))=(
 (List.length l=List.length l∧AE=AE∧A8 l∧List.length l < 4611686018427387904)∧(bif decide (↑(AO l k) < Int.ofNat (List.length l))then(bif decide (0≤↑(AO l k))&&Nat.blt (Int.toNat ↑(AO l k)) (List.length l)then(bif Nat.blt (0+Int.toNat ↑(AO l k)) (List.length l)then(bif ByteArray.toList (Prod.fst (List.getD l (0+Int.toNat ↑(AO l k)) (EK.AU AT)))==ByteArray.toList k then(((.bool true):Value)=(.bool true))∧(((.bool (ByteArray.toList (Prod.fst (List.getD l (0+Int.toNat ↑(AO l k)) (EK.AU AT)))==ByteArray.toList k)):Value)=(.bool true))∧(((.string k):Value)=(.string k))∧(bif Nat.blt (0+Int.toNat ↑(AO l k)) (List.length l)then(((.string (Prod.fst (List.getD l (0+Int.toNat ↑(AO l k)) (EK.AU AT)))):Value)=(.string (Prod.fst (List.getD l (0+Int.toNat ↑(AO l k)) (EK.AU AT)))))∧(((.pointer (some ⟨10,0,(some (0+Int.toNat ↑(AO l k)))⟩)):Value)=(.pointer (some ⟨10,0,(some (0+Int.toNat ↑(AO l k)))⟩)))∧(bif decide (0≤↑(AO l k))&&Nat.blt (Int.toNat ↑(AO l k)) (List.length l)then(((.pointer (some ⟨10,0,(some (0+Int.toNat ↑(AO l k)))⟩)):Value)=(.pointer (some ⟨10,0,(some (0+Int.toNat ↑(AO l k)))⟩)))∧(((.int .i64 (↑(AO l k))):Value)=(.int .i64 (↑(AO l k))))∧(((.slice (some ⟨10,0,(some 0)⟩) (List.length l) 18446744073709551616):Value)=(.slice (some ⟨10,0,(some 0)⟩) (List.length l) 18446744073709551616))∧(bif decide (0≤↑(AO l k))&&Nat.blt (Int.toNat ↑(AO l k)) (List.length l)then(bif Nat.blt (0+Int.toNat ↑(AO l k)) (List.length l)then(Q (.tuple ⟨[(.string (Prod.snd (List.getD l (0+Int.toNat ↑(AO l k)) (EK.AU AT)))),(.bool true)]⟩) [some (.cells [(.bool true),(.slice (some ⟨10,0,(some 0)⟩) (List.length l) 18446744073709551616)] 0 false),some (.vec AT l false)])else False)else False)else False)else False)else(((.bool false):Value)=(.bool false))∧(((.bool (ByteArray.toList (Prod.fst (List.getD l (0+Int.toNat ↑(AO l k)) (EK.AU AT)))==ByteArray.toList k)):Value)=(.bool false))∧(((.string k):Value)=(.string k))∧(bif Nat.blt (0+Int.toNat ↑(AO l k)) (List.length l)then(((.string (Prod.fst (List.getD l (0+Int.toNat ↑(AO l k)) (EK.AU AT)))):Value)=(.string (Prod.fst (List.getD l (0+Int.toNat ↑(AO l k)) (EK.AU AT)))))∧(((.pointer (some ⟨10,0,(some (0+Int.toNat ↑(AO l k)))⟩)):Value)=(.pointer (some ⟨10,0,(some (0+Int.toNat ↑(AO l k)))⟩)))∧(bif decide (0≤↑(AO l k))&&Nat.blt (Int.toNat ↑(AO l k)) (List.length l)then(((.pointer (some ⟨10,0,(some (0+Int.toNat ↑(AO l k)))⟩)):Value)=(.pointer (some ⟨10,0,(some (0+Int.toNat ↑(AO l k)))⟩)))∧(((.int .i64 (↑(AO l k))):Value)=(.int .i64 (↑(AO l k))))∧(((.slice (some ⟨10,0,(some 0)⟩) (List.length l) 18446744073709551616):Value)=(.slice (some ⟨10,0,(some 0)⟩) (List.length l) 18446744073709551616))∧(Q (.tuple ⟨[(.string ({ data:=#[] })),(.bool false)]⟩) [some (.cells [(.bool true),(.slice (some ⟨10,0,(some 0)⟩) (List.length l) 18446744073709551616)] 0 false),some (.vec AT l false)])else False)else False))else False)else False)else(((.bool false):Value)=(.bool false))∧(Q (.tuple ⟨[(.string ({ data:=#[] })),(.bool false)]⟩) [some (.cells [(.bool true),(.slice (some ⟨10,0,(some 0)⟩) (List.length l) 18446744073709551616)] 0 false),some (.vec AT l false)]))):=by kernel_rfl
theorem Za (Q:Value→List (Option AJ)→Prop):FD XA Zt CT [9] Q 300 (st CT 6 [p9] (BF ⟨.leaf,9⟩ Lp))=(
 (Q (.int .i64 0) [some (.cells [(.bool true),(.slice none 0 0)] 0 false)])):=by kernel_rfl
theorem Ym (l:List (EK.C AT)) (Q:Value→List (Option AJ)→Prop):FD XA Zt CT [9,10] Q 300 (st CT 6 [p9] (BF ⟨.leaf,9⟩ (J7 l)))=(
 (Q (.int .i64 (Int.ofNat (List.length l))) [some (.cells [(.bool true),(.slice (some ⟨10,0,(some 0)⟩) (List.length l) 18446744073709551616)] 0 false),some (.vec AT l false)])):=by kernel_rfl
theorem Zh (l:List (EK.C AT)) (k v:ByteArray) (n:Nat) (x:Int) (Q:Value→List (Option AJ)→Prop):FD XA Zt BM [] Q 300 (st BM 95 [.slice (some ⟨9,0,some 0⟩) n AE,.int .i64 x,.slice (some ⟨10,0,none⟩) 1 1] (BF ⟨.leaf,9⟩ [.vec AT l false,.cells [.string k,.string v] 2 true]))=(
 (bif decide (0≤Int.ofNat n)&&Nat.ble (Int.toNat (Int.ofNat n)) n&&decide (0≤x)&&Nat.ble (Int.toNat x) (Int.toNat (Int.ofNat n))then(bif x==Int.ofNat n then(bif true&&Nat.ble (0+n) (List.length l)&&BV 32 (n+1)then(Q (.slice (some ⟨11,0,(some 0)⟩) (n+1) 18446744073709551616) [some (.vec ([SK.str]++([SK.str]++[])) (List.take n (List.drop 0 l)++[(k,v)]) false)])else False)else False)else False)):=by kernel_rfl
end Go.AD

set_option maxRecDepth 1000000
namespace Go.AD
open Go.Proofs
def DH (l:List (EK.C AT)) (k:ByteArray):Option ByteArray:=
 if AO l k < l.length∧((l.getD (AO l k) (EK.AU AT)).1.toList==k.toList)=true then some (l.getD (AO l k) (EK.AU AT)).2 else none
def NS (o:Option ByteArray):Value:= .tuple ⟨[.string (o.getD { data:=#[] }),.bool o.isSome]⟩
theorem FX (o:Option ByteArray):Cd 6 (NS o)=true∧Ac 4 (NS o)=[]:=by
 cases o<;>exact⟨rfl,rfl⟩
noncomputable def A4:Aj:=
 ⟨fun l rest=>A8 l∧l.length < 4611686018427387904∧∃k,rest=[.string k],fun l rest=>match rest with
  | [.string k]=>NS (DH l k)
  | _=>Be,fun l _=>l⟩
theorem cb {a n:Nat} (h:a < n):Nat.blt (0+Int.toNat (a:Int)) n=true:=by
 rw[Nat.zero_add,Int.toNat_natCast];exact Nat.ble_eq_true_of_le h
theorem ca {a n:Nat} (h:a < n):(decide ((0:Int)≤(a:Int))&&Nat.blt (Int.toNat (a:Int)) n)=true:=by
 rw[Int.toNat_natCast,show Nat.blt a n=true from Nat.ble_eq_true_of_le h];simp
theorem ZL:Dr Tryz.prog AM Br (Ay AM 9 [true] A4.G):=by
 refine LR XE (by kernel_rfl) (n:=26) ?_
 rintro l rest ⟨hs,hn,k,rfl⟩
 refine⟨by simp,(FX _).1,(FX _).2,?_,?_⟩
 ·rintro rfl
  have hv:A4.v [] [.string k]= .tuple ⟨[.string { data:=#[] },.bool false]⟩:=by
   show NS (DH [] k)=_
   unfold DH
   rw[if_neg (by simp)];rfl
  rw[hv]
  refine(Bc.GF (B4 I7 (ids:=[9]) (Q:=fun v os=>v= .tuple ⟨[.string { data:=#[] },.bool false]⟩∧os=[some (.cells [.bool true,.slice none 0 0] 0 false)]) 300 _ (by rw[ZC];exact⟨rfl,rfl,rfl⟩))).mono ?_
  rintro v H ⟨rfl,h⟩
  exact⟨rfl,.inl ⟨rfl,Pj rfl h⟩⟩
 ·have hE:Ai XA 10 Br (fun v H=>v=NS (DH l k)∧([9,10]++Ac 4 v).map H.get=[some (.cells [.bool true,.slice (some ⟨10,0,some 0⟩) l.length AE] 0 false),some (.vec AT l false)]) (st Br 26 [p9,.string k] (BF ⟨.leaf,9⟩ (J7 l))):=by
   refine Bc.GF (B4 I7 (ids:=[9,10]) (Q:=fun v os=>v=NS (DH l k)∧os=[some (.cells [.bool true,.slice (some ⟨10,0,some 0⟩) l.length AE] 0 false),some (.vec AT l false)]) 300 _ ?_)
   rw[Z7]
   refine⟨⟨rfl,rfl,hs,hn⟩,AY (fun h=>?_) (fun h=>?_)⟩
   ·have hlt:AO l k < l.length:=by
     have:(AO l k:Int) < (l.length:Int):=h
     omega
    refine AF (ca hlt) (AF (cb hlt) (As (fun hc=>?_) (fun hc=>?_)))
    ·have e:DH l k=some (l.getD (0+Int.toNat (AO l k:Int)) (EK.AU AT)).2:=by
      unfold DH
      rw[Nat.zero_add,Int.toNat_natCast]at hc ⊢
      rw[if_pos ⟨hlt,hc⟩]
     refine⟨rfl,by rw[hc],rfl,AF (cb hlt) ⟨rfl,rfl,AF (ca hlt) ⟨rfl,rfl,rfl,AF (ca hlt) (AF (cb hlt) ⟨by rw[e];rfl,by unfold AE;rfl⟩)⟩⟩⟩
    ·have e:DH l k=none:=by
      unfold DH
      rw[Nat.zero_add,Int.toNat_natCast]at hc
      rw[if_neg (by rintro⟨_,h2⟩;rw[hc]at h2;cases h2)]
     exact⟨rfl,by rw[hc],rfl,AF (cb hlt) ⟨rfl,rfl,AF (ca hlt) ⟨rfl,rfl,rfl,by rw[e];rfl,by unfold AE;rfl⟩⟩⟩
   ·have e:DH l k=none:=by
     unfold DH
     rw[if_neg (by rintro⟨h2,_⟩;exact h (by show(AO l k:Int) < (l.length:Int);omega))]
    exact⟨rfl,by rw[e];rfl,by unfold AE;rfl⟩
  refine hE.mono ?_
  rintro v H ⟨rfl,h⟩
  obtain⟨h1,h2⟩:=ZS (FX _).2 h
  exact⟨rfl,.inr ⟨10,by decide,h1,h2⟩⟩
noncomputable def cX:Aj:=
 ⟨fun _ rest=>rest=[],fun l _=> .int .i64 l.length,fun l _=>l⟩
theorem Y0:Dr Tryz.prog AM CT (Ay AM 9 [true] cX.G):=by
 refine LR XE (by kernel_rfl) (n:=6) ?_
 rintro l rest rfl
 refine⟨by simp,rfl,rfl,?_,?_⟩
 ·rintro rfl
  refine(Bc.GF (B4 I7 (ids:=[9]) (Q:=fun v os=>v= .int .i64 0∧os=[some (.cells [.bool true,.slice none 0 0] 0 false)]) 300 _ (by rw[Za];exact⟨rfl,rfl⟩))).mono ?_
  rintro v H ⟨rfl,h⟩
  exact⟨rfl,.inl ⟨rfl,Pj rfl h⟩⟩
 ·refine(Bc.GF (B4 I7 (ids:=[9,10]) (Q:=fun v os=>v= .int .i64 l.length∧os=[some (.cells [.bool true,.slice (some ⟨10,0,some 0⟩) l.length AE] 0 false),some (.vec AT l false)]) 300 _ (by rw[Ym];exact⟨rfl,by unfold AE;rfl⟩))).mono ?_
  rintro v H ⟨rfl,h⟩
  obtain⟨h1,h2⟩:=ZS rfl h
  exact⟨rfl,.inr ⟨10,by decide,h1,h2⟩⟩
end Go.AD

set_option maxRecDepth 1000000
namespace Go.AD
open Go.Proofs
noncomputable def HF (args:List Value) (objs:List AJ):GT:=
 match args,objs with
 | [.slice (some ⟨9,0,some 0⟩) n c,.int .i64 x,.slice (some ⟨10,0,none⟩) 1 1],[.vec [.str,.str] l _,.cells [.string k,.string v] 2 _]=>
  .ask (n=l.length∧c=AE∧x=n∧BV 32 (n+1)=true) (.ret ⟨.slice (some ⟨11,0,some 0⟩) (n+1) AE,[none,none],[.vec AT (l++[(k,v)]) false]⟩)
 | [.slice none 0 0,.int .i64 (.ofNat 0),.slice (some ⟨9,0,none⟩) 1 1],[.cells [.string k,.string v] 2 _]=> .ret ⟨.slice (some ⟨10,0,some 0⟩) 1 AE,[none],[.vec AT [(k,v)] false]⟩
 | _,_=> .fail
noncomputable def T9:Ci:=fun args H=>match Dx 2 32 args H with
 | some r=>some r
 | none=>Ay AM 9 [true,false] HF args H
noncomputable def bc:GP:=fun args H K=>match args with
 | [.slice a n c,.int .i64 x,s]=>bif decide (x < (n:Int))then La 2 32 [.slice a n c,.int .i64 x,s] H K else Bh AM 9 [true,false] HF [.slice a n c,.int .i64 x,s] H K
 | _=>False
theorem Yu (k v:ByteArray) (Q:Value→List (Option AJ)→Prop):FD XA Zt BM [10] Q 300 (st BM 95 [.slice none 0 0,.int .i64 0,.slice (some ⟨9,0,none⟩) 1 1] (BF ⟨.leaf,9⟩ [.cells [.string k,.string v] 2 false]))=(
 (Q (.slice (some ⟨10,0,none⟩) 1 18446744073709551617) [some (.cells [(.string k),(.string v)] 2 false),some (.cells [(.string k),(.string v)] 2 false)])):=by kernel_rfl
noncomputable def fm:List (FuncId × Ci):=(BM,T9)::(Ha,Gb 2)::fY
noncomputable def XS:Ctx:=Cf Tryz.prog AM fm
noncomputable def dV:Pf:=fun g=>bif Nat.beq g BM then some bc else bif Nat.beq g Ha then some (Oj 2)else Zt g
theorem ZD (k v:ByteArray) (Q:Value→List (Option AJ)→Prop):FD XS dV Bq [9,12] Q 500 (st Bq 61 [p9,.string k,.string v] (BF ⟨.leaf,9⟩ Lp))=(
 (((.bool false):Value)=(.bool false))∧(Q (.tuple ⟨[(.string ({ data:=#[] })),(.bool false),(.int .i64 0)]⟩) [some (.cells [(.bool true),(.slice (some ⟨12,0,(some 0)⟩) 1 18446744073709551616)] 0 false),some (.vec ([SK.str,SK.str]) ([(k,v)]) false)])):=by kernel_rfl
theorem Zq (l:List (EK.C AT)) (k v:ByteArray) (Q:Value→List (Option AJ)→Prop):FD XS dV Bq [9,10,13] Q 500 (st Bq 61 [p9,.string k,.string v] (BF ⟨.leaf,9⟩ (J7 l)))=(
 (List.length l=List.length l∧AE=AE∧A8 l∧List.length l < 4611686018427387904)∧(bif decide (((AO l k):Int) < Int.ofNat (List.length l))then(bif decide (0≤((AO l k):Int))&&Nat.blt (Int.toNat ((AO l k):Int)) (List.length l)then(bif Nat.blt (0+Int.toNat ((AO l k):Int)) (List.length l)then(bif ByteArray.toList (Prod.fst (List.getD l (0+Int.toNat ((AO l k):Int)) (EK.AU AT)))==ByteArray.toList k then(((.bool true):Value)=(.bool true))∧(((.bool (ByteArray.toList (Prod.fst (List.getD l (0+Int.toNat ((AO l k):Int)) (EK.AU AT)))==ByteArray.toList k)):Value)=(.bool true))∧(((.string k):Value)=(.string k))∧(bif Nat.blt (0+Int.toNat ((AO l k):Int)) (List.length l)then(((.string (Prod.fst (List.getD l (0+Int.toNat ((AO l k):Int)) (EK.AU AT)))):Value)=(.string (Prod.fst (List.getD l (0+Int.toNat ((AO l k):Int)) (EK.AU AT)))))∧(((.pointer (some ⟨10,0,(some (0+Int.toNat ((AO l k):Int)))⟩)):Value)=(.pointer (some ⟨10,0,(some (0+Int.toNat ((AO l k):Int)))⟩)))∧(bif decide (0≤((AO l k):Int))&&Nat.blt (Int.toNat ((AO l k):Int)) (List.length l)then(((.pointer (some ⟨10,0,(some (0+Int.toNat ((AO l k):Int)))⟩)):Value)=(.pointer (some ⟨10,0,(some (0+Int.toNat ((AO l k):Int)))⟩)))∧(((.int .i64 (((AO l k):Int))):Value)=(.int .i64 (((AO l k):Int))))∧(((.slice (some ⟨10,0,(some 0)⟩) (List.length l) 18446744073709551616):Value)=(.slice (some ⟨10,0,(some 0)⟩) (List.length l) 18446744073709551616))∧(bif decide (0≤((AO l k):Int))&&Nat.blt (Int.toNat ((AO l k):Int)) (List.length l)then(bif Nat.blt (0+Int.toNat ((AO l k):Int)) (List.length l)then(((.string v):Value)=(.string v))∧(((.int .i64 (((AO l k):Int))):Value)=(.int .i64 (((AO l k):Int))))∧(((.slice (some ⟨10,0,(some 0)⟩) (List.length l) 18446744073709551616):Value)=(.slice (some ⟨10,0,(some 0)⟩) (List.length l) 18446744073709551616))∧(((.pointer (some ⟨9,1,none⟩)):Value)=(.pointer (some ⟨9,1,none⟩)))∧(((.pointer (some ⟨9,0,none⟩)):Value)=(.pointer (some ⟨9,0,none⟩)))∧(((.pointer (some ⟨9,0,none⟩)):Value)=(.pointer (some ⟨9,0,none⟩)))∧(bif decide (0≤((AO l k):Int))&&Nat.blt (Int.toNat ((AO l k):Int)) (List.length l)then(bif Nat.blt (0+Int.toNat ((AO l k):Int)) (List.length l)then(Q (.tuple ⟨[(.string (Prod.snd (List.getD l (0+Int.toNat ((AO l k):Int)) (EK.AU AT)))),(.bool true),(.int .i64 0)]⟩) [some (.cells [(.bool true),(.slice (some ⟨10,0,(some 0)⟩) (List.length l) 18446744073709551616)] 0 false),some (.vec AT (List.set l (0+Int.toNat ((AO l k):Int)) (Prod.fst (List.getD l (0+Int.toNat ((AO l k):Int)) (EK.AU AT)),v)) false),none])else False)else False)else False)else False)else False)else False)else(((.bool false):Value)=(.bool false))∧(((.bool (ByteArray.toList (Prod.fst (List.getD l (0+Int.toNat ((AO l k):Int)) (EK.AU AT)))==ByteArray.toList k)):Value)=(.bool false))∧(((.string k):Value)=(.string k))∧(bif Nat.blt (0+Int.toNat ((AO l k):Int)) (List.length l)then(((.string (Prod.fst (List.getD l (0+Int.toNat ((AO l k):Int)) (EK.AU AT)))):Value)=(.string (Prod.fst (List.getD l (0+Int.toNat ((AO l k):Int)) (EK.AU AT)))))∧(((.pointer (some ⟨10,0,(some (0+Int.toNat ((AO l k):Int)))⟩)):Value)=(.pointer (some ⟨10,0,(some (0+Int.toNat ((AO l k):Int)))⟩)))∧(bif decide (0≤((AO l k):Int))&&Nat.blt (Int.toNat ((AO l k):Int)) (List.length l)then(((.pointer (some ⟨10,0,(some (0+Int.toNat ((AO l k):Int)))⟩)):Value)=(.pointer (some ⟨10,0,(some (0+Int.toNat ((AO l k):Int)))⟩)))∧(((.int .i64 (((AO l k):Int))):Value)=(.int .i64 (((AO l k):Int))))∧
 (((.slice (some ⟨10,0,(some 0)⟩) (List.length l) 18446744073709551616):Value)=(.slice (some ⟨10,0,(some 0)⟩) (List.length l) 18446744073709551616))∧(bif decide (((AO l k):Int) < ((List.length l):Int))then(0+List.length l≤List.length l∧0≤((AO l k):Int)∧((AO l k):Int) < ((List.length l):Int)∧BV 32 (List.length l+1)=true)∧(Q (.tuple ⟨[(.string ({ data:=#[] })),(.bool false),(.int .i64 0)]⟩) [some (.cells [(.bool true),(.slice (some ⟨13,0,(some 0)⟩) (List.length l+1) 18446744073709551616)] 0 false),none,some (.vec AT (List.take (Int.toNat ((AO l k):Int)) (List.take (List.length l) (List.drop 0 l))++([(k,v)]++List.drop (Int.toNat ((AO l k):Int)) (List.take (List.length l) (List.drop 0 l)))) false)])else(List.length l=List.length l∧AE=AE∧((AO l k):Int)=((List.length l):Int)∧BV 32 (List.length l+1)=true)∧(Q (.tuple ⟨[(.string ({ data:=#[] })),(.bool false),(.int .i64 0)]⟩) [some (.cells [(.bool true),(.slice (some ⟨13,0,(some 0)⟩) (List.length l+1) 18446744073709551616)] 0 false),none,some (.vec ([SK.str,SK.str]) (l++[(k,v)]) false)]))else False)else False))else False)else False)else(((.bool false):Value)=(.bool false))∧(bif decide (((AO l k):Int) < ((List.length l):Int))then(0+List.length l≤List.length l∧0≤((AO l k):Int)∧((AO l k):Int) < ((List.length l):Int)∧BV 32 (List.length l+1)=true)∧(Q (.tuple ⟨[(.string ({ data:=#[] })),(.bool false),(.int .i64 0)]⟩) [some (.cells [(.bool true),(.slice (some ⟨13,0,(some 0)⟩) (List.length l+1) 18446744073709551616)] 0 false),none,some (.vec AT (List.take (Int.toNat ((AO l k):Int)) (List.take (List.length l) (List.drop 0 l))++([(k,v)]++List.drop (Int.toNat ((AO l k):Int)) (List.take (List.length l) (List.drop 0 l)))) false)])else(List.length l=List.length l∧AE=AE∧((AO l k):Int)=((List.length l):Int)∧BV 32 (List.length l+1)=true)∧(Q (.tuple ⟨[(.string ({ data:=#[] })),(.bool false),(.int .i64 0)]⟩) [some (.cells [(.bool true),(.slice (some ⟨13,0,(some 0)⟩) (List.length l+1) 18446744073709551616)] 0 false),none,some (.vec ([SK.str,SK.str]) (l++[(k,v)]) false)])))):=by kernel_rfl
theorem Zo (k:ByteArray) (Q:Value→List (Option AJ)→Prop):FD XS dV BE [9] Q 500 (st BE 32 [p9,.string k] (BF ⟨.leaf,9⟩ Lp))=(
 (((.bool false):Value)=(.bool false))∧(Q (.tuple ⟨[(.string ({ data:=#[] })),(.bool false)]⟩) [some (.cells [(.bool true),(.slice none 0 0)] 0 false)])):=by kernel_rfl
theorem aI (l:List (EK.C AT)) (k:ByteArray) (Q:Value→List (Option AJ)→Prop):FD XS dV BE [9,10,13] Q 500 (st BE 32 [p9,.string k] (BF ⟨.leaf,9⟩ (J7 l)))=(
 (List.length l=List.length l∧AE=AE∧A8 l∧List.length l < 4611686018427387904)∧(bif decide (((AO l k):Int) < Int.ofNat (List.length l))then(bif decide (0≤((AO l k):Int))&&Nat.blt (Int.toNat ((AO l k):Int)) (List.length l)then(bif Nat.blt (0+Int.toNat ((AO l k):Int)) (List.length l)then(bif ByteArray.toList (Prod.fst (List.getD l (0+Int.toNat ((AO l k):Int)) (EK.AU AT)))==ByteArray.toList k then(((.bool true):Value)=(.bool true))∧(((.bool (ByteArray.toList (Prod.fst (List.getD l (0+Int.toNat ((AO l k):Int)) (EK.AU AT)))==ByteArray.toList k)):Value)=(.bool true))∧(((.string k):Value)=(.string k))∧(bif Nat.blt (0+Int.toNat ((AO l k):Int)) (List.length l)then(((.string (Prod.fst (List.getD l (0+Int.toNat ((AO l k):Int)) (EK.AU AT)))):Value)=(.string (Prod.fst (List.getD l (0+Int.toNat ((AO l k):Int)) (EK.AU AT)))))∧(((.pointer (some ⟨10,0,(some (0+Int.toNat ((AO l k):Int)))⟩)):Value)=(.pointer (some ⟨10,0,(some (0+Int.toNat ((AO l k):Int)))⟩)))∧(bif decide (0≤((AO l k):Int))&&Nat.blt (Int.toNat ((AO l k):Int)) (List.length l)then(((.pointer (some ⟨10,0,(some (0+Int.toNat ((AO l k):Int)))⟩)):Value)=(.pointer (some ⟨10,0,(some (0+Int.toNat ((AO l k):Int)))⟩)))∧(((.int .i64 (((AO l k):Int))):Value)=(.int .i64 (((AO l k):Int))))∧(((.slice (some ⟨10,0,(some 0)⟩) (List.length l) 18446744073709551616):Value)=(.slice (some ⟨10,0,(some 0)⟩) (List.length l) 18446744073709551616))∧(bif decide (0≤((AO l k):Int))&&Nat.blt (Int.toNat ((AO l k):Int)) (List.length l)then(bif Nat.blt (0+Int.toNat ((AO l k):Int)) (List.length l)then(List.length l=List.length l∧AE=AE∧A8 l∧List.length l < 4611686018427387904)∧(0+List.length l≤List.length l∧0≤((AO l k):Int)∧((AO l k):Int) < IntKind.wrap .i64 (((AO l k):Int)+1)∧IntKind.wrap .i64 (((AO l k):Int)+1)≤((List.length l):Int))∧(Q (.tuple ⟨[(.string (Prod.snd (List.getD l (0+Int.toNat ((AO l k):Int)) (EK.AU AT)))),(.bool true)]⟩) [some (.cells [(.bool true),(.slice (some ⟨13,0,(some 0)⟩) (List.length l - (Int.toNat (IntKind.wrap .i64 (((AO l k):Int)+1)) - Int.toNat ((AO l k):Int))) 18446744073709551616)] 0 false),none,some (.vec AT (List.take (Int.toNat ((AO l k):Int)) (List.take (List.length l) (List.drop 0 l))++List.drop (Int.toNat (IntKind.wrap .i64 (((AO l k):Int)+1))) (List.take (List.length l) (List.drop 0 l))) false)])else False)else False)else False)else False)else(((.bool false):Value)=(.bool false))∧(((.bool (ByteArray.toList (Prod.fst (List.getD l (0+Int.toNat ((AO l k):Int)) (EK.AU AT)))==ByteArray.toList k)):Value)=(.bool false))∧(((.string k):Value)=(.string k))∧(bif Nat.blt (0+Int.toNat ((AO l k):Int)) (List.length l)then(((.string (Prod.fst (List.getD l (0+Int.toNat ((AO l k):Int)) (EK.AU AT)))):Value)=(.string (Prod.fst (List.getD l (0+Int.toNat ((AO l k):Int)) (EK.AU AT)))))∧(((.pointer (some ⟨10,0,(some (0+Int.toNat ((AO l k):Int)))⟩)):Value)=(.pointer (some ⟨10,0,(some (0+Int.toNat ((AO l k):Int)))⟩)))∧(bif decide (0≤((AO l k):Int))&&Nat.blt (Int.toNat ((AO l k):Int)) (List.length l)then(((.pointer (some ⟨10,0,(some (0+Int.toNat ((AO l k):Int)))⟩)):Value)=(.pointer (some ⟨10,0,(some (0+Int.toNat ((AO l k):Int)))⟩)))∧(((.int .i64 (((AO l k):Int))):Value)=(.int .i64 (((AO l k):Int))))∧(((.slice (some ⟨10,0,(some 0)⟩) (List.length l) 18446744073709551616):Value)=(.slice (some ⟨10,0,(some 0)⟩) (List.length l) 18446744073709551616))∧
 (Q (.tuple ⟨[(.string ({ data:=#[] })),(.bool false)]⟩) [some (.cells [(.bool true),(.slice (some ⟨10,0,(some 0)⟩) (List.length l) 18446744073709551616)] 0 false),some (.vec AT l false),none])else False)else False))else False)else False)else(((.bool false):Value)=(.bool false))∧(Q (.tuple ⟨[(.string ({ data:=#[] })),(.bool false)]⟩) [some (.cells [(.bool true),(.slice (some ⟨10,0,(some 0)⟩) (List.length l) 18446744073709551616)] 0 false),some (.vec AT l false),none]))):=by kernel_rfl
end Go.AD

set_option maxRecDepth 1000000
namespace Go.AD
open Go.Proofs
theorem OY {m b:Nat} {muts:List Bool} {MG:List (Option AJ)} {v v':Value} {o o1:AJ} {Hf:AA} (holds:∀(j:Nat) (o:AJ),MG[j]?≠some (some o)) (hb:9+m≤b) (hv:E9 (Ck.HX AM 9 m [b]) v=some v')
 (ho:BN (Ck.HX AM 9 m [b]) o=some o1) (h:Hf.get b=some o1):Ck AM 9 m muts ⟨v,MG,[o]⟩ v' Hf:=by
 refine⟨[b],by simp,fun c hc=>by simp at hc;omega,rfl,hv,fun j c p hj hp=>?_,fun j p _ _ hp=>absurd hp (holds j p)⟩
 cases j with
 | zero=>cases hj;cases hp;exact⟨o1,ho,h⟩
 | succ j=>cases j<;>cases hj
theorem Pt:Dr Tryz.prog AM BM (Ay AM 9 [true,false] HF):=by
 refine BZ XE (by kernel_rfl) (n:=95) (by kernel_rfl) (by kernel_rfl) fun argsc objs x hx hro=>?_
 unfold HF at hx
 split at hx
 ·rename_i n c x0 l ro k v ro2
  simp only[GT.run]at hx
  split at hx
  ·rename_i hc
   cases hx
   obtain⟨rfl,rfl,rfl,hbig⟩:=hc
   have hr0:ro=false:=hro 0 _ rfl rfl
   subst hr0
   refine⟨by simp,?_⟩
   have h0:Ai XA 11 BM (fun w H=>w= .slice (some ⟨11,0,some 0⟩) (l.length+1) AE∧H.get 11=some (.vec AT (l++[(k,v)]) false)) (st BM 95 [.slice (some ⟨9,0,some 0⟩) l.length AE,.int .i64 (l.length:Int),.slice (some ⟨10,0,none⟩) 1 1] (BF ⟨.leaf,9⟩ [.vec AT l false,.cells [.string k,.string v] 2 true])):=by
    refine(Bc.GF (B4 I7 (ids:=[]) (Q:=fun w os=>w= .slice (some ⟨11,0,some 0⟩) (l.length+1) AE∧os=[some (.vec AT (l++[(k,v)]) false)]) 300 _ ?_)).mono ?_
    ·rw[Zh]
     refine AF ?_ (AF ?_ (AF ?_ ⟨by unfold AE;rfl,?_⟩))
     ·simp
     ·simp
     ·simp[hbig]
     ·rw[List.drop_zero,List.take_of_length_le (Nat.le_refl _)];rfl
    ·rintro w H ⟨rfl,h⟩
     exact⟨rfl,by simpa [Ac] using h⟩
   refine At.mono (Q:=fun w H=>w= .slice (some ⟨11,0,some 0⟩) (l.length+1) AE∧H.get 11=some (.vec AT (l++[(k,v)]) false)) h0.I3 ?_
   rintro w H ⟨rfl,h⟩
   refine OY (b:=11) (fun j o hj=>?_) (Nat.le_refl _) rfl rfl h
   cases j with
   | zero=>cases hj
   | succ j=>cases j<;>cases hj
  ·cases hx
 ·rename_i k v ro
  cases hx
  have hr0:ro=false:=hro 0 _ rfl rfl
  subst hr0
  refine⟨by simp,?_⟩
  have h0:Ai XA 10 BM (fun w H=>w= .slice (some ⟨10,0,none⟩) 1 (AE+1)∧H.get 10=some (.cells [.string k,.string v] 2 false)) (st BM 95 [.slice none 0 0,.int .i64 0,.slice (some ⟨9,0,none⟩) 1 1] (BF ⟨.leaf,9⟩ [.cells [.string k,.string v] 2 false])):=by
   refine(Bc.GF (B4 I7 (ids:=[10]) (Q:=fun w os=>w= .slice (some ⟨10,0,none⟩) 1 (AE+1)∧os=[some (.cells [.string k,.string v] 2 false),some (.cells [.string k,.string v] 2 false)]) 300 _ ?_)).mono ?_
   ·rw[Yu]
    exact⟨by unfold AE;rfl,rfl⟩
   ·rintro w H ⟨rfl,h⟩
    refine⟨rfl,?_⟩
    have h:[H.get 10,H.get 10]=_:=h
    simpa using h
  refine At.row (k:=AT) (Q:=fun w H=>w= .slice (some ⟨10,0,none⟩) 1 (AE+1)∧H.get 10=some (.cells [.string k,.string v] 2 false)) h0.I3 ?_
  rintro w H ⟨rfl,h⟩
  refine⟨10,1,[(k,v)],rfl,h,?_⟩
  refine OY (b:=10) (fun j o hj=>?_) (Nat.le_refl _) rfl rfl (by rw[AA.AN,if_pos rfl])
  cases j<;>cases hj
 ·cases hx
end Go.AD

set_option maxRecDepth 1000000
namespace Go.AD
open Go.Proofs
theorem Vc:Dr Tryz.prog AM BM (Dx 2 32):=PV ⟨95,_,show entry Tryz.prog 69=some (95,BH Tryz.prog 69 []) by kernel_rfl⟩ (by decide) (by decide) QJ Rk
theorem Wy:Dr Tryz.prog AM BM T9:=by
 refine⟨Pt.1,fun base W0 μ H W args args' v H' a b c d hF=>?_⟩
 unfold T9 at hF
 split at hF
 ·rename_i r hr
  cases hF
  exact Vc.2 base W0 μ H W args args' v H' a b c d hr
 ·exact Pt.2 base W0 μ H W args args' v H' a b c d hF
theorem Uc {a:Option Addr} {n c:Nat} {x:Int} {s:Value} {H:AA} (h:¬x < (n:Int)):Dx 2 32 [.slice a n c,.int .i64 x,s] H=none:=by
 unfold Dx
 split
 ·rename_i heq
  cases heq
  split
  ·split
   ·rename_i hc
    exact absurd hc.2.2.2.2.2.2.2.2.1 h
   ·rfl
  ·rfl
 ·rfl
theorem ZW {X:Ctx} {f:FuncId} (hX:X.GC f=some T9) {args:List Value} {H:AA} {K:Value→AA→Prop} (h:bc args H K):∃v H',B5 X f args .normal H=some (v,H')∧K v H':=by
 unfold bc at h
 split at h
 ·rename_i a n c x s
  by_cases hx:x < (n:Int)
  ·rw[decide_eq_true hx]at h
   have h:La 2 32 [.slice a n c,.int .i64 x,s] H K:=h
   let X2:Ctx:=⟨X.P,X.laid,fun _=>some (Dx 2 32),X.Bj⟩
   obtain⟨v,H',h1,h2⟩:=SE (X:=X2) (f:=f) (sz:=2) (B:=32) rfl h
   refine⟨v,H',?_,h2⟩
   unfold B5 at h1 ⊢
   simp only[hX]
   have h1:Dx 2 32 [.slice a n c,.int .i64 x,s] H=some (v,H'):=h1
   unfold T9
   rw[h1]
  ·rw[decide_eq_false hx]at h
   have h:Bh AM 9 [true,false] HF [.slice a n c,.int .i64 x,s] H K:=h
   let X2:Ctx:=⟨X.P,X.laid,fun _=>some (Ay AM 9 [true,false] HF),X.Bj⟩
   obtain⟨v,H',h1,h2⟩:=Ap (X:=X2) (f:=f) rfl h
   refine⟨v,H',?_,h2⟩
   unfold B5 at h1 ⊢
   simp only[hX]
   have h1:Ay AM 9 [true,false] HF [.slice a n c,.int .i64 x,s] H=some (v,H'):=h1
   unfold T9
   rw[Uc hx]
   exact h1
 ·cases h
theorem eB:Au Tryz.prog AM fm:=Au.cons Wy (Au.cons (Xh _) XE)
theorem Ov:El XS dV:=An (fun _ _ _ h=>ZW (by kernel_rfl) h) (An (fun _ _ _ h=>SW (by kernel_rfl) h) (An (fun _ _ _ h=>Ap (by kernel_rfl) h) (Ax _)))
end Go.AD

set_option maxRecDepth 1000000
namespace Go.AD
open Go.Proofs
noncomputable def EW (l:List (EK.C AT)) (k v:ByteArray):List (EK.C AT):=
 match DH l k with
 | some _=>l.set (AO l k) ((l.getD (AO l k) (EK.AU AT)).1,v)
 | none=>l.take (AO l k)++([(k,v)]++l.drop (AO l k))
noncomputable def Ej (l:List (EK.C AT)) (k:ByteArray):List (EK.C AT):=
 match DH l k with
 | some _=>l.take (AO l k)++l.drop (AO l k+1)
 | none=>l
def UD (o:Option ByteArray):Value:= .tuple ⟨[.string (o.getD { data:=#[] }),.bool o.isSome,.int .i64 0]⟩
theorem KG (o:Option ByteArray):Cd 6 (UD o)=true∧Ac 4 (UD o)=[]:=by
 cases o<;>exact⟨rfl,rfl⟩
theorem Pp {l:List (EK.C AT)} {k:ByteArray} (h:AO l k < l.length) (hc:((l.getD (0+Int.toNat (AO l k:Int)) (EK.AU AT)).1.toList==k.toList)=true):DH l k=some (l.getD (AO l k) (EK.AU AT)).2:=by
 unfold DH
 rw[Nat.zero_add,Int.toNat_natCast]at hc
 rw[if_pos ⟨h,hc⟩]
theorem Qa {l:List (EK.C AT)} {k:ByteArray} (hc:((l.getD (0+Int.toNat (AO l k:Int)) (EK.AU AT)).1.toList==k.toList)=false):DH l k=none:=by
 unfold DH
 rw[Nat.zero_add,Int.toNat_natCast]at hc
 rw[if_neg (by rintro⟨_,h2⟩;rw[hc]at h2;cases h2)]
theorem LU {l:List (EK.C AT)} {k:ByteArray} (h:¬AO l k < l.length):DH l k=none:=by
 unfold DH
 rw[if_neg (by rintro⟨h2,_⟩;exact h h2)]
noncomputable def JC:Aj:=
 ⟨fun l rest=>A8 l∧l.length < 1000000∧∃k v,rest=[.string k,.string v],fun l rest=>match rest with
  | [.string k,.string _]=>UD (DH l k)
  | _=>Be,fun l rest=>match rest with
  | [.string k,.string v]=>EW l k v
  | _=>l⟩
theorem No {n:Nat} (h:n < 1000000):BV 32 (n+1)=true:=by
 unfold BV
 rw[Nat.ble_eq_true_of_le (by omega),Nat.ble_eq_true_of_le (by omega)];rfl
noncomputable def CS (m n:Nat):AJ:= .cells [.bool true,.slice (some ⟨m,0,some 0⟩) n AE] 0 false
theorem YE:Dr Tryz.prog AM Bq (Ay AM 9 [true] JC.G):=by
 refine LR eB (by kernel_rfl) (n:=61) ?_
 rintro l rest ⟨hs,hn,k,v,rfl⟩
 refine⟨by simp,(KG _).1,(KG _).2,?_,?_⟩
 ·rintro rfl
  have hat:DH [] k=none:=LU (by simp)
  have hv:JC.v [] [.string k,.string v]= .tuple ⟨[.string { data:=#[] },.bool false,.int .i64 0]⟩:=by
   show UD (DH [] k)=_
   rw[hat];rfl
  have hnx:JC.nx [] [.string k,.string v]=[(k,v)]:=by
   show EW [] k v=_
   unfold EW
   rw[hat];simp
  rw[hv,hnx]
  refine(Bc.GF (B4 Ov (ids:=[9,12]) (Q:=fun w os=>w= .tuple ⟨[.string { data:=#[] },.bool false,.int .i64 0]⟩∧os=[some (CS 12 1),some (.vec AT [(k,v)] false)]) 500 _ (by rw[ZD];exact⟨rfl,rfl,by unfold CS AE;rfl⟩))).mono ?_
  rintro w H ⟨rfl,h⟩
  have h:[H.get 9,H.get 12]=_:=h
  simp only[List.cons.injEq,and_true]at h
  exact⟨rfl,.inr ⟨12,by decide,h.1,h.2⟩⟩
 ·have hlen:(EW l k v).length=(match DH l k with | some _=>l.length | none=>l.length+1):=by
   have:=Ly l k
   unfold EW
   cases DH l k with
   | some _=>simp
   | none=>simp only[List.length_append,List.length_take,List.length_drop,List.length_cons,List.length_nil];omega
  have hE:Ai XS 10 Bq (fun w H=>w=UD (DH l k)∧((∃o3,([9,10,13]++Ac 4 w).map H.get=[some (CS 10 (EW l k v).length),some (.vec AT (EW l k v) false),o3])∨
   ([9,10,13]++Ac 4 w).map H.get=[some (CS 13 (EW l k v).length),none,some (.vec AT (EW l k v) false)])) (st Bq 61 [p9,.string k,.string v] (BF ⟨.leaf,9⟩ (J7 l))):=by
   refine Bc.GF (B4 Ov (ids:=[9,10,13]) (Q:=fun w os=>w=UD (DH l k)∧((∃o3,os=[some (CS 10 (EW l k v).length),some (.vec AT (EW l k v) false),o3])∨os=[some (CS 13 (EW l k v).length),none,some (.vec AT (EW l k v) false)])) 500 _ ?_)
   rw[Zq]
   refine⟨⟨rfl,rfl,hs,by omega⟩,AY (fun h=>?_) (fun h=>?_)⟩
   ·have hlt:AO l k < l.length:=by
     have:(AO l k:Int) < (l.length:Int):=h
     omega
    refine AF (ca hlt) (AF (cb hlt) (As (fun hc=>?_) (fun hc=>?_)))
    ·have e:=Pp hlt hc
     have e2:EW l k v=l.set (AO l k) ((l.getD (AO l k) (EK.AU AT)).1,v):=by unfold EW;rw[e]
     rw[e]at hlen
     refine⟨rfl,by rw[hc],rfl,AF (cb hlt) ⟨rfl,rfl,AF (ca hlt) ⟨rfl,rfl,rfl,AF (ca hlt) (AF (cb hlt) ⟨rfl,rfl,rfl,rfl,rfl,rfl,AF (ca hlt) (AF (cb hlt) ⟨?_,.inl ⟨none,?_⟩⟩)⟩)⟩⟩⟩
     ·rw[e,Nat.zero_add,Int.toNat_natCast];rfl
     ·rw[hlen,e2,Nat.zero_add,Int.toNat_natCast]
      unfold CS AE;rfl
    ·have e:=Qa hc
     have e2:EW l k v=l.take (AO l k)++([(k,v)]++l.drop (AO l k)):=by unfold EW;rw[e]
     rw[e]at hlen
     refine⟨rfl,by rw[hc],rfl,AF (cb hlt) ⟨rfl,rfl,AF (ca hlt) ⟨rfl,rfl,rfl,AY (fun h2=>?_) (fun h2=>absurd h h2)⟩⟩⟩
     refine⟨⟨by omega,by omega,h2,No hn⟩,by rw[e];rfl,.inr ?_⟩
     rw[hlen,e2,List.drop_zero,List.take_of_length_le (Nat.le_refl _),Int.toNat_natCast]
     unfold CS AE;rfl
   ·have hge:¬AO l k < l.length:=fun h2=>h (by show(AO l k:Int) < (l.length:Int);omega)
    have e:=LU (k:=k) hge
    have hr:AO l k=l.length:=by have:=Ly l k;omega
    have e2:EW l k v=l++[(k,v)]:=by
     unfold EW
     rw[e]
     simp only[hr,List.take_length,List.drop_length,List.append_nil]
    rw[e]at hlen
    refine⟨rfl,AY (fun h2=>absurd h2 h) (fun _=>⟨⟨rfl,rfl,by rw[hr],No hn⟩,by rw[e];rfl,.inr ?_⟩)⟩
    rw[hlen,e2]
    unfold CS AE;rfl
  refine hE.mono ?_
  rintro w H ⟨rfl,h⟩
  rw[(KG _).2]at h
  refine⟨rfl,.inr ?_⟩
  rcases h with⟨o3,h⟩ | h
  ·simp only[List.append_nil,List.map_cons,List.map_nil,List.cons.injEq,and_true]at h
   exact⟨10,by decide,h.1,h.2.1⟩
  ·simp only[List.append_nil,List.map_cons,List.map_nil,List.cons.injEq,and_true]at h
   exact⟨13,by decide,h.1,h.2.2⟩
end Go.AD

set_option maxRecDepth 1000000
namespace Go.AD
open Go.Proofs
noncomputable def JN:Aj:=
 ⟨fun l rest=>A8 l∧l.length < 1000000∧∃k,rest=[.string k],fun l rest=>match rest with
  | [.string k]=>NS (DH l k)
  | _=>Be,fun l rest=>match rest with
  | [.string k]=>Ej l k
  | _=>l⟩
theorem YO:Dr Tryz.prog AM BE (Ay AM 9 [true] JN.G):=by
 refine LR eB (by kernel_rfl) (n:=32) ?_
 rintro l rest ⟨hs,hn,k,rfl⟩
 refine⟨by simp,(FX _).1,(FX _).2,?_,?_⟩
 ·rintro rfl
  have hat:DH [] k=none:=LU (by simp)
  have hv:JN.v [] [.string k]= .tuple ⟨[.string { data:=#[] },.bool false]⟩:=by
   show NS (DH [] k)=_
   rw[hat];rfl
  have hnx:JN.nx [] [.string k]=[]:=by
   show Ej [] k=_
   unfold Ej
   rw[hat]
  rw[hv,hnx]
  have hE:Ai XS 10 BE (fun w H=>w= .tuple ⟨[.string { data:=#[] },.bool false]⟩∧([9]++Ac 4 w).map H.get=[some (.cells [.bool true,.slice none 0 0] 0 false)]) (st BE 32 [p9,.string k] (BF ⟨.leaf,9⟩ Lp)):=
   Bc.GF (B4 Ov (ids:=[9]) (Q:=fun w os=>w= .tuple ⟨[.string { data:=#[] },.bool false]⟩∧os=[some (.cells [.bool true,.slice none 0 0] 0 false)]) 500 _ (by rw[Zo];exact⟨rfl,rfl,rfl⟩))
  refine hE.mono ?_
  rintro w H ⟨rfl,h⟩
  exact⟨rfl,.inl ⟨rfl,Pj rfl h⟩⟩
 ·have hE:Ai XS 10 BE (fun w H=>w=NS (DH l k)∧((∃o3,([9,10,13]++Ac 4 w).map H.get=[some (CS 10 (Ej l k).length),some (.vec AT (Ej l k) false),o3])∨
   ([9,10,13]++Ac 4 w).map H.get=[some (CS 13 (Ej l k).length),none,some (.vec AT (Ej l k) false)])) (st BE 32 [p9,.string k] (BF ⟨.leaf,9⟩ (J7 l))):=by
   refine Bc.GF (B4 Ov (ids:=[9,10,13]) (Q:=fun w os=>w=NS (DH l k)∧((∃o3,os=[some (CS 10 (Ej l k).length),some (.vec AT (Ej l k) false),o3])∨os=[some (CS 13 (Ej l k).length),none,some (.vec AT (Ej l k) false)])) 500 _ ?_)
   rw[aI]
   refine⟨⟨rfl,rfl,hs,by omega⟩,AY (fun h=>?_) (fun h=>?_)⟩
   ·have hlt:AO l k < l.length:=by
     have:(AO l k:Int) < (l.length:Int):=h
     omega
    refine AF (ca hlt) (AF (cb hlt) (As (fun hc=>?_) (fun hc=>?_)))
    ·have e:=Pp hlt hc
     have e2:Ej l k=l.take (AO l k)++l.drop (AO l k+1):=by unfold Ej;rw[e]
     have hw:IntKind.wrap .i64 ((AO l k:Int)+1)=((AO l k+1:Nat):Int):=by rw[wrap64 (by omega) (by omega)];rfl
     have hlen:(Ej l k).length=l.length - (AO l k+1 - AO l k):=by
      rw[e2];simp only[List.length_append,List.length_take,List.length_drop];omega
     refine⟨rfl,by rw[hc],rfl,AF (cb hlt) ⟨rfl,rfl,AF (ca hlt) ⟨rfl,rfl,rfl,AF (ca hlt) (AF (cb hlt) ⟨⟨rfl,rfl,hs,by omega⟩,⟨by omega,by omega,?_,?_⟩,?_,.inr ?_⟩)⟩⟩⟩
     ·rw[hw];omega
     ·rw[hw];omega
     ·rw[e,Nat.zero_add,Int.toNat_natCast];rfl
     ·rw[hlen,e2,hw,List.drop_zero,List.take_of_length_le (Nat.le_refl _),Int.toNat_natCast,Int.toNat_natCast]
      unfold CS AE;rfl
    ·have e:=Qa hc
     have e2:Ej l k=l:=by unfold Ej;rw[e]
     refine⟨rfl,by rw[hc],rfl,AF (cb hlt) ⟨rfl,rfl,AF (ca hlt) ⟨rfl,rfl,rfl,by rw[e];rfl,.inl ⟨none,?_⟩⟩⟩⟩
     rw[e2]
     unfold CS AE;rfl
   ·have e:=LU (l:=l) (k:=k) (fun h2=>h (by show(AO l k:Int) < (l.length:Int);omega))
    have e2:Ej l k=l:=by unfold Ej;rw[e]
    refine⟨rfl,by rw[e];rfl,.inl ⟨none,?_⟩⟩
    rw[e2]
    unfold CS AE;rfl
  refine hE.mono ?_
  rintro w H ⟨rfl,h⟩
  rw[(FX _).2]at h
  refine⟨rfl,.inr ?_⟩
  rcases h with⟨o3,h⟩ | h
  ·simp only[List.append_nil,List.map_cons,List.map_nil,List.cons.injEq,and_true]at h
   exact⟨10,by decide,h.1,h.2.1⟩
  ·simp only[List.append_nil,List.map_cons,List.map_nil,List.cons.injEq,and_true]at h
   exact⟨13,by decide,h.1,h.2.2⟩
end Go.AD

set_option maxRecDepth 1000000
namespace Go.AD
open Go.Proofs
theorem bj (Q:Value→List (Option AJ)→Prop):FD XA Zt C9 [9] Q 100 (st C9 3 [] ⟨.leaf,9⟩)=(
 (Q (.pointer (some ⟨9,0,none⟩)) [some (.cells [(.bool true),(.slice none 0 0)] 0 false),some (.cells [(.bool true),(.slice none 0 0)] 0 false)])):=by kernel_rfl
end Go.AD

set_option maxRecDepth 1000000
namespace Go.AD
open Go.Proofs
noncomputable def TR (args:List Value) (objs:List AJ):GT:=
 match args,objs with
 | [],[]=> .ret ⟨.pointer (some ⟨9,0,none⟩),[],[.abs (.pack (.table [])) false]⟩
 | _,_=> .fail
theorem VR:Dr Tryz.prog AM C9 (Ay AM 9 [] TR):=by
 refine BZ XE (by kernel_rfl) (n:=3) (by kernel_rfl) (by kernel_rfl) fun argsc objs x hx hro=>?_
 unfold TR at hx
 split at hx
 ·cases hx
  refine⟨by simp,?_⟩
  have h0:Ai XA 9 C9 (fun w H=>w= .pointer (some ⟨9,0,none⟩)∧H.get 9=some (.cells [.bool true,.slice none 0 0] 0 false)) (st C9 3 [] ⟨.leaf,9⟩):=by
   refine(Bc.GF (B4 I7 (ids:=[9]) (Q:=fun w os=>w= .pointer (some ⟨9,0,none⟩)∧os=[some (.cells [.bool true,.slice none 0 0] 0 false),some (.cells [.bool true,.slice none 0 0] 0 false)]) 100 _ (by rw[bj];exact⟨rfl,rfl⟩))).mono ?_
   rintro w H ⟨rfl,h⟩
   refine⟨rfl,?_⟩
   have h:[H.get 9,H.get 9]=_:=h
   simpa using h
  refine At.shut (Q:=fun w H=>w= .pointer (some ⟨9,0,none⟩)∧H.get 9=some (.cells [.bool true,.slice none 0 0] 0 false)) h0.I3 ?_
  rintro w H ⟨rfl,h⟩
  refine⟨_,Ma (s:= .table []) (b:=9) (o:= .cells [.bool true,.slice none 0 0] 0 false) .Cv (.inl (by simp[Ac])) h rfl rfl rfl (.refl _),?_⟩
  refine OY (b:=9) (fun j o hj=>by cases hj) (Nat.le_refl _) rfl rfl ?_
  exact(B0 (by simp)).root 9 rfl
 ·cases hx
end Go.AD

namespace Go.AD
noncomputable def TH (t:Tr Value) (l:List Nat):Tr Value:=Ln id t l
theorem Nh {μ:Ad} {t:Tr Value} {n:Nat} {a:Array Value} (h:En μ t n a) (l:List Nat):En μ (TH t l) n a:=by
 refine⟨h.1,fun i=>?_⟩
 unfold TH
 rcases I8 id t l i with e | e
 ·rw[e];exact .Be _
 ·rw[e];exact h.2 i
def Cu:List CI→Bool
 | []=>true
 | .DZ _ _::_=>false
 | _::r=>Cu r
def XI:List (FuncId × List Nat)→FuncId→Option (List Nat)
 | [],_=>none
 | p::r,f=>bif Nat.beq p.1 f then some p.2 else XI r f
noncomputable def Ke (ks:List (FuncId × List Nat)):Ab→Ab
 | ⟨fn,t,n,todo,ds,r,kd,rd⟩=>match XI ks fn with
  | some l=>⟨fn,TH t l,n,todo,ds,r,kd,rd⟩
  | none=>⟨fn,t,n,todo,ds,r,kd,rd⟩
noncomputable def L9 (ks:List (FuncId × List Nat)):List Nat→AA→AA
 | [],H=>H
 | b::r,H=>match (L9 ks r H).get b with
  | some (.loop ⟨st,pd,fn,t,n,ps,asg,bd,df⟩)=>match XI ks fn with
   | some l=>(L9 ks r H).put b (.loop ⟨st,pd,fn,TH t l,n,ps,asg,bd,df⟩)
   | none=>L9 ks r H
  | _=>L9 ks r H
noncomputable def Gv (ks:List (FuncId × List Nat)) (bs:List Nat) (c:A5):A5:=⟨c.fr,c.cs.map (Ke ks),L9 ks bs c.H⟩
section
variable {X:Ctx} {base:Env} {W0:World} {μ:Ad} {W:World} {N:Nat}
theorem OG {ks:List (FuncId × List Nat)}:∀(bs:List Nat) {H:AA},AP base W0 μ H W→AP base W0 μ (L9 ks bs H) W
 | [],H,h=>h
 | b::r,H,h=>by
  have h1:=OG r h (ks:=ks)
  unfold L9
  split
  ·rename_i st pd fn t n ps asg bd df hb
   split
   ·refine h1.swap hb (fun T o' _ ho=>?_) rfl rfl rfl (fun _ _ hv=>hv)
    cases ho with
    | loop _ a R ht hd=>exact .loop T ⟨st,pd,fn,_,n,ps,asg,bd,df⟩ a R (Nh ht _) hd
   ·exact h1
  ·exact h1
theorem N4 {H H':AA} {g:List Nat} {f:Ab} {f':Frame} (h:J9 X μ H g f f') (hd:Cu f.todo=true):J9 X μ H' [] f f':=by
 cases h with
 | plain fn t n tm todo todo' ds ds' r kd rd rd' ht hi hdd hr=>exact .plain _ _ _ _ _ _ _ _ _ _ _ _ ht hi hdd hr
 | drawn=>cases hd
theorem Ya {ks:List (FuncId × List Nat)} {H H':AA} {g:List Nat} {f:Ab} {f':Frame} (h:Gi X μ H g f f') (hd:Cu f.todo=true):Gi X μ H' [] (Ke ks f) f':=by
 cases h with
 | plain fn t n tm todo todo' ds ds' r kd rd rd' ht hi hdd hr=>
  unfold Ke
  simp only
  split
  ·exact .plain _ _ _ _ _ _ _ _ _ _ _ _ (Nh ht _) hi hdd hr
  ·exact .plain _ _ _ _ _ _ _ _ _ _ _ _ ht hi hdd hr
 | Lw=>cases hd
theorem Mp {ks:List (FuncId × List Nat)} {H H':AA} {g:List Nat} {l:List Ab} {l':List Frame} (h:DS X μ H g l l') (hd:(l.all fun f=>Cu f.todo)=true):DS X μ H' [] (l.map (Ke ks)) l':=by
 induction h with
 | nil=>exact .nil
 | cons hf _ ih=>
  simp only[List.all_cons,Bool.and_eq_true]at hd
  exact .cons (g:=[]) (gs:=[]) (Ya hf hd.1) (ih hd.2)
theorem PY {ks:List (FuncId × List Nat)} {bs:List Nat} {c:A5} {Φ:A5→Prop} (h1:Cu c.fr.todo=true) (h2:(c.cs.all fun f=>Cu f.todo)=true) (hr:BB X N (Gv ks bs c) Φ):BB X N c Φ:=by
 intro base W0 hb hok hplan cs0 μ fr cs W hm
 refine hr base W0 hb hok hplan cs0 μ fr cs W ?_
 obtain⟨hH,hlaid,g,gs,hfr,hcs,hnd⟩:=hm
 exact⟨OG bs hH,hlaid,[],[],N4 hfr h1,Mp hcs h2,by simp⟩
end
noncomputable def Stop.KD (X:Ctx) (ks:List (FuncId × List Nat)) (S:Stop) (c:A5):Option A5:=
 match Dm X c with
 | some c1=>bif Cu c1.fr.todo&&(c1.cs.all fun f=>Cu f.todo)then
  (bif Nat.ble S.N (Gv ks (S.ids c1) c1).H.next&&(S.ids (Gv ks (S.ids c1) c1)).all (fun b=>Nat.blt b (Gv ks (S.ids c1) c1).H.next)then
   ew S.N (S.MG++S.ids (Gv ks (S.ids c1) c1)) (S.ids (Gv ks (S.ids c1) c1)) S.live (Gv ks (S.ids c1) c1)else none)else none
 | none=>none
noncomputable def ZZ (X:Ctx) (pf:Pf) (f:FuncId) (ids:List Nat) (S:Stop) (ks:List (FuncId × List Nat)) (Q:Value→List (Option AJ)→Prop) (R:A5→Prop) (n:Nat):A5→Prop:=
 Nat.rec (motive:=fun _=>A5→Prop) (fun _=>False) (fun _ ih c=>match DR X f c with
  | some (v,H)=>Q v ((ids++Ac 4 v).map H.get)
  | none=>bif S.here c then(match S.KD X ks c with
   | some c2=>R c2
   | none=>False)
   else Fk X pf c ih) n
theorem GW {X:Ctx} {pf:Pf} (hpf:El X pf) {f:FuncId} {ids:List Nat} {S:Stop} {ks:List (FuncId × List Nat)} (hl:(X.laid.all fun p=>Nat.blt p.1 S.N)=true) {Q:Value→List (Option AJ)→Prop} {R:A5→Prop} {Q':Value→AA→Prop}
 (hQ:∀v H,Q v ((ids++Ac 4 v).map H.get)→Q' v H) (hR:∀c,R c→Ai X S.N f Q' c):∀(n:Nat) (c:A5),ZZ X pf f ids S ks Q R n c→Ai X S.N f Q' c:=by
 intro n
 induction n with
 | zero=>intro c h;cases h
 | succ n ih=>
  intro c h
  have h:(match DR X f c with
   | some (v,H)=>Q v ((ids++Ac 4 v).map H.get)
   | none=>bif S.here c then(match S.KD X ks c with
    | some c2=>R c2
    | none=>False)
    else Fk X pf c (ZZ X pf f ids S ks Q R n)):=h
  split at h
  ·rename_i v H e;exact BB.here ⟨v,H,e,hQ v H h⟩
  ·cases hs:S.here c
   ·simp only[hs,cond_false]at h
    exact BB.bind (Reach.GF (Ga hpf h)) fun c' hc=>ih c' hc
   ·simp only[hs,cond_true]at h
    split at h
    ·rename_i c2 hc
     unfold Stop.KD at hc
     split at hc
     ·rename_i c1 h1
      cases hd:(Cu c1.fr.todo&&(c1.cs.all fun f=>Cu f.todo))
      ·simp only[hd,cond_false]at hc;cases hc
      ·simp only[hd,cond_true]at hc
       simp only[Bool.and_eq_true]at hd
       cases hb:(Nat.ble S.N (Gv ks (S.ids c1) c1).H.next&&(S.ids (Gv ks (S.ids c1) c1)).all (fun b=>Nat.blt b (Gv ks (S.ids c1) c1).H.next))
       ·simp only[hb,cond_false]at hc;cases hc
       ·simp only[hb,cond_true]at hc
        simp only[Bool.and_eq_true]at hb
        have hr:=Oc (X:=X) hl (Nat.le_of_ble_eq_true hb.1) hb.2 hc (hR c2 h)
        exact BB.bind (Reach.GF ((NI.step h1).reach (Φ:=fun c'=>c'=c1) rfl)) fun c' e=>e ▸ PY hd.1 hd.2 hr
     ·cases hc
    ·cases h
end Go.AD

set_option maxRecDepth 1000000
namespace Go.AD
open Go.Proofs
noncomputable def De (b:Nat):Value:= .pointer (some ⟨b,0,none⟩)
noncomputable def fX (l:List (EK.C AT)) (i:Int) (x:Value) (H:AA→AA):A5:=
 ⟨⟨Av,HQ [(2,.func (.yield 12) ⟨[]⟩ ⟨[]⟩),(11,.slice (some ⟨10,0,some 0⟩) l.length AE),(12,.int .i64 l.length),(13,.int .i64 i)],25,[.code (BH Tryz.prog Av [1,0,0]),.inLoop (BH Tryz.prog Av [1,0,0]),.inBlock 0],[],false,.normal,none⟩,
  [⟨A6,HQ [],6,[Is (BH Tryz.prog A6 []) 2],[],false,.normal,none⟩,
   ⟨AR,HQ [(3,De 13)],34,[.inRangeFunc 12,.inBlock 0,.code (BH Tryz.prog AR [1,1,1,1])],[⟨.collected 11,⟨[]⟩⟩],false,.normal,none⟩],
  H ((((((BF ⟨.leaf,9⟩ [.cells [.bool true,.slice (some ⟨10,0,some 0⟩) l.length AE] 0 false]).alloc (.vec AT l false)).alloc (.deferred (some []))).alloc (.loop ⟨.ready,none,AR,HQ [(3,De 13)],34,#[19,20],BH Tryz.prog AR [1,1,1,0,1,0,0],BH Tryz.prog AR [1,1,1,0,1,0,1],11⟩)).alloc (.cells [De 14] 0 false)).alloc (.cells [.bool true,x] 0 false))⟩
noncomputable def fL (l:List (EK.C AT)):A5:=fX l 0 (.slice none 0 0) id
noncomputable def aX (l:List (EK.C AT)) (i:Int) (k v:ByteArray):A5:=fX l i (.slice (some ⟨15,0,none⟩) 1 18446744073709551617) fun H=>H.alloc (.cells [.string k,.string v] 2 false)
noncomputable def eO (l:List (EK.C AT)) (i:Int) (n:Nat) (m:List (EK.C AT)):A5:=fX l i (.slice (some ⟨15,0,some 0⟩) n AE) fun H=>H.alloc (.vec AT m false)
def cz:Stop:=⟨Av,2,2,11,[9,10],[2,11,12,13]⟩
def bm:List (FuncId × List Nat):=[(A6,[]),(AR,[3])]
theorem aw (l:List (EK.C AT)) (Q:Value→List (Option AJ)→Prop) (R:A5→Prop):ZZ X0 Cp AR [9,10] cz bm Q R 400 (st AR 34 [p9] (BF ⟨.leaf,9⟩ (J7 l)))=(
 (bif decide (0≤Int.ofNat (List.length l))&&Nat.ble (Int.toNat (Int.ofNat (List.length l))) (List.length l)&&decide (0≤0)&&Nat.ble 0 (Int.toNat (Int.ofNat (List.length l)))then(R (fL l))else False)):=by kernel_rfl
theorem bf (l:List (EK.C AT)) (Q:Value→List (Option AJ)→Prop) (R:A5→Prop):ZZ X0 Cp AR [9,10,14] cz bm Q R 400 (fL l)=(
 (bif decide (0 < ((List.length l):Int))then(bif decide (0≤0)&&Nat.blt 0 (List.length l)then(bif Nat.blt 0 (List.length l)then(((.pointer (some ⟨14,0,none⟩)):Value)=(.pointer (some ⟨14,0,none⟩)))∧(R (aX l 1 (Prod.fst (List.getD l 0 (EK.AU AT))) (Prod.snd (List.getD l 0 (EK.AU AT)))))else False)else False)else(Q (.pointer (some ⟨14,0,none⟩)) [some (.cells [(.bool true),(.slice (some ⟨10,0,(some 0)⟩) (List.length l) 18446744073709551616)] 0 false),some (.vec AT l false),some (.cells [(.bool true),(.slice none 0 0)] 0 false),some (.cells [(.bool true),(.slice none 0 0)] 0 false)]))):=by kernel_rfl
theorem Wl (l:List (EK.C AT)) (i:Int) (n:Nat) (m:List (EK.C AT)) (Q:Value→List (Option AJ)→Prop) (R:A5→Prop):ZZ X0 Cp AR [9,10,14,15] cz bm Q R 400 (eO l i n m)=(
 (bif decide (i < ((List.length l):Int))then(bif decide (0≤i)&&Nat.blt (Int.toNat i) (List.length l)then(bif Nat.blt (0+Int.toNat i) (List.length l)then(bif true&&Nat.ble (0+n) (List.length m)&&BV 32 (n+1)then(((.pointer (some ⟨14,0,none⟩)):Value)=(.pointer (some ⟨14,0,none⟩)))∧(R (eO l (IntKind.wrap .i64 (i+1)) (n+1) (List.take n (List.drop 0 m)++[(Prod.fst (List.getD l (0+Int.toNat i) (EK.AU AT)),Prod.snd (List.getD l (0+Int.toNat i) (EK.AU AT)))])))else False)else False)else False)else(Q (.pointer (some ⟨14,0,none⟩)) [some (.cells [(.bool true),(.slice (some ⟨10,0,(some 0)⟩) (List.length l) 18446744073709551616)] 0 false),some (.vec AT l false),some (.cells [(.bool true),(.slice (some ⟨15,0,(some 0)⟩) n 18446744073709551616)] 0 false),some (.vec AT m false),some (.cells [(.bool true),(.slice (some ⟨15,0,(some 0)⟩) n 18446744073709551616)] 0 false)]))):=by kernel_rfl
theorem cy (Q:Value→List (Option AJ)→Prop):FD X0 Cp AR [9] Q 400 (st AR 34 [p9] (BF ⟨.leaf,9⟩ Lp))=(
 (Q (.pointer (some ⟨10,0,none⟩)) [some (.cells [(.bool true),(.slice none 0 0)] 0 false),some (.cells [(.bool true),(.slice none 0 0)] 0 false)])):=by kernel_rfl
end Go.AD

namespace Go.AD
theorem MO {H:AA}:∀(todo:List Nat) (f:Nat) (seen:List Nat),todo.length≤f→(∀n∈todo,∃p,H.get n=some p∧EJ p=[])→∀x,x∈todo→x∈Ah H 0 f todo seen
 | [],_,_,_,_,x,hx=>by cases hx
 | n::r,0,_,hf,_,_,_=>by simp at hf
 | n::r,f+1,seen,hf,hp,x,hx=>by
  obtain⟨p,hg,hr⟩:=hp n (by simp)
  have ih:=fun seen'=>MO r f seen' (by simpa using hf) (fun m hm=>hp m (by simp[hm]))
  rw[Ah]
  cases hc:(Nat.blt n 0||seen.any (Nat.beq n))
  ·simp only[cond_false,hg,hr,List.nil_append]
   rcases List.mem_cons.1 hx with rfl | hx
   ·exact Bg H 0 _ _ _ x (by simp)
   ·exact ih _ x hx
  ·simp only[cond_true]
   rcases List.mem_cons.1 hx with rfl | hx
   ·have hs:seen.any (Nat.beq x)=true:=by
     have hz:Nat.blt x 0=false:=rfl
     rw[hz,Bool.false_or]at hc;exact hc
    obtain⟨y,hy,he⟩:=List.any_eq_true.1 hs
    rw[Nat.eq_of_beq_eq_true he]
    exact Bg H 0 _ _ _ y hy
   ·exact ih _ x hx
theorem Qg {D:Nat→Prop} {v:Value} {H H2:AA} {s:Pk} {b:Nat} {ns:List Nat} {o o1:AJ} {ps:List AJ} (hr:DU s (o::ps)) (hD:b∈Ac 4 v∨D b) (hl:ns.length=ps.length) (hnd:(b::ns).Nodup)
 (hg:H.get b=some o1) (hro:o1.ro=false) (hp:o1.Gs=true) (hren:BN (fun i=>(b::ns)[i]?) o=some o1) (href:∀n∈ns,n∈EJ o1) (hrefs:∀n∈EJ o1,n∈ns) (hlr:(EJ o1).length≤100)
 (hps:∀(i n:Nat) (p:AJ),ns[i]? = some n→ps[i]? = some p→∃p1,H.get n=some p1∧p1.ro=false∧p1.Gs=true∧EJ p1=[]∧BN (fun i=>(b::ns)[i]?) p=some p1)
 (k:B7 D v (C1 s (b::ns) H) H2)
 (hx0:D9 s=[]:=by rfl) (hroot:∀T,¬o.void T:=by intro _;exact id):B7 D v H H2:=by
 have hflat:∀n∈ns,∃p,H.get n=some p∧EJ p=[]:=by
  intro n hn
  obtain⟨i,hi,e⟩:=List.getElem_of_mem hn
  obtain⟨p1,h1,_,_,h4,_⟩:=hps i n _ (by rw[List.getElem?_eq_getElem hi,e]) (List.getElem?_eq_getElem (by omega))
  exact⟨p1,h1,h4⟩
 have hreach:∀x∈b::ns,x∈Ah H 0 200 [b] []:=by
  intro x hx
  rw[Az hg rfl,List.append_nil,List.nil_append]
  rcases List.mem_cons.1 hx with rfl | hx
  ·exact Bg H 0 _ _ _ x (by simp)
  ·exact MO _ _ _ (by omega) (fun n hn=>hflat n (hrefs n hn)) x (href x hx)
 refine .step s (o::ps) (b::ns) [b] hr (by simp) (by simp[hl]) hnd (fun x hx=>by simp at hx;rw[hx];exact hD) hreach (fun i x q hx hq=>?_) (fun q T hq=>by cases hq;exact hroot T) k
 cases i with
 | zero=>cases hx;cases hq;exact⟨o1,hg,hro,hp,by rw[hx0,E4];exact hren⟩
 | succ i=>
  obtain⟨p1,h1,h2,h3,_,h5⟩:=hps i x q hx hq
  exact⟨p1,h1,h2,h3,by rw[hx0,E4];exact h5⟩
noncomputable def Dp (H:AA):List AJ→AA
 | []=>H
 | o::r=>Dp (H.alloc o) r
theorem Ht:∀(l:List AJ) (H:AA),(Dp H l).next=H.next+l.length
 | [],_=>rfl
 | o::r,H=>by rw[Dp,Ht r];show H.next+1+r.length=_;simp;omega
theorem Ft:∀(l:List AJ) (H:AA) (x:Nat),(Dp H l).get x=if H.next≤x then(match l[x - H.next]? with | some o=>some o | none=>H.get x)else H.get x
 | [],H,x=>by simp[Dp]
 | o::r,H,x=>by
  rw[Dp,Ft r]
  show(if H.next+1≤x then _ else _)=_
  by_cases h1:H.next+1≤x
  ·rw[if_pos h1,if_pos (by omega)]
   show(match r[x - (H.next+1)]? with | some o=>some o | none=>(H.alloc o).get x)=_
   have e:x - H.next=(x - (H.next+1))+1:=by omega
   rw[e,List.getElem?_cons_succ]
   have e2:(H.alloc o).get x=H.get x:=by rw[AA.AQ,if_neg (by omega)]
   rw[e2]
  ·rw[if_neg h1,AA.AQ]
   by_cases h2:x=H.next
   ·subst h2;simp
   ·rw[if_neg h2,if_neg (by omega)]
theorem J6 {H:AA} {b:Nat} {ro:Bool} {o o1:AJ} {ps ps1:List AJ} (hlt:b < H.next) (hf:∀x,H.next≤x→H.get x=none) (hl:ps1.length=ps.length) (h0:BN (D1 b H.next (ps.length+1)) (K5 ro o)=some o1)
 (hps:∀(i:Nat) (p:AJ),ps[i]? = some p→∃p1,ps1[i]? = some p1∧BN (D1 b H.next (ps.length+1)) (K5 ro p)=some p1):I6 H b ro (o::ps) (Dp (H.put b o1) ps1):=by
 have hnx:(H.put b o1).next=H.next:=rfl
 refine⟨by rw[Ht,hnx,hl];simp,fun x hx D5=>?_,fun x hx=>?_,fun i p hp=>?_⟩
 ·rw[Ft,hnx,if_neg (by omega),AA.AN,if_neg hx]
 ·rw[Ht,hnx]at hx
  rw[Ft,hnx,if_pos (by omega),List.getElem?_eq_none (by omega)]
  show(H.put b o1).get x=none
  rw[AA.AN,if_neg (by omega)];exact hf x (by omega)
 ·cases i with
  | zero=>
   cases hp
   refine⟨o1,h0,?_⟩
   show(Dp (H.put b o1) ps1).get b=_
   rw[Ft,hnx,if_neg (by omega),AA.AN,if_pos rfl]
  | succ i=>
   obtain⟨p1,h1,h2⟩:=hps i p hp
   refine⟨p1,h2,?_⟩
   have e:CH b H.next (i+1)=H.next+i:=by unfold CH;rw[if_neg (by omega)];rfl
   rw[e,Ft,hnx,if_pos (by omega),show H.next+i - H.next=i by omega,h1]
end Go.AD

namespace Go.AD
theorem FW {μ ν:Ad} {a a1:Value} (hle:μ.le ν) (h:∀v',AH μ a v'→AH ν a1 v') {post:List Value}:∀(pre l':List Value),A2 μ (pre++a::post) l'→A2 ν (pre++a1::post) l'
 | [],_,hl=>by cases hl with | cons h1 h2=>exact .cons (h _ h1) (h2.mono hle)
 | p::pre,_,hl=>by cases hl with | cons h1 h2=>exact .cons (h1.mono hle) (FW hle h pre _ h2)
section
variable {base:Env} {W0 W:World} {μ:Ad} {H:AA}
theorem AP.Zf (h:AP base W0 μ H W) {b n len e:Nat} {k:EK} {l:List (EK.C k)} {ro ro2:Bool} {pre post:List Value}
 (hb:H.get b=some (.cells (pre++ .slice (some ⟨n,0,none⟩) len (AE+len)::post) e ro)) (hn:H.get n=some (.vec k l ro2)) (hk0:k.length≠0:=by decide):
 AP base W0 μ (H.put b (.cells (pre++ .slice (some ⟨n,0,some 0⟩) len AE::post) e ro)) W:=by
 refine h.swap hb (fun T o' _ ho=>?_) rfl rfl rfl (fun _ _ hv=>hv)
 cases ho with
 | cells _ _ _ c t lo hi he hc hr hf=>
  refine .cells T _ e ro c t lo hi he ?_ hr hf
  have hc2:=FW (a1:= .slice (some ⟨n,0,some 0⟩) len AE) (Ad.le_refl _) (fun v' hv=>L3 (j:=0) hk0 (Nat.le_refl _) (fun T hT=>h.elem hn hT) (by rw[Nat.zero_mul];exact HU hv)) pre _ hc
  have e1:(pre++Value.slice (some ⟨n,0,none⟩) len (AE+len)::post).length=(pre++Value.slice (some ⟨n,0,some 0⟩) len AE::post).length:=by simp
  rw[←e1];exact hc2
def AA.SQ (H:AA) (n:Nat):AA:=⟨H.m,max H.next n⟩
theorem AP.SQ (h:AP base W0 μ H W) (n:Nat):AP base W0 μ (H.SQ n) W:=
 ⟨h.obj,h.own,h.inj,fun b hb=>h.fresh b (Nat.le_trans (Nat.le_max_left _ _) hb),h.bound,h.size,h.below,h.out,h.os,(let ⟨φ,a⟩:=h.abs;⟨φ,a.rep,a.D2⟩),h.le,h.grow⟩
noncomputable def AA.CO (H:AA) (k:EK):AA:=(H.SQ 100).alloc (.vec k [] false)
def AA.Bu (H:AA):Nat:=max H.next 100
theorem AA.D7 (H:AA):100≤H.Bu:=Nat.le_max_right _ _
theorem AA.CM (H:AA) (k:EK) (i:Nat):(H.CO k).get i=if i=H.Bu then some (.vec k [] false)else H.get i:=AA.AQ _ _ _
def KA (μ:Ad) (x:Value):Prop:=∀v',AH μ x v'→∃a:Option (Nat × Nat),v'= .slice (a.map fun p=>⟨p.1,p.2,none⟩) 0 0
theorem Fq:KA μ (.slice none 0 0):=fun v' hv=>by cases hv;exact⟨none,rfl⟩
theorem QK {b o:Nat}:KA μ (.slice (some ⟨b,o,none⟩) 0 0):=fun v' hv=>by
 cases hv with
 | slice _ _ _ _ cap' o' T hm hc ho=>
  have:cap'=0:=by
   rcases hc with⟨_,hc⟩ | ⟨hc,_⟩
   ·exact hc
   ·have h0:0 < AE:=by unfold AE;decide
    omega
  subst this
  exact⟨some (T.c,o'),rfl⟩
theorem AP.Lv (h:AP base W0 μ H W) {b e c:Nat} {k:EK} {ro:Bool} {x:Value} {pre post:List Value} (hc:∃T,μ c=some T) (hx:∀ν:Ad,KA ν x)
 (hb:H.get b=some (.cells (pre++x::post) e ro)) (hb2:b < 100) (hk0:k.length≠0:=by decide):
 ∃μ2,μ.le μ2∧AP base W0 μ2 ((H.CO k).put b (.cells (pre++ .slice (some ⟨H.Bu,0,some 0⟩) 0 AE::post) e ro)) W:=by
 obtain⟨T,hT⟩:=hc
 obtain⟨h1,h2⟩:=(h.SQ 100).CO hT hk0 false
 refine⟨_,h2.le,?_⟩
 have hb3:(H.CO k).get b=some (.cells (pre++x::post) e ro):=by
  rw[AA.CM,if_neg (by have:=H.D7;omega)];exact hb
 have hs:AP base W0 _ (H.CO k) W:=h1
 refine hs.swap hb3 (fun T' o' _ ho=>?_) rfl rfl rfl (fun _ _ hv=>hv)
 cases ho with
 | cells _ _ _ c t lo hi he hc hr hf=>
  refine .cells T' _ e ro c t lo hi he ?_ hr hf
  have hc2:=FW (a1:= .slice (some ⟨H.Bu,0,some 0⟩) 0 AE) (Ad.le_refl _) (fun v' hv=>by
   obtain⟨a,rfl⟩:=hx _ v' hv
   exact .Cr _ 0 AE _ a (Ad.Ak _ _ _) (.inr ⟨Nat.le_refl _,Nat.sub_self _⟩)) pre _ hc
  have e1:(pre++x::post).length=(pre++Value.slice (some ⟨H.Bu,0,some 0⟩) 0 AE::post).length:=by simp
  rw[←e1];exact hc2
theorem AP.WN (h:AP base W0 μ H W) {c:Nat} {k:EK} (hc:∃T,μ c=some T) (hk0:k.length≠0:=by decide):
 ∃μ2,μ.le μ2∧AP base W0 μ2 (H.CO k) W∧AH μ2 (.slice (some ⟨H.Bu,0,some 0⟩) 0 AE) (.slice none 0 0):=by
 obtain⟨T,hT⟩:=hc
 obtain⟨h1,h2⟩:=(h.SQ 100).CO hT hk0 false
 exact⟨_,h2.le,h1,.Cr _ 0 AE _ none (Ad.Ak _ _ _) (.inr ⟨Nat.le_refl _,Nat.sub_self _⟩)⟩
end
end Go.AD

set_option maxRecDepth 1000000
namespace Go.AD
open Go.Proofs
theorem BB.bA {X:Ctx} {N:Nat} {Φ:A5→Prop} {c:A5} {H':AA} (hd:Cu c.fr.todo=true) (hds:(c.cs.all fun f=>Cu f.todo)=true) (hn:∀(base:Env) (W0:World) (μ:Ad) (W:World),AP base W0 μ c.H W→AP base W0 μ H' W)
 (hr:BB X N ⟨c.fr,c.cs,H'⟩ Φ):BB X N c Φ:=by
 intro base W0 hb hok hplan cs0 μ fr cs W hm
 obtain⟨hH,hlaid,g,gs,hfr,hcs,hnd⟩:=hm
 have hcs2:=Mp (ks:=[]) (H':=H') hcs hds
 have e:c.cs.map (Ke [])=c.cs:=by
  refine(List.map_congr_left fun f _=>?_).trans (List.map_id _)
  cases f;rfl
 rw[e]at hcs2
 exact hr base W0 hb hok hplan cs0 μ fr cs W ⟨hn base W0 μ W hH,hlaid,[],[],N4 hfr hd,hcs2,by simp⟩
end Go.AD

set_option maxRecDepth 1000000
namespace Go.AD
open Go.Proofs
def Nf (l:List (EK.C AT)) (v:Value) (H:AA):Prop:=
 v=De 14∧H.get 9=some (CS 10 l.length)∧H.get 10=some (.vec AT l false)∧
  ((l=[]∧H.get 14=some (.cells [.bool true,.slice none 0 0] 0 false))∨(H.get 14=some (CS 15 l.length)∧H.get 15=some (.vec AT l false)))
theorem YV {l:List (EK.C AT)} (hn:l.length < 1000000):∀(m i:Nat),l.length - i=m→i≤l.length→Ai X0 11 AR (Nf l) (eO l i i (l.take i)):=by
 intro m
 induction m with
 | zero=>
  intro i hm hi
  have he:i=l.length:=by omega
  subst he
  refine GW (Ax X0) (ids:=[9,10,14,15]) (S:=cz) (ks:=bm) (by kernel_rfl) (Q:=fun v os=>v=De 14∧∃o5,os=[some (CS 10 l.length),some (.vec AT l false),some (CS 15 l.length),some (.vec AT l false),o5]) (R:=fun _=>False) (fun v H h=>?_) (fun c h=>h.elim) 400 _ ?_
  ·obtain⟨rfl,o5,h⟩:=h
   have h:[H.get 9,H.get 10,H.get 14,H.get 15,H.get 14]=_:=h
   simp only[List.cons.injEq,and_true]at h
   exact⟨rfl,h.1,h.2.1,.inr ⟨h.2.2.1,h.2.2.2.1⟩⟩
  ·rw[Wl,List.take_length]
   refine AY (fun h=>absurd h (by omega)) (fun _=>⟨rfl,_,by unfold CS AE;rfl⟩)
 | succ m ih=>
  intro i hm hi
  have hlt:i < l.length:=by omega
  refine GW (Ax X0) (ids:=[9,10,14,15]) (S:=cz) (ks:=bm) (by kernel_rfl) (Q:=fun _ _=>False) (R:=fun c=>c=eO l (i+1:Nat) (i+1) (l.take (i+1))) (fun v H h=>h.elim) (fun c h=>by rw[h];exact ih (i+1) (by omega) (by omega)) 400 _ ?_
  rw[Wl]
  refine AY (fun h=>?_) (fun h=>absurd (show(i:Int) < (l.length:Int) by omega) h)
  refine AF (ca hlt) (AF (cb hlt) (AF ?_ ⟨rfl,?_⟩))
  ·rw[No (by omega)]
   have:Nat.ble (0+i) (List.take i l).length=true:=Nat.ble_eq_true_of_le (by rw[List.length_take];omega)
   rw[this];rfl
  ·have e1:IntKind.wrap .i64 ((i:Int)+1)=((i+1:Nat):Int):=by rw[wrap64 (by omega) (by omega)];rfl
   have e2:List.take i (List.drop 0 (List.take i l))++[((l.getD (0+Int.toNat (i:Int)) (EK.AU AT)).1,(l.getD (0+Int.toNat (i:Int)) (EK.AU AT)).2)]=l.take (i+1):=by
    rw[List.drop_zero,List.take_take,Nat.min_self,Nat.zero_add,Int.toNat_natCast,List.take_succ_eq_append_getElem hlt,List.getD_eq_getElem?_getD,List.getElem?_eq_getElem hlt];rfl
   rw[e1,e2]
theorem Qr {l:List (EK.C AT)} (hn:l.length < 1000000):Ai X0 11 AR (Nf l) (st AR 34 [p9] (BF ⟨.leaf,9⟩ (J7 l))):=by
 refine GW (Ax X0) (ids:=[9,10]) (S:=cz) (ks:=bm) (by kernel_rfl) (Q:=fun _ _=>False) (R:=fun c=>c=fL l) (fun v H h=>h.elim) (fun c h=>?_) 400 _ ?_
 ·rw[h]
  refine GW (Ax X0) (ids:=[9,10,14]) (S:=cz) (ks:=bm) (by kernel_rfl) (Q:=fun v os=>l=[]∧v=De 14∧∃o4,os=[some (CS 10 l.length),some (.vec AT l false),some (.cells [.bool true,.slice none 0 0] 0 false),o4])
   (R:=fun c=>∃k v,l.take 1=[(k,v)]∧c=aX l 1 k v) (fun v H h=>?_) (fun c h=>?_) 400 _ ?_
  ·obtain⟨e,rfl,o4,h⟩:=h
   have h:[H.get 9,H.get 10,H.get 14,H.get 14]=_:=h
   simp only[List.cons.injEq,and_true]at h
   exact⟨rfl,h.1,h.2.1,.inl ⟨e,h.2.2.1⟩⟩
  ·obtain⟨k,v,e,rfl⟩:=h
   have h1:1≤l.length:=by
    rcases Nat.eq_zero_or_pos l.length with h | h
    ·rw[List.length_eq_zero_iff.1 h]at e;cases e
    ·exact h
   have hl:=YV hn (l.length - 1) 1 rfl h1
   rw[e]at hl
   refine BB.bA (H':=((aX l 1 k v).H.put 15 (.vec AT [(k,v)] false)).put 14 (.cells ([.bool true]++ .slice (some ⟨15,0,some 0⟩) 1 AE::[]) 0 false)) (by rfl) (by rfl) (fun base W0 μ W hH=>?_) ?_
   ·have g1:(aX l 1 k v).H.get 15=some (.cells (A3 AT [(k,v)]) AT.length false):=by kernel_rfl
    have g3:(aX l 1 k v).H.get 14=some (.cells [.bool true,.slice (some ⟨15,0,none⟩) 1 18446744073709551617] 0 false):=by kernel_rfl
    have g2:=hH.NB g1
    refine g2.Zf (n:=15) (len:=1) (pre:=[.bool true]) (post:=[]) (l:=[(k,v)]) (ro2:=false) ?_ (by rw[AA.AN,if_pos rfl])
    rw[AA.AN,if_neg (by decide),g3]
    unfold AE;rfl
   ·have e3:(⟨(aX l 1 k v).fr,(aX l 1 k v).cs,((aX l 1 k v).H.put 15 (.vec AT [(k,v)] false)).put 14 (.cells ([.bool true]++ .slice (some ⟨15,0,some 0⟩) 1 AE::[]) 0 false)⟩:A5)=eO l 1 1 [(k,v)]:=by kernel_rfl
    rw[e3];exact hl
  ·rw[bf]
   refine AY (fun h=>?_) (fun h=>?_)
   ·have hp:0 < l.length:=by omega
    have hb:Nat.blt 0 l.length=true:=Nat.ble_eq_true_of_le hp
    refine AF (by rw[hb];rfl) (AF hb ⟨rfl,_,_,?_,rfl⟩)
    cases l with
    | nil=>cases hp
    | cons x l=>rfl
   ·have h0:l=[]:=List.length_eq_zero_iff.1 (by omega)
    exact⟨h0,rfl,_,by unfold CS AE;rfl⟩
 ·rw[aw]
  exact AF (by simp) rfl
end Go.AD

namespace Go.AD
theorem N5 {μ:Ad} {b o m cap:Nat} {s:Option Nat} {v':Value} (h:AH μ (.slice (some ⟨b,o,s⟩) m cap) v'):∃T,μ b=some T:=by
 cases h with
 | slice _ _ _ _ _ _ T h _ _=>exact⟨T,h⟩
 | Bk _ _ _ _ _ _ T h _ _ _=>exact⟨T,h⟩
 | Cr _ _ _ T _ h _=>exact⟨T,h⟩
 | CU _ _ _ _ _ _ T _ h _ _ _ _=>exact⟨T,h⟩
 | ED _ _ _ T _ h _=>exact⟨T,h⟩
theorem S5 {μ:Ad} {b o:Nat} {s:Option Nat} {v':Value} (h:AH μ (.pointer (some ⟨b,o,s⟩)) v'):∃T,μ b=some T:=by
 cases h with
 | ptr _ _ T h=>exact⟨T,h⟩
 | GX _ _ _ T h=>exact⟨T,h⟩
theorem BB.bO {X:Ctx} {N:Nat} {Φ:A5→Prop} {fn:FuncId} {t:Tr Value} {n:Nat} {todo:List CI} {ds:List Deferred} {r:Bool} {kd:CallKind} {rd:Option Nat} {cs:List Ab} {H:AA} (i j:Nat) (k:EK) {b o m cap:Nat} {s:Option Nat}
 (hd:Cu todo=true) (hi:look t i= .slice none 0 0) (hj:look t j= .slice (some ⟨b,o,s⟩) m cap) (hk:k.length≠0)
 (hr:BB X N ⟨⟨fn,t.put i (some (.slice (some ⟨H.next,0,some 0⟩) 0 AE)),n,todo,ds,r,kd,rd⟩,cs,H.alloc (.vec k [] false)⟩ Φ):BB X N ⟨⟨fn,t,n,todo,ds,r,kd,rd⟩,cs,H⟩ Φ:=by
 intro base W0 hb hok hplan cs0 μ fr cs' W hm
 obtain⟨hH,hlaid,g,gs,hfr,hcs,hnd⟩:=hm
 cases hfr with
 | plain fn t n tm todo todo' ds ds' r kd rd rd' ht hi2 hd2 hr2=>
  have hj2:=ht.2 j
  rw[hj]at hj2
  obtain⟨T,hT⟩:=N5 hj2
  obtain⟨h1,h2⟩:=hH.CO hT hk false
  refine hr base W0 hb hok hplan cs0 _ _ cs' W ⟨h1,hlaid.mono h2.le,[],gs,.plain fn _ n tm todo todo' ds ds' r kd rd rd' ⟨ht.1,fun u=>?_⟩ (hi2.mono h2.le) (hd2.mono h2.le) (hr2.mono h2.le),hcs.mono (h2.keeps _),by simpa using hnd⟩
  by_cases hu:u=i
  ·subst hu
   have hi3:=ht.2 u
   rw[hi]at hi3
   rw[DJ]
   generalize tm.getD u Go.undef=w at hi3
   cases hi3
   exact .Cr _ 0 AE _ none (Ad.Ak _ _ _) (.inr ⟨Nat.le_refl _,Nat.sub_self _⟩)
  ·rw[DY _ _ hu]
   exact(ht.2 u).mono h2.le
 | drawn fn t n tm ops Bj idx D G k k' ds ds' kd rd rd' hD hk2 hd2 hr2=>cases hd
end Go.AD

namespace Go.AD
theorem BB.Ur {X:Ctx} {N:Nat} {Φ:A5→Prop} {fn:FuncId} {t:Tr Value} {n:Nat} {todo:List CI} {ds:List Deferred} {r:Bool} {kd:CallKind} {rd:Option Nat} {cs:List Ab} {H:AA} (b j:Nat) (k:EK) (pre post:List Value) {e:Nat} {ro:Bool}
 (hd:Cu todo=true) (hds:(cs.all fun f=>Cu f.todo)=true) (hj:∀(ν:Ad) v',AH ν (look t j) v'→∃c T,ν c=some T) (hb:H.get b=some (.cells (pre++ .slice none 0 0::post) e ro)) (hk:k.length≠0)
 (hr:BB X N ⟨⟨fn,t,n,todo,ds,r,kd,rd⟩,cs,(H.alloc (.vec k [] false)).put b (.cells (pre++ .slice (some ⟨H.next,0,some 0⟩) 0 AE::post) e ro)⟩ Φ):BB X N ⟨⟨fn,t,n,todo,ds,r,kd,rd⟩,cs,H⟩ Φ:=by
 intro base W0 hb0 hok hplan cs0 μ fr cs' W hm
 obtain⟨hH,hlaid,g,gs,hfr,hcs,hnd⟩:=hm
 cases hfr with
 | plain fn t n tm todo todo' ds ds' r kd rd rd' ht hi2 hd2 hr2=>
  have hj2:=ht.2 j
  obtain⟨_,T,hT⟩:=hj _ _ hj2
  obtain⟨h1,h2⟩:=hH.CO hT hk false
  have hlt:b < H.next:=hH.lt hb
  have hb3:(H.alloc (.vec k [] false)).get b=some (.cells (pre++ .slice none 0 0::post) e ro):=by
   rw[AA.AQ,if_neg (by omega)];exact hb
  have h3:=h1.swap (o1:= .cells (pre++ .slice (some ⟨H.next,0,some 0⟩) 0 AE::post) e ro) hb3 (fun T' o' _ ho=>by
   cases ho with
   | cells _ _ _ c t lo hi he hc hr hf=>
    refine .cells T' _ e ro c t lo hi he ?_ hr hf
    have hc2:=FW (a1:= .slice (some ⟨H.next,0,some 0⟩) 0 AE) (Ad.le_refl _) (fun v' hv=>by
     cases hv
     exact .Cr _ 0 AE _ none (Ad.Ak _ _ _) (.inr ⟨Nat.le_refl _,Nat.sub_self _⟩)) pre _ hc
    have e1:(pre++Value.slice none 0 0::post).length=(pre++Value.slice (some ⟨H.next,0,some 0⟩) 0 AE::post).length:=by simp
    rw[←e1];exact hc2) rfl rfl rfl (fun _ _ hv=>hv)
  have hcs2:=Mp (ks:=[]) (H':=(H.alloc (.vec k [] false)).put b (.cells (pre++ .slice (some ⟨H.next,0,some 0⟩) 0 AE::post) e ro)) (hcs.mono (h2.keeps _)) hds
  have e:cs.map (Ke [])=cs:=by
   refine(List.map_congr_left fun f _=>?_).trans (List.map_id _)
   cases f;rfl
  rw[e]at hcs2
  exact hr base W0 hb0 hok hplan cs0 _ _ cs' W ⟨h3,hlaid.mono h2.le,[],[],.plain fn t n tm todo todo' ds ds' r kd rd rd' (ht.mono h2.le) (hi2.mono h2.le) (hd2.mono h2.le) (hr2.mono h2.le),hcs2,by simp⟩
 | drawn fn t n tm ops Bj idx D G k k' ds ds' kd rd rd' hD hk2 hd2 hr2=>cases hd
theorem BB.Pd {X:Ctx} {N:Nat} {Φ:A5→Prop} {fn:FuncId} {t:Tr Value} {n:Nat} {todo:List CI} {ds:List Deferred} {r:Bool} {kd:CallKind} {rd:Option Nat} {cs:List Ab} {H:AA} (b j:Nat) (k:EK) (pre post:List Value) {e:Nat} {ro:Bool} {b' o m cap:Nat} {s:Option Nat}
 (hd:Cu todo=true) (hds:(cs.all fun f=>Cu f.todo)=true) (hj:look t j= .slice (some ⟨b',o,s⟩) m cap) (hb:H.get b=some (.cells (pre++ .slice none 0 0::post) e ro)) (hk:k.length≠0)
 (hr:BB X N ⟨⟨fn,t,n,todo,ds,r,kd,rd⟩,cs,(H.alloc (.vec k [] false)).put b (.cells (pre++ .slice (some ⟨H.next,0,some 0⟩) 0 AE::post) e ro)⟩ Φ):BB X N ⟨⟨fn,t,n,todo,ds,r,kd,rd⟩,cs,H⟩ Φ:=
 Ur b j k pre post hd hds (fun _ _ h=>by rw[hj]at h;obtain⟨T,hT⟩:=N5 h;exact⟨_,T,hT⟩) hb hk hr
section
variable {X:Ctx} {N:Nat} {D:Nat→Prop} {f:FuncId} {Q Q':Value→AA→Prop}
theorem At.Zd {c:A5} {b:Nat} {rs:List Nat} {s:Pk} {ro:Bool} (hD:∀x∈rs,D x) (hreach:b∈Ah c.H 0 200 rs []) (hb:c.H.get b=some (.abs (.pack s) ro)) (hp:∀ops p k,c.fr.todo≠ .DZ ops p::k)
 (h:∀objs,DU s objs→∃H',I6 c.H b ro objs H' (D9 s)∧At X N D f Q ⟨c.fr,c.cs,H'⟩):At X N D f Q c:=by
 intro base W0 hb0 hDm hok hplan cs0 μ fr cs W hm
 obtain⟨hH,hlaid,g,gs,hfr,hcs,hnd⟩:=hm
 have hr2:=FY hH (N:=0) 200 rs [] (fun b hb=>by
  obtain⟨T,hT⟩:=hDm b (hD b hb)
  exact⟨T,hH.le b T hT⟩) ⟨List.nodup_nil,fun b hb=>by cases hb⟩
 obtain⟨T,hT⟩:=(hr2.2 b hreach).2
 obtain⟨objs,hr,ho⟩:=hH.opened hb hT
 obtain⟨H',hO,hrun⟩:=h objs hr
 obtain⟨μ',hH',hE⟩:=ho H' hO
 refine hrun base W0 hb0 hDm hok hplan cs0 μ' fr cs W ⟨hH',hlaid.mono hE.le,g,gs,?_,hcs.mono (hE.keeps _),hnd⟩
 obtain⟨f0,cs1,H1⟩:=c
 cases hfr with
 | plain fn t n tm todo todo' ds ds' r kd rd rd' ht hi hd hr=>exact .plain fn t n tm todo todo' ds ds' r kd rd rd' (ht.mono hE.le) (hi.mono hE.le) (hd.mono hE.le) (hr.mono hE.le)
 | drawn fn t n tm ops Bj idx D G k k' ds ds' kd rd rd' hD hk hd hr=>exact absurd rfl (hp ops Bj k)
end
theorem bT {D:Nat→Prop} {v:Value} {H H2:AA} {s:Pk} {b:Nat} {rs:List Nat} {o o1:AJ} (hr:DU s [o]) (hD:∀b∈rs,b∈Ac 4 v∨D b) (hb:b∈Ah H 0 200 rs []) (hg:H.get b=some o1) (hro:o1.ro=false) (hp:o1.Gs=true) (hren:BN (fun i=>[b][i]?) o=some o1)
 (k:B7 D v (C1 s [b] H) H2)
 (hx0:D9 s=[]:=by rfl) (hroot:∀T,¬o.void T:=by intro _;exact id):B7 D v H H2:=by
 refine .step s [o] [b] rs hr (by simp) rfl (by simp) hD (fun x hx=>by simp at hx;rw[hx];exact hb) (fun i x q hx hq=>?_) (fun q T hq=>by cases hq;exact hroot T) k
 cases i with
 | zero=>cases hx;cases hq;exact⟨o1,hg,hro,hp,by rw[hx0,E4];exact hren⟩
 | succ i=>cases i<;>cases hx
theorem Ol {D:Nat→Prop} {v:Value} {H H2:AA} {s:Pk} {b n:Nat} {rs:List Nat} {o o1 p p1:AJ} (hr:DU s [o,p]) (hD:∀b∈rs,b∈Ac 4 v∨D b) (hb:b∈Ah H 0 200 rs []) (hn:n∈Ah H 0 200 rs []) (hne:n≠b) (hg:H.get b=some o1) (hro:o1.ro=false) (hp:o1.Gs=true) (hren:BN (fun i=>[b,n][i]?) o=some o1)
 (hg2:H.get n=some p1) (hro2:p1.ro=false) (hp2:p1.Gs=true) (hren2:BN (fun i=>[b,n][i]?) p=some p1) (k:B7 D v (C1 s [b,n] H) H2)
 (hx0:D9 s=[]:=by rfl) (hroot:∀T,¬o.void T:=by intro _;exact id):B7 D v H H2:=by
 refine .step s [o,p] [b,n] rs hr (by simp) rfl (by simp[Ne.symm hne]) hD (fun x hx=>?_) (fun i x q hx hq=>?_) (fun q T hq=>by cases hq;exact hroot T) k
 ·simp at hx
  rcases hx with rfl | rfl
  ·exact hb
  ·exact hn
 ·cases i with
  | zero=>cases hx;cases hq;exact⟨o1,hg,hro,hp,by rw[hx0,E4];exact hren⟩
  | succ i=>cases i with
   | zero=>cases hx;cases hq;exact⟨p1,hg2,hro2,hp2,by rw[hx0,E4];exact hren2⟩
   | succ i=>cases i<;>cases hx
theorem AP.Pu {base:Env} {W0 W:World} {μ:Ad} {H:AA} (h:AP base W0 μ H W) {b n len cap e:Nat} {k:EK} {l:List (EK.C k)} {ro ro2:Bool} {pre post:List Value}
 (hb:H.get b=some (.cells (pre++ .slice (some ⟨n,0,none⟩) len cap::post) e ro)) (hn:H.get n=some (.vec k l ro2)) (h0:0 < cap) (hl:len≤cap) (hlen:cap≤l.length) (hcap:cap≤9223372036854775807) (hk0:0 < k.length:=by decide):
 AP base W0 μ (H.put b (.cells (pre++ .slice (some ⟨n,0,some 0⟩) len AE::post) e ro)) W:=by
 refine h.swap hb (fun T o' _ ho=>?_) rfl rfl rfl (fun _ _ hv=>hv)
 cases ho with
 | cells _ _ _ c t lo hi he hc hr hf=>
  refine .cells T _ e ro c t lo hi he ?_ hr hf
  have hc2:=FW (a1:= .slice (some ⟨n,0,some 0⟩) len AE) (Ad.le_refl _) (fun v' hv=>by
   cases hv with
   | slice _ _ _ _ cap' o' T' hm hcr ho=>
    have hcu:cap < AE:=by unfold AE;omega
    have hcap':cap'=cap:=by
     rcases hcr with⟨_,h2⟩ | ⟨h2,_⟩
     ·exact h2
     ·omega
    subst hcap'
    have hel:=h.elem hn hm
    obtain⟨q,hq,hor⟩:=h.obj n _ hn T' hm
    have hrow:l.length * k.length≤T'.r:=by
     cases hor with
     | vec _ _ _ _ hcs=>cases hcs with
      | cells _ _ _ c2 t2 lo2 hi2 he2 hc2 hr2 hf2=>
       have:=hc2.length
       have e2:c2.toList.length=T'.d+T'.r:=by rw[Array.length_toList];exact hr2
       have e3:(A3 k l).length=l.length * k.length:=CE _ _
       rw[List.length_take,List.length_drop,e2,e3]at this
       omega
     | EG _ _ _ _ _ _=>simp at hlen;omega
    have hmul:cap' * k.length≤T'.r:=Nat.le_trans (Nat.mul_le_mul_right _ hlen) hrow
    have hpos:0 < cap' * k.length:=Nat.mul_pos h0 hk0
    refine .Bk n 0 len AE cap' o' T' hm (.inr ⟨Nat.le_refl _,by omega,hl,by rw[hel];omega,.inr hcap⟩) ?_ (by omega)
    rcases ho with ho | ho
    ·exact .inl (by omega)
    ·exact .inr ho) pre _ hc
  have e1:(pre++Value.slice (some ⟨n,0,none⟩) len cap::post).length=(pre++Value.slice (some ⟨n,0,some 0⟩) len AE::post).length:=by simp
  rw[←e1];exact hc2
theorem Ai.lower {X:Ctx} {N N':Nat} {f:FuncId} {Q:Value→AA→Prop} {c:A5} (hle:N≤N') (h:Ai X N' f Q c):Ai X N f Q c:=
 fun base W0 hb=>h base W0 fun b T e=>Nat.lt_of_lt_of_le (hb b T e) hle
end Go.AD

set_option maxRecDepth 1000000
namespace Go.AD
open Go.Proofs
noncomputable def PI (args:List Value) (objs:List AJ):GT:=
 match args,objs with
 | [.pointer (some ⟨9,0,none⟩)],[.abs (.pack (.table l)) _]=> .ask (l.length < 1000000) (.ret ⟨.pointer (some ⟨10,0,none⟩),[some (.abs (.pack (.table l)) false)],[.abs (.pack (.table l)) false]⟩)
 | _,_=> .fail
theorem Yp {b:Nat} {l:List (EK.C AT)} {H:AA} (hb:10≤b) (h9:H.get 9=some (.abs (.pack (.table l)) false)) (h:H.get b=some (.abs (.pack (.table l)) false)):
 Ck AM 9 1 [true] ⟨.pointer (some ⟨10,0,none⟩),[some (.abs (.pack (.table l)) false)],[.abs (.pack (.table l)) false]⟩ (De b) H:=by
 refine⟨[b],by simp,fun c hc=>by simp at hc;omega,rfl,rfl,fun j c p hj hp=>?_,fun j o hj hm ho=>?_⟩
 ·cases j with
  | zero=>cases hj;cases hp;exact⟨_,rfl,h⟩
  | succ j=>cases j<;>cases hj
 ·cases j with
  | zero=>cases ho;exact⟨_,rfl,h9⟩
  | succ j=>omega
theorem Nl {l:List (EK.C AT)} (hn:l.length < 1000000):At X0 10 (fun b=>9≤b∧b < 10) AR (fun v H=>∃b,10≤b∧v=De b∧H.get 9=some (.abs (.pack (.table l)) false)∧H.get b=some (.abs (.pack (.table l)) false)) (st AR 34 [p9] (Hg l)):=by
 refine At.shut (Q:=fun v H=>(l=[]∧v=De 10∧H.get 9=some (.cells [.bool true,.slice none 0 0] 0 false)∧H.get 10=some (.cells [.bool true,.slice none 0 0] 0 false))∨Nf l v H) ?_ ?_
 ·show At X0 10 (fun b=>9≤b∧b < 10) AR _ (st AR 34 [p9] (Hg l))
  refine At.opened (b:=9) (s:= .table l) (ro:=false) ⟨by omega,by omega⟩ (by rfl) (fun ops p k h=>by cases h) fun objs hr=>?_
  cases hr with
  | Cv=>
   have hE:Ai X0 10 AR (fun v H=>v=De 10∧H.get 9=some (.cells [.bool true,.slice none 0 0] 0 false)∧H.get 10=some (.cells [.bool true,.slice none 0 0] 0 false)) (st AR 34 [p9] (BF ⟨.leaf,9⟩ Lp)):=by
    refine(Bc.GF (B4 (Ax X0) (ids:=[9]) (Q:=fun v os=>v=De 10∧os=[some (.cells [.bool true,.slice none 0 0] 0 false),some (.cells [.bool true,.slice none 0 0] 0 false)]) 400 _ (by rw[cy];exact⟨rfl,rfl⟩))).mono ?_
    rintro v H ⟨rfl,h⟩
    have h:[H.get 9,H.get 10]=_:=h
    simp only[List.cons.injEq,and_true]at h
    exact⟨rfl,h.1,h.2⟩
   have hN:At X0 10 (fun b=>9≤b∧b < 10) AR (fun v H=>(([]:List (EK.C AT))=[]∧v=De 10∧H.get 9=some (.cells [.bool true,.slice none 0 0] 0 false)∧H.get 10=some (.cells [.bool true,.slice none 0 0] 0 false))∨Nf [] v H) (st AR 34 [p9] ((Hg []).put 9 (.cells [.bool true,.slice none 0 0] 0 false))):=by
    rw[M0];exact hE.I3.mono fun v H h=> .inl ⟨rfl,h⟩
   exact⟨_,J3 (H:=Hg []) (b:=9) (ro:=false) (o1:= .cells [.bool true,.slice none 0 0] 0 false) (show 9 < 10 by decide) (Gu []) rfl,hN⟩
  | table l=>
   have hN:At X0 10 (fun b=>9≤b∧b < 10) AR (fun v H=>(l=[]∧v=De 10∧H.get 9=some (.cells [.bool true,.slice none 0 0] 0 false)∧H.get 10=some (.cells [.bool true,.slice none 0 0] 0 false))∨Nf l v H) (st AR 34 [p9] (((Hg l).put 9 (.cells [.bool true,.slice (some ⟨10,0,some 0⟩) l.length AE] 0 false)).alloc (.vec AT l false))):=by
    rw[MI];exact(Ai.lower (by decide) (Qr hn)).I3.mono fun v H h=> .inr h
   exact⟨_,HT (H:=Hg l) (b:=9) (ro:=false) (o1:= .cells [.bool true,.slice (some ⟨10,0,some 0⟩) l.length AE] 0 false) (p1:= .vec AT l false) (show 9 < 10 by decide) (Gu l) rfl rfl,hN⟩
 ·have hD9:∀v:Value,9∈Ac 4 v∨(9≤9∧9 < 10):=fun v=> .inr ⟨Nat.le_refl 9,Nat.lt_succ_self 9⟩
  rintro v H (⟨rfl,rfl,h9,h10⟩ | ⟨rfl,h9,h10,h14⟩)
  ·have s1:=B0 (s:= .table []) (bs:=[9]) (H:=H) (by simp)
   have k10:=s1.C2 10 (by simp)
   rw[h10]at k10
   have s2:=B0 (s:= .table []) (bs:=[10]) (H:=C1 (.table []) [9] H) (by simp)
   refine⟨C1 (.table []) [10] (C1 (.table []) [9] H),Ma (s:= .table []) (o:= .cells [.bool true,.slice none 0 0] 0 false) .Cv (hD9 _) h9 rfl rfl rfl
    (Ma (s:= .table []) (o:= .cells [.bool true,.slice none 0 0] 0 false) .Cv (.inl (by simp[Ac,De])) k10 rfl rfl rfl (.refl _)),10,Nat.le_refl _,rfl,?_,s2.root 10 rfl⟩
   rw[s2.C2 9 (by simp)];exact s1.root 9 rfl
  ·have s1:=B0 (s:= .table l) (bs:=[9,10]) (H:=H) (by simp)
   have k14:=s1.C2 14 (by simp)
   have k15:=s1.C2 15 (by simp)
   rcases h14 with⟨e,h14⟩ | ⟨h14,h15⟩
   ·rw[h14]at k14
    have s2:=B0 (s:= .table l) (bs:=[14]) (H:=C1 (.table l) [9,10] H) (by simp)
    refine⟨C1 (.table l) [14] (C1 (.table l) [9,10] H),N0 (s:= .table l) (b:=9) (n:=10) (.table l) (hD9 _) (by decide) h9 rfl rfl rfl rfl h10 rfl rfl rfl
     (Ma (s:= .table l) (o:= .cells [.bool true,.slice none 0 0] 0 false) (by rw[e];exact .Cv) (.inl (by simp[Ac,De])) k14 rfl rfl rfl (.refl _)),14,by decide,rfl,?_,s2.root 14 rfl⟩
    rw[s2.C2 9 (by simp)];exact s1.root 9 rfl
   ·rw[h14]at k14
    rw[h15]at k15
    have s2:=B0 (s:= .table l) (bs:=[14,15]) (H:=C1 (.table l) [9,10] H) (by simp)
    refine⟨C1 (.table l) [14,15] (C1 (.table l) [9,10] H),N0 (s:= .table l) (b:=9) (n:=10) (.table l) (hD9 _) (by decide) h9 rfl rfl rfl rfl h10 rfl rfl rfl
     (N0 (s:= .table l) (b:=14) (n:=15) (.table l) (.inl (by simp[Ac,De])) (by decide) k14 rfl rfl rfl rfl k15 rfl rfl rfl (.refl _)),14,by decide,rfl,?_,s2.root 14 rfl⟩
    rw[s2.C2 9 (by simp)];exact s1.root 9 rfl
theorem VJ:Dr Tryz.prog AM AR (Ay AM 9 [true] PI):=by
 refine BZ (Au.nil _ _) (by kernel_rfl) (n:=34) (by kernel_rfl) (by kernel_rfl) fun argsc objs x hx hro=>?_
 unfold PI at hx
 split at hx
 ·rename_i l ro
  simp only[GT.run]at hx
  split at hx
  ·rename_i hn
   cases hx
   have hr0:ro=false:=hro 0 _ rfl rfl
   subst hr0
   refine⟨by simp,?_⟩
   exact At.mono (Nl hn) fun v H ⟨b,hb,e,h9,h⟩=>e ▸ Yp hb h9 h
  ·cases hx
 ·cases hx
end Go.AD

set_option maxRecDepth 1000000
namespace Go.AD
open Go.Proofs
abbrev Bn:EK:=[.bool,.str,.str]
noncomputable def LW (m:AB):List AJ:=[.cells (BJ m 10 11 (.slice (some ⟨12,0,some 0⟩) m.AG.length AE)) 0 false,.abs (.pack (.table m.base)) false,.abs (.pack (.table m.now)) false,.vec Bn m.AG false]
noncomputable def ei:List (FuncId × Ci):=[(Br,Ay AM 9 [true] A4.G),(Bq,Ay AM 9 [true] JC.G),(BE,Ay AM 9 [true] JN.G),(CT,Ay AM 9 [true] cX.G),(AR,Ay AM 9 [true] PI),(C9,Ay AM 9 [] TR)]
noncomputable def XM:Ctx:=Cf Tryz.prog AM ei
noncomputable def Ws:Pf:=fun g=>bif Nat.beq g Br then some (Bh AM 9 [true] A4.G)else bif Nat.beq g Bq then some (Bh AM 9 [true] JC.G)else bif Nat.beq g BE then some (Bh AM 9 [true] JN.G)else
 bif Nat.beq g CT then some (Bh AM 9 [true] cX.G)else bif Nat.beq g AR then some (Bh AM 9 [true] PI)else bif Nat.beq g C9 then some (Bh AM 9 [] TR)else Cp g
end Go.AD

set_option maxRecDepth 1000000
namespace Go.AD
open Go.Proofs
def FK (H:AA) (m:AB):Prop:=∃b n x,b≠9∧n≠9∧b≠n∧x≠9∧x≠b∧x≠n∧H.get b=some (.abs (.pack (.table m.base)) false)∧H.get n=some (.abs (.pack (.table m.now)) false)∧
 H.get 9=some (.cells (BJ m b n (.slice (some ⟨x,0,some 0⟩) m.AG.length AE)) 0 false)∧H.get x=some (.vec Bn m.AG false)
structure Fg where
 ok:AB→List Value→Prop
 v:AB→List Value→Value
 nx:AB→List Value→AB
noncomputable def Fg.G (q:Fg) (args:List Value) (objs:List AJ):GT:=
 match args,objs with
 | .pointer (some ⟨9,0,none⟩)::rest,[.abs (.pack (.model m)) _]=> .ask (q.ok m rest) (.ret ⟨q.v m rest,[some (.abs (.pack (.model (q.nx m rest))) false)],[]⟩)
 | _,_=> .fail
noncomputable def Mn (m:AB):AA:=BF ⟨.leaf,9⟩ [.abs (.pack (.model m)) false]
theorem QH (m:AB):∀x,10≤x→(Mn m).get x=none:=by
 intro x hx
 unfold Mn
 rw[EI]
 show(if x < 9 then _ else _)=_
 rw[if_neg (by omega),List.getElem?_eq_none (by simp;omega)]
 rfl
noncomputable def P6 (m:AB) (u:Value):AJ:= .cells (BJ m 10 11 u) 0 false
theorem N8 (m:AB):Dp ((Mn m).put 9 (P6 m (.slice (some ⟨12,0,some 0⟩) m.AG.length AE))) [.abs (.pack (.table m.base)) false,.abs (.pack (.table m.now)) false,.vec Bn m.AG false]=BF ⟨.leaf,9⟩ (LW m):=by kernel_rfl
theorem dm {v:Value} {H:AA} {s:Pk} (hv:Cd 6 v=true) (h:H.get 9=some (.abs (.pack s) false)):Ck AM 9 1 [true] ⟨v,[some (.abs (.pack s) false)],[]⟩ v H:=by
 refine⟨[],List.nodup_nil,fun b hb=>(by cases hb),rfl,Jr 6 v hv,fun j b o hj=>(by cases hj),fun j o hj hm ho=>?_⟩
 cases j with
 | zero=>cases ho;exact⟨_,rfl,h⟩
 | succ j=>omega
theorem TG {D:Nat→Prop} {v:Value} {H:AA} {m:AB} (hD:D 9) (h:FK H m):∃H2,B7 D v H H2∧H2.get 9=some (.abs (.pack (.model m)) false):=by
 obtain⟨b,n,x,hb,hn,hbn,hx,hxb,hxn,gb,gn,g9,gx⟩:=h
 have hnd:(9::[b,n,x]).Nodup:=by simp[Ne.symm hb,Ne.symm hn,hbn,Ne.symm hx,Ne.symm hxb,Ne.symm hxn]
 refine⟨C1 (.model m) (9::[b,n,x]) H,Qg (s:= .model m) (ns:=[b,n,x]) (.model m) (.inr hD) rfl hnd g9 rfl rfl rfl ?_ ?_ (Nat.le_of_ble_eq_true rfl) ?_ (.refl _),(B0 hnd).root 9 rfl⟩
 ·intro y hy;exact hy
 ·intro y hy;exact hy
 ·intro i y p hy hp
  cases i with
  | zero=>cases hy;cases hp;exact⟨_,gb,rfl,rfl,rfl,rfl⟩
  | succ i=>cases i with
   | zero=>cases hy;cases hp;exact⟨_,gn,rfl,rfl,rfl,rfl⟩
   | succ i=>cases i with
    | zero=>cases hy;cases hp;exact⟨_,gx,rfl,rfl,rfl,rfl⟩
    | succ i=>cases i<;>cases hy
theorem QY {fs:List (FuncId × Ci)} (hfs:Au Tryz.prog AM fs) {f:FuncId} {n:Nat} (he:entry Tryz.prog f=some (n,BH Tryz.prog f [])) {q:Fg}
 (hrun:∀m rest,q.ok m rest→rest.length+1≤n∧Cd 6 (q.v m rest)=true∧
  At (Cf Tryz.prog AM fs) 10 (fun b=>9≤b∧b < 10) f (fun v H=>v=q.v m rest∧FK H (q.nx m rest)) (st f n (p9::rest) (BF ⟨.leaf,9⟩ (LW m)))):Dr Tryz.prog AM f (Ay AM 9 [true] q.G):=by
 refine BZ hfs (by kernel_rfl) he (by kernel_rfl) fun argsc objs x hx hro=>?_
 unfold Fg.G at hx
 split at hx
 ·rename_i rest m ro
  simp only[GT.run]at hx
  split at hx
  ·rename_i hok
   cases hx
   have hr0:ro=false:=hro 0 _ rfl rfl
   subst hr0
   obtain⟨g1,g2,g5⟩:=hrun m rest hok
   refine⟨by simpa using g1,?_⟩
   refine At.shut (Q:=fun v H=>v=q.v m rest∧FK H (q.nx m rest)) ?_ ?_
   ·show At (Cf Tryz.prog AM fs) 10 (fun b=>9≤b∧b < 10) f _ (st f n (p9::rest) (Mn m))
    refine At.opened (b:=9) (s:= .model m) (ro:=false) ⟨by omega,by omega⟩ (by rfl) (fun ops p k h=>by cases h) fun objs hr=>?_
    cases hr with
    | model=>
     have hN:At (Cf Tryz.prog AM fs) 10 (fun b=>9≤b∧b < 10) f (fun v H=>v=q.v m rest∧FK H (q.nx m rest)) (st f n (p9::rest) (Dp ((Mn m).put 9 (P6 m (.slice (some ⟨12,0,some 0⟩) m.AG.length AE))) [.abs (.pack (.table m.base)) false,.abs (.pack (.table m.now)) false,.vec Bn m.AG false])):=by
      rw[N8];exact g5
     refine⟨_,J6 (H:=Mn m) (b:=9) (ro:=false) (o1:=P6 m (.slice (some ⟨12,0,some 0⟩) m.AG.length AE)) (ps1:=[.abs (.pack (.table m.base)) false,.abs (.pack (.table m.now)) false,.vec Bn m.AG false]) (show 9 < 10 by decide) (QH m) rfl rfl (fun i p hp=>?_),hN⟩
     cases i with
     | zero=>cases hp;exact⟨_,rfl,rfl⟩
     | succ i=>cases i with
      | zero=>cases hp;exact⟨_,rfl,rfl⟩
      | succ i=>cases i with
       | zero=>cases hp;exact⟨_,rfl,rfl⟩
       | succ i=>cases i<;>cases hp
   ·rintro v H ⟨rfl,hT⟩
    obtain⟨H2,k1,k2⟩:=TG (D:=fun b=>9≤b∧b < 9+[AJ.abs (.pack (.model m)) false].length) (v:=q.v m rest) ⟨Nat.le_refl 9,Nat.lt_succ_self 9⟩ hT
    exact⟨H2,k1,dm g2 k2⟩
  ·cases hx
 ·cases hx
theorem LV {fs:List (FuncId × Ci)} (hfs:Au Tryz.prog AM fs) {f:FuncId} {n:Nat} (he:entry Tryz.prog f=some (n,BH Tryz.prog f [])) {q:Fg}
 (hrun:∀m rest,q.ok m rest→rest.length+1≤n∧Cd 6 (q.v m rest)=true∧
  Ai (Cf Tryz.prog AM fs) 10 f (fun v H=>v=q.v m rest∧FK H (q.nx m rest)) (st f n (p9::rest) (BF ⟨.leaf,9⟩ (LW m)))):Dr Tryz.prog AM f (Ay AM 9 [true] q.G):=
 QY hfs he fun m rest h=>⟨(hrun m rest h).1,(hrun m rest h).2.1,(hrun m rest h).2.2.I3⟩
end Go.AD

set_option maxRecDepth 1000000
namespace Go.AD
open Go.Proofs
theorem Hq:El XM Ws:=An (fun _ _ _ h=>Ap (by kernel_rfl) h) (An (fun _ _ _ h=>Ap (by kernel_rfl) h) (An (fun _ _ _ h=>Ap (by kernel_rfl) h) (An (fun _ _ _ h=>Ap (by kernel_rfl) h)
 (An (fun _ _ _ h=>Ap (by kernel_rfl) h) (An (fun _ _ _ h=>Ap (by kernel_rfl) h) (Ax _))))))
theorem allM:Au Tryz.prog AM ei:=Au.cons ZL (Au.cons YE (Au.cons YO (Au.cons Y0 (Au.cons VJ (Au.cons VR (Au.nil _ _))))))
noncomputable def Ch (l:List (ByteArray × ByteArray)):AJ:= .abs (.pack (.table l)) false
theorem Pn {D:Nat→Prop} {v x:Value} {H:AA} {m:AB} {r b n:Nat} (hx:∀ν:Ad,KA ν x) (hu:m.AG=[]) (hb:b≠r) (hn:n≠r) (hbn:b≠n) (hr1:r < 100) (hb1:b < 100) (hn1:n < 100)
 (g9:H.get r=some (.cells (BJ m b n x) 0 false)) (_gb:H.get b=some (Ch m.base)) (_gn:H.get n=some (Ch m.now)) (hD:∃c,D c):
 ∃v2 H2,(∀(base:Env) (W0:World) (μ:Ad) (W:World) (v':Value),(∀b,D b→∃T,μ b=some T)→AH μ v v'→AP base W0 μ H W→∃μ2,μ.le μ2∧AP base W0 μ2 H2 W∧AH μ2 v2 v')∧v2=v∧
  (∃z,100≤z∧(r::[b,n,z]).Nodup∧H2.get r=some (.cells (BJ m b n (.slice (some ⟨z,0,some 0⟩) m.AG.length AE)) 0 false)∧H2.get z=some (.vec Bn m.AG false))∧∀y,y≠r→y < 100→H2.get y=H.get y:=by
 obtain⟨c,hc⟩:=hD
 have hge:=H.D7
 refine⟨v,(H.CO Bn).put r (.cells (BJ m b n (.slice (some ⟨H.Bu,0,some 0⟩) 0 AE)) 0 false),fun base W0 μ W v' hT hv hH=>?_,rfl,⟨H.Bu,hge,?_,?_,?_⟩,fun y hy hy1=>?_⟩
 ·obtain⟨μ2,k1,k2⟩:=hH.Lv (k:=Bn) (pre:=(BJ m b n x).take 11) (post:=(BJ m b n x).drop 12) (hT c hc) hx g9 hr1
  exact⟨μ2,k1,k2,hv.mono k1⟩
 ·simp only[List.nodup_cons,List.mem_cons,List.not_mem_nil,not_or,not_false_eq_true,and_true,List.nodup_nil]
  omega
 ·rw[AA.AN,if_pos rfl,hu];rfl
 ·rw[AA.AN,if_neg (by omega),AA.CM,if_pos rfl,hu]
 ·rw[AA.AN,if_neg hy,AA.CM,if_neg (by omega)]
theorem PB {D:Nat→Prop} {v:Value} {H:AA} {m:AB} {b n:Nat} (hu:m.AG=[]) (hb:b≠9) (hn:n≠9) (hbn:b≠n) (hb1:b < 100) (hn1:n < 100)
 (g9:H.get 9=some (.cells (BJ m b n (.slice none 0 0)) 0 false)) (gb:H.get b=some (Ch m.base)) (gn:H.get n=some (Ch m.now)) (hD:D 9:=by exact⟨Nat.le_refl 9,Nat.lt_succ_self 9⟩):
 ∃v2 H2,(∀(base:Env) (W0:World) (μ:Ad) (W:World) (v':Value),(∀b,D b→∃T,μ b=some T)→AH μ v v'→AP base W0 μ H W→∃μ2,μ.le μ2∧AP base W0 μ2 H2 W∧AH μ2 v2 v')∧v2=v∧FK H2 m:=by
 obtain⟨v2,H2,k1,k2,⟨z,z1,z2,z3,z4⟩,k3⟩:=Pn (D:=D) (v:=v) (fun _=>Fq) hu hb hn hbn (by decide) hb1 hn1 g9 gb gn ⟨9,hD⟩
 refine⟨v2,H2,k1,k2,b,n,z,hb,hn,hbn,by omega,by omega,by omega,?_,?_,z3,z4⟩
 ·rw[k3 b hb hb1];exact gb
 ·rw[k3 n hn hn1];exact gn
end Go.AD

set_option maxRecDepth 1000000
namespace Go.AD
open Go.Proofs
def recC (k v:ByteArray):Int:=IntKind.wrap .i64 (IntKind.wrap .i64 (16+(k.size:Int))+(v.size:Int))
noncomputable def D4 (m:AB) (del:Bool) (key val:ByteArray):Int:=
 let n:=bif (DH m.now key).isSome then IntKind.wrap .i64 (m.cost - recC key ((DH m.now key).getD { data:=#[] }))else m.cost
 bif del then n else IntKind.wrap .i64 (n+recC key val)
end Go.AD

set_option maxRecDepth 1000000
namespace Go.AD
open Go.Proofs
noncomputable abbrev vc_accU_0 (m:AB) (key:ByteArray) (val:ByteArray):AJ:=(.cells [(.int .i64 (List.getD (AB.cfg m) 0 0)),(.int .i64 (List.getD (AB.cfg m) 1 0)),(.int .i64 (List.getD (AB.cfg m) 2 0)),(.int .i64 (List.getD (AB.cfg m) 3 0)),(.int .i64 (List.getD (AB.cfg m) 4 0)),(.int .i64 (List.getD (AB.cfg m) 5 0)),(.int .i64 (List.getD (AB.cfg m) 6 0)),(.int .i64 (AB.Al m)),(.pointer (some ⟨10,0,none⟩)),(.pointer (some ⟨11,0,none⟩)),(.int .i64 (IntKind.wrap .i64 (IntKind.wrap .i64 (AB.cost m - IntKind.wrap .i64 (IntKind.wrap .i64 (16+Int.ofNat (ByteArray.size key))+Int.ofNat (ByteArray.size (Option.getD (DH (AB.now m) key) { data:=#[] }))))+IntKind.wrap .i64 (IntKind.wrap .i64 (16+Int.ofNat (ByteArray.size key))+Int.ofNat (ByteArray.size val))))),(.slice (some ⟨17,0,(some 0)⟩) (List.length (AB.AG m)+1) 18446744073709551616),(.pointer none),(.int .i64 (AB.state m)),(.bool (AB.AS m))] 0 false)
noncomputable abbrev vc_accU_1 (m:AB) (key:ByteArray):AJ:=(.cells [(.int .i64 (List.getD (AB.cfg m) 0 0)),(.int .i64 (List.getD (AB.cfg m) 1 0)),(.int .i64 (List.getD (AB.cfg m) 2 0)),(.int .i64 (List.getD (AB.cfg m) 3 0)),(.int .i64 (List.getD (AB.cfg m) 4 0)),(.int .i64 (List.getD (AB.cfg m) 5 0)),(.int .i64 (List.getD (AB.cfg m) 6 0)),(.int .i64 (AB.Al m)),(.pointer (some ⟨10,0,none⟩)),(.pointer (some ⟨11,0,none⟩)),(.int .i64 (IntKind.wrap .i64 (AB.cost m - IntKind.wrap .i64 (IntKind.wrap .i64 (16+Int.ofNat (ByteArray.size key))+Int.ofNat (ByteArray.size (Option.getD (DH (AB.now m) key) { data:=#[] })))))),(.slice (some ⟨17,0,(some 0)⟩) (List.length (AB.AG m)+1) 18446744073709551616),(.pointer none),(.int .i64 (AB.state m)),(.bool (AB.AS m))] 0 false)
noncomputable abbrev vc_accU_2 (m:AB) (key:ByteArray) (val:ByteArray):AJ:=(.cells [(.int .i64 (List.getD (AB.cfg m) 0 0)),(.int .i64 (List.getD (AB.cfg m) 1 0)),(.int .i64 (List.getD (AB.cfg m) 2 0)),(.int .i64 (List.getD (AB.cfg m) 3 0)),(.int .i64 (List.getD (AB.cfg m) 4 0)),(.int .i64 (List.getD (AB.cfg m) 5 0)),(.int .i64 (List.getD (AB.cfg m) 6 0)),(.int .i64 (AB.Al m)),(.pointer (some ⟨10,0,none⟩)),(.pointer (some ⟨11,0,none⟩)),(.int .i64 (IntKind.wrap .i64 (AB.cost m+IntKind.wrap .i64 (IntKind.wrap .i64 (16+Int.ofNat (ByteArray.size key))+Int.ofNat (ByteArray.size val))))),(.slice (some ⟨17,0,(some 0)⟩) (List.length (AB.AG m)+1) 18446744073709551616),(.pointer none),(.int .i64 (AB.state m)),(.bool (AB.AS m))] 0 false)
noncomputable abbrev vc_accU_3 (m:AB):AJ:=(.cells [(.int .i64 (List.getD (AB.cfg m) 0 0)),(.int .i64 (List.getD (AB.cfg m) 1 0)),(.int .i64 (List.getD (AB.cfg m) 2 0)),(.int .i64 (List.getD (AB.cfg m) 3 0)),(.int .i64 (List.getD (AB.cfg m) 4 0)),(.int .i64 (List.getD (AB.cfg m) 5 0)),(.int .i64 (List.getD (AB.cfg m) 6 0)),(.int .i64 (AB.Al m)),(.pointer (some ⟨10,0,none⟩)),(.pointer (some ⟨11,0,none⟩)),(.int .i64 (AB.cost m)),(.slice (some ⟨17,0,(some 0)⟩) (List.length (AB.AG m)+1) 18446744073709551616),(.pointer none),(.int .i64 (AB.state m)),(.bool (AB.AS m))] 0 false)
theorem ZP (m:AB) (del:Bool) (key val:ByteArray) (Q:Value→List (Option AJ)→Prop):FD XM Ws Bl [9,10,11,17] Q 800 (st Bl 26 [p9,.agg ⟨[.bool del,.string key,.string val]⟩] (BF ⟨.leaf,9⟩ (LW m)))=(
 (Aj.ok A4 (AB.now m) [Value.string key])∧(bif Option.isSome (DH (AB.now m) key)then(((.bool (Option.isSome (DH (AB.now m) key))):Value)=(.bool true))∧(bif del then(bif del then(Aj.ok JN (Aj.nx A4 (AB.now m) [Value.string key]) [Value.string key])∧(bif true&&Nat.ble (0+List.length (AB.AG m)) (List.length (AB.AG m))&&BV 40 (List.length (AB.AG m)+1)then(((.pointer (some ⟨9,0,none⟩)):Value)=(.pointer (some ⟨9,0,none⟩)))∧(Q (.tuple ⟨[]⟩) [some (vc_accU_1 m key),some (.abs (AX.pack (Pk.table (AB.base m))) false),some (.abs (AX.pack (Pk.table (Aj.nx JN (Aj.nx A4 (AB.now m) [Value.string key]) [Value.string key]))) false),some (.vec Bn (List.take (List.length (AB.AG m)) (List.drop 0 (AB.AG m))++[(del,key,val)]) false)])else False)else(Aj.ok JC (Aj.nx A4 (AB.now m) [Value.string key]) [Value.string key,Value.string val])∧(bif true&&Nat.ble (0+List.length (AB.AG m)) (List.length (AB.AG m))&&BV 40 (List.length (AB.AG m)+1)then(((.pointer (some ⟨9,0,none⟩)):Value)=(.pointer (some ⟨9,0,none⟩)))∧(Q (.tuple ⟨[]⟩) [some (vc_accU_1 m key),some (.abs (AX.pack (Pk.table (AB.base m))) false),some (.abs (AX.pack (Pk.table (Aj.nx JC (Aj.nx A4 (AB.now m) [Value.string key]) [Value.string key,Value.string val]))) false),some (.vec Bn (List.take (List.length (AB.AG m)) (List.drop 0 (AB.AG m))++[(del,key,val)]) false)])else False))else(bif del then(Aj.ok JN (Aj.nx A4 (AB.now m) [Value.string key]) [Value.string key])∧(bif true&&Nat.ble (0+List.length (AB.AG m)) (List.length (AB.AG m))&&BV 40 (List.length (AB.AG m)+1)then(((.pointer (some ⟨9,0,none⟩)):Value)=(.pointer (some ⟨9,0,none⟩)))∧(Q (.tuple ⟨[]⟩) [some (vc_accU_0 m key val),some (.abs (AX.pack (Pk.table (AB.base m))) false),some (.abs (AX.pack (Pk.table (Aj.nx JN (Aj.nx A4 (AB.now m) [Value.string key]) [Value.string key]))) false),some (.vec Bn (List.take (List.length (AB.AG m)) (List.drop 0 (AB.AG m))++[(del,key,val)]) false)])else False)else(Aj.ok JC (Aj.nx A4 (AB.now m) [Value.string key]) [Value.string key,Value.string val])∧(bif true&&Nat.ble (0+List.length (AB.AG m)) (List.length (AB.AG m))&&BV 40 (List.length (AB.AG m)+1)then(((.pointer (some ⟨9,0,none⟩)):Value)=(.pointer (some ⟨9,0,none⟩)))∧(Q (.tuple ⟨[]⟩) [some (vc_accU_0 m key val),some (.abs (AX.pack (Pk.table (AB.base m))) false),some (.abs (AX.pack (Pk.table (Aj.nx JC (Aj.nx A4 (AB.now m) [Value.string key]) [Value.string key,Value.string val]))) false),some (.vec Bn (List.take (List.length (AB.AG m)) (List.drop 0 (AB.AG m))++[(del,key,val)]) false)])else False)))else(((.bool (Option.isSome (DH (AB.now m) key))):Value)=(.bool false))∧(bif del then(bif del then(Aj.ok JN (Aj.nx A4 (AB.now m) [Value.string key]) [Value.string key])∧(bif true&&Nat.ble (0+List.length (AB.AG m)) (List.length (AB.AG m))&&BV 40 (List.length (AB.AG m)+1)then(((.pointer (some ⟨9,0,none⟩)):Value)=(.pointer (some ⟨9,0,none⟩)))∧(Q (.tuple ⟨[]⟩) [some (vc_accU_3 m),some (.abs (AX.pack (Pk.table (AB.base m))) false),some (.abs (AX.pack (Pk.table (Aj.nx JN (Aj.nx A4 (AB.now m) [Value.string key]) [Value.string key]))) false),some (.vec Bn (List.take (List.length (AB.AG m)) (List.drop 0 (AB.AG m))++[(del,key,val)]) false)])else False)else(Aj.ok JC (Aj.nx A4 (AB.now m) [Value.string key]) [Value.string key,Value.string val])∧(bif true&&Nat.ble (0+List.length (AB.AG m)) (List.length (AB.AG m))&&BV 40 (List.length (AB.AG m)+1)then(((.pointer (some ⟨9,0,none⟩)):Value)=(.pointer (some ⟨9,0,none⟩)))∧
 (Q (.tuple ⟨[]⟩) [some (vc_accU_3 m),some (.abs (AX.pack (Pk.table (AB.base m))) false),some (.abs (AX.pack (Pk.table (Aj.nx JC (Aj.nx A4 (AB.now m) [Value.string key]) [Value.string key,Value.string val]))) false),some (.vec Bn (List.take (List.length (AB.AG m)) (List.drop 0 (AB.AG m))++[(del,key,val)]) false)])else False))else(bif del then(Aj.ok JN (Aj.nx A4 (AB.now m) [Value.string key]) [Value.string key])∧(bif true&&Nat.ble (0+List.length (AB.AG m)) (List.length (AB.AG m))&&BV 40 (List.length (AB.AG m)+1)then(((.pointer (some ⟨9,0,none⟩)):Value)=(.pointer (some ⟨9,0,none⟩)))∧(Q (.tuple ⟨[]⟩) [some (vc_accU_2 m key val),some (.abs (AX.pack (Pk.table (AB.base m))) false),some (.abs (AX.pack (Pk.table (Aj.nx JN (Aj.nx A4 (AB.now m) [Value.string key]) [Value.string key]))) false),some (.vec Bn (List.take (List.length (AB.AG m)) (List.drop 0 (AB.AG m))++[(del,key,val)]) false)])else False)else(Aj.ok JC (Aj.nx A4 (AB.now m) [Value.string key]) [Value.string key,Value.string val])∧(bif true&&Nat.ble (0+List.length (AB.AG m)) (List.length (AB.AG m))&&BV 40 (List.length (AB.AG m)+1)then(((.pointer (some ⟨9,0,none⟩)):Value)=(.pointer (some ⟨9,0,none⟩)))∧(Q (.tuple ⟨[]⟩) [some (vc_accU_2 m key val),some (.abs (AX.pack (Pk.table (AB.base m))) false),some (.abs (AX.pack (Pk.table (Aj.nx JC (Aj.nx A4 (AB.now m) [Value.string key]) [Value.string key,Value.string val]))) false),some (.vec Bn (List.take (List.length (AB.AG m)) (List.drop 0 (AB.AG m))++[(del,key,val)]) false)])else False))))):=by kernel_rfl
end Go.AD

set_option maxRecDepth 1000000
namespace Go.AD
open Go.Proofs
noncomputable def Bz (m:AB) (del:Bool) (key val:ByteArray):AB:=
 { m with cost:=D4 m del key val,now:=bif del then Ej m.now key else EW m.now key val,AG:=m.AG++[(del,key,val)] }
theorem de {n:Nat} (h:n < 1000000):BV 40 (n+1)=true:=by
 unfold BV
 rw[Nat.ble_eq_true_of_le (by omega),Nat.ble_eq_true_of_le (by omega)];rfl
theorem Wv {N:Nat} (m:AB) (del:Bool) (key val:ByteArray) (hs:A8 m.now) (hn:m.now.length < 1000000) (hu:m.AG.length < 1000000):Ai XM N Bl (fun v H=>v= .tuple ⟨[]⟩∧([9,10,11,17]++Ac 4 v).map H.get=[some (.cells (BJ (Bz m del key val) 10 11 (.slice (some ⟨17,0,some 0⟩) (m.AG.length+1) 18446744073709551616)) 0 false),some (Ch m.base),some (Ch (Bz m del key val).now),some (.vec Bn (m.AG++[(del,key,val)]) false)])
 (st Bl 26 [p9,.agg ⟨[.bool del,.string key,.string val]⟩] (BF ⟨.leaf,9⟩ (LW m))):=by
 refine Bc.GF (B4 Hq (ids:=[9,10,11,17]) (Q:=fun v os=>v= .tuple ⟨[]⟩∧os=[some (.cells (BJ (Bz m del key val) 10 11 (.slice (some ⟨17,0,some 0⟩) (m.AG.length+1) 18446744073709551616)) 0 false),some (Ch m.base),some (Ch (Bz m del key val).now),some (.vec Bn (m.AG++[(del,key,val)]) false)]) 800 _ ?_)
 rw[ZP]
 rw[List.drop_zero,List.take_length]
 have hb:(true&&Nat.ble (0+m.AG.length) m.AG.length&&BV 40 (m.AG.length+1))=true:=by
  rw[de hu,Nat.ble_eq_true_of_le (by omega)];rfl
 unfold Bz D4
 refine⟨⟨hs,by omega,key,rfl⟩,As (fun h1=>⟨by rw[h1],?_⟩) (fun h1=>⟨by rw[h1],?_⟩)⟩
 all_goals
  cases del
  ·exact⟨⟨hs,hn,key,val,rfl⟩,AF hb ⟨rfl,rfl,by simp only[h1,cond_true,cond_false]<;>rfl⟩⟩
  ·exact⟨⟨hs,hn,key,rfl⟩,AF hb ⟨rfl,rfl,by simp only[h1,cond_true,cond_false]<;>rfl⟩⟩
end Go.AD

set_option maxRecDepth 1000000
namespace Go.AD
open Go.Proofs
noncomputable abbrev Bs:List (Nat × List Value):=AM
noncomputable def GD:AA:=⟨.leaf,20⟩
end Go.AD

set_option maxRecDepth 1000000
namespace Go.AD
open Go.Proofs
noncomputable def UT (s:ByteArray) (out b:List (EK.C Gf)) (sv bv:Value) (n i:Int):A5:=
 ⟨⟨E2,HQ [(3,sv),(10,bv),(11,.int .i64 n),(12,.int .i64 i)],28,[.code (BH Tryz.prog E2 [1,1,0,1,0,0]),.inLoop (BH Tryz.prog E2 [1,1,0,1,0,0]),.inBlock 0,.code (BH Tryz.prog E2 [1,1,1])],[],false,.normal,none⟩,
  [⟨B6,HQ [(0,.string s),(2,.string ⟨#[]⟩),(3,.int .i64 0),(4,.int .i64 0),(5,.string s),(6,.int .i64 0),(7,.int .i64 0),(8,.bool false),(10,.string s),(11,.bool false),(12,.string s),(13,bv)],15,[Is (BH Tryz.prog B6 [1,1,1,0]) 2,.code .ret],[],false,.normal,none⟩],
  OP (OP GD false [⟨Gf,out⟩]) false [⟨Gf,b⟩]⟩
def XK:Stop:=⟨E2,1,3,20,[],[3,10,11,12]⟩
theorem Yo (s:ByteArray) (Q:Value→List (Option AJ)→Prop) (R:A5→Prop):LK X0 Cp B6 [] XK Q R 2000 (st B6 15 [.string s] GD)=(
 (bif decide (Int.ofNat (ByteArray.size s) > 512)then(Q (.tuple ⟨[(.string ({ data:=#[] })),(.int .i64 12)]⟩) [])else(bif ByteArray.toList s==ByteArray.toList { data:=#[] } then(Q (.tuple ⟨[(.string ({ data:=#[45] })),(.int .i64 0)]⟩) [])else(bif decide (0≤IntKind.wrap .i64 (2 * Int.ofNat (ByteArray.size s)))&&decide (IntKind.wrap .i64 (2 * Int.ofNat (ByteArray.size s))≤140737488355328)then(R (UT s [] (B8 s) (.slice (some ⟨20,0,(some 0)⟩) 0 18446744073709551616) (.slice (some ⟨21,0,(some 0)⟩) (ByteArray.size s) 18446744073709551616) (Int.ofNat (ByteArray.size s)) 0))else False)))):=by kernel_rfl
theorem TY (s:ByteArray) (out b:List (EK.C Gf)) (m:Nat) (bn:Nat) (n i:Int) (Q:Value→List (Option AJ)→Prop) (R:A5→Prop):LK X0 Cp B6 [] XK Q R 2000 (UT s out b (.slice (some ⟨20,0,some 0⟩) m AE) (.slice (some ⟨21,0,some 0⟩) bn AE) n i)=(
 (bif decide (i < n)then(bif decide (0≤i)&&Nat.blt (Int.toNat i) bn then(bif Nat.blt (0+Int.toNat i) (List.length b)then(bif decide (0≤Int.fdiv (List.getD b (0+Int.toNat i) (EK.AU Gf)) (2 ^ min 4 (IntKind.bits IntKind.u8)))&&Nat.blt (Int.toNat (Int.fdiv (List.getD b (0+Int.toNat i) (EK.AU Gf)) (2 ^ min 4 (IntKind.bits IntKind.u8)))) (ByteArray.size { data:=#[48,49,50,51,52,53,54,55,56,57,97,98,99,100,101,102] })then(bif decide (0≤IntKind.wrap IntKind.u8 ↑(BitVec.toNat (BitVec.ofInt (IntKind.bits IntKind.u8) (List.getD b (0+Int.toNat i) (EK.AU Gf)) &&& BitVec.ofInt (IntKind.bits IntKind.u8) 15)))&&Nat.blt (Int.toNat (IntKind.wrap IntKind.u8 ↑(BitVec.toNat (BitVec.ofInt (IntKind.bits IntKind.u8) (List.getD b (0+Int.toNat i) (EK.AU Gf)) &&& BitVec.ofInt (IntKind.bits IntKind.u8) 15)))) (ByteArray.size { data:=#[48,49,50,51,52,53,54,55,56,57,97,98,99,100,101,102] })then(bif true&&Nat.ble (0+m) (List.length out)&&BV 1 (m+2)then(R (UT s (List.take m (List.drop 0 out)++[F9 { data:=#[48,49,50,51,52,53,54,55,56,57,97,98,99,100,101,102] } (Int.toNat (Int.fdiv (List.getD b (0+Int.toNat i) (EK.AU Gf)) (2 ^ min 4 (IntKind.bits IntKind.u8)))),F9 { data:=#[48,49,50,51,52,53,54,55,56,57,97,98,99,100,101,102] } (Int.toNat (IntKind.wrap IntKind.u8 ↑(BitVec.toNat (BitVec.ofInt (IntKind.bits IntKind.u8) (List.getD b (0+Int.toNat i) (EK.AU Gf)) &&& BitVec.ofInt (IntKind.bits IntKind.u8) 15))))]) b (.slice (some ⟨20,0,(some 0)⟩) (m+2) 18446744073709551616) (.slice (some ⟨21,0,(some 0)⟩) bn 18446744073709551616) n (IntKind.wrap .i64 (i+1))))else False)else False)else False)else False)else False)else(bif Nat.ble (0+m) (List.length out)then(Q (.tuple ⟨[(.string (KK (List.take m (List.drop 0 out)))),(.int .i64 0)]⟩) [])else False))):=by kernel_rfl
end Go.AD

set_option maxRecDepth 100000
namespace Go.AD
abbrev NY:ByteArray:={ data:=#[48,49,50,51,52,53,54,55,56,57,97,98,99,100,101,102] }
def D5 (x:Int):List Int:=[F9 NY (Int.toNat (Int.tdiv x 16)),F9 NY (Int.toNat (Int.tmod x 16))]
def H0 (l:List Int):List Int:=l.flatMap D5
def dN (x:Int):Prop:=0≤x∧x < 256
theorem Lj {p:Int→Prop} [∀x,Decidable (p x)] (h:(∀n:_root_.Fin 256,p (n.1:Int))) {x:Int} (hx:dN x):p x:=by
 obtain⟨h0,h1⟩:=hx
 have:=h ⟨x.toNat,by omega⟩
 rwa [show((x.toNat:Nat):Int)=x by omega]at this
theorem U0 {x:Int} (hx:dN x):[F9 NY (Int.toNat (Int.fdiv x (2 ^ min 4 (IntKind.bits IntKind.u8)))),F9 NY (Int.toNat (IntKind.wrap IntKind.u8 ↑(BitVec.toNat (BitVec.ofInt (IntKind.bits IntKind.u8) x &&& BitVec.ofInt (IntKind.bits IntKind.u8) 15))))]=D5 x:=
 Lj (p:=fun x=>[F9 NY (Int.toNat (Int.fdiv x (2 ^ min 4 (IntKind.bits IntKind.u8)))),F9 NY (Int.toNat (IntKind.wrap IntKind.u8 ↑(BitVec.toNat (BitVec.ofInt (IntKind.bits IntKind.u8) x &&& BitVec.ofInt (IntKind.bits IntKind.u8) 15))))]=D5 x) (by decide +kernel) hx
theorem V8 {x:Int} (hx:dN x):(decide (0≤Int.fdiv x (2 ^ min 4 (IntKind.bits IntKind.u8)))&&Nat.blt (Int.toNat (Int.fdiv x (2 ^ min 4 (IntKind.bits IntKind.u8)))) (ByteArray.size NY))=true:=
 Lj (p:=fun x=>(decide (0≤Int.fdiv x (2 ^ min 4 (IntKind.bits IntKind.u8)))&&Nat.blt (Int.toNat (Int.fdiv x (2 ^ min 4 (IntKind.bits IntKind.u8)))) (ByteArray.size NY))=true) (by decide +kernel) hx
theorem Zi {x:Int} (hx:dN x):(decide (0≤IntKind.wrap IntKind.u8 ↑(BitVec.toNat (BitVec.ofInt (IntKind.bits IntKind.u8) x &&& BitVec.ofInt (IntKind.bits IntKind.u8) 15)))&&Nat.blt (Int.toNat (IntKind.wrap IntKind.u8 ↑(BitVec.toNat (BitVec.ofInt (IntKind.bits IntKind.u8) x &&& BitVec.ofInt (IntKind.bits IntKind.u8) 15)))) (ByteArray.size NY))=true:=
 Lj (p:=fun x=>(decide (0≤IntKind.wrap IntKind.u8 ↑(BitVec.toNat (BitVec.ofInt (IntKind.bits IntKind.u8) x &&& BitVec.ofInt (IntKind.bits IntKind.u8) 15)))&&Nat.blt (Int.toNat (IntKind.wrap IntKind.u8 ↑(BitVec.toNat (BitVec.ofInt (IntKind.bits IntKind.u8) x &&& BitVec.ofInt (IntKind.bits IntKind.u8) 15)))) (ByteArray.size NY))=true) (by decide +kernel) hx
theorem Vf (s:ByteArray) (i:Nat):dN (F9 s i):=by
 unfold F9 dN
 have:=(s.data.toList.getD i 0).toNat_lt
 omega
theorem J5 (s:ByteArray) (i:Nat) (h:i < s.size):List.getD (B8 s) i 0=F9 s i:=by
 unfold B8 F9
 have:i < s.data.toList.length:=by simpa using h
 rw[List.getD_eq_getElem?_getD,List.getD_eq_getElem?_getD,List.getElem?_map,List.getElem?_eq_getElem this]
 rfl
theorem HC:∀l:List Int,(H0 l).length=2 * l.length
 | []=>rfl
 | x::l=>by
  have:=HC l
  unfold H0 at this ⊢
  rw[List.flatMap_cons,List.length_append,this]
  simp[D5];omega
theorem Rx (s:ByteArray) (i:Nat) (h:i < s.size):H0 ((B8 s).take (i+1))=H0 ((B8 s).take i)++D5 (F9 s i):=by
 have hl:i < (B8 s).length:=by rw[Cw];exact h
 rw[List.take_succ_eq_append_getElem hl]
 unfold H0
 rw[List.flatMap_append,List.flatMap_singleton]
 have:=J5 s i h
 rw[List.getD_eq_getElem?_getD,List.getElem?_eq_getElem hl]at this
 rw[←this];rfl
noncomputable def Lm (s:ByteArray):ByteArray:=if s.size > 512 then⟨#[]⟩else if s.size=0 then⟨#[45]⟩else KK (H0 (B8 s))
def Ss (s:ByteArray):Int:=if s.size > 512 then 12 else 0
noncomputable def M7 (s:ByteArray):Value:= .tuple ⟨[.string (Lm s),.int .i64 (Ss s)]⟩
end Go.AD

set_option maxRecDepth 1000000
namespace Go.AD
open Go.Proofs
theorem TF:AE=18446744073709551616:=by kernel_rfl
theorem XU {m:Nat} (h:m≤2000000):BV 1 m=true:=by
 unfold BV
 rw[Bool.and_eq_true]
 exact⟨Nat.ble_eq_true_of_le (by omega),Nat.ble_eq_true_of_le (by omega)⟩
theorem eZ {i n:Nat} (h:i < n):(decide ((0:Int)≤(i:Int))&&Nat.blt (Int.toNat (i:Int)) n)=true:=by
 rw[Int.toNat_natCast,show Nat.blt i n=true from Nat.ble_eq_true_of_le h];simp
theorem cS {i n:Nat} (h:i < n):Nat.blt (0+Int.toNat (i:Int)) n=true:=by
 rw[Int.toNat_natCast,Nat.zero_add];exact Nat.ble_eq_true_of_le h
noncomputable def R0 (s:ByteArray):Value:= .tuple ⟨[.string (KK (H0 (B8 s))),.int .i64 0]⟩
theorem UO {s:ByteArray} (h:s.size > 512):M7 s= .tuple ⟨[.string ⟨#[]⟩,.int .i64 12]⟩:=by
 unfold M7 Lm Ss
 rw[if_pos h,if_pos h]
theorem Vi {s:ByteArray} (h:s.size=0):M7 s= .tuple ⟨[.string ⟨#[45]⟩,.int .i64 0]⟩:=by
 unfold M7 Lm Ss
 rw[if_neg (by omega),if_pos h,if_neg (by omega)]
theorem Xi {s:ByteArray} (h:s.size≤512) (h2:s.size≠0):M7 s=R0 s:=by
 unfold M7 Lm Ss R0
 rw[if_neg (by omega),if_neg h2,if_neg (by omega)]
theorem Tx {s:ByteArray} {i:Nat} (h:s.size≤i):(B8 s).take i=B8 s:=List.take_of_length_le (by rw[Cw];exact h)
theorem Lf {s:ByteArray} {i:Nat} (h:i≤s.size):(H0 ((B8 s).take i)).length=2 * i:=by
 rw[HC,List.length_take,Cw,Nat.min_eq_left h]
theorem Wp (s:ByteArray) (hs:s.size≤512):∀(m i:Nat),s.size - i=m→i≤s.size→
 Ai X0 20 B6 (fun v _=>v=R0 s) (UT s (H0 ((B8 s).take i)) (B8 s) (.slice (some ⟨20,0,some 0⟩) (2 * i) AE) (.slice (some ⟨21,0,some 0⟩) s.size AE) s.size i):=by
 intro m
 induction m with
 | zero=>
  intro i hm hi
  refine CB (Ax X0) (ids:=[]) (S:=XK) rfl (Q:=fun v _=>v=R0 s) (R:=fun _=>False) (fun v H h=>h) (fun c h=>h.elim) 2000 _ ?_
  rw[TY]
  refine AY (fun h=>?_) (fun _=>?_)
  ·exfalso;have:(i:Int) < s.size:=h;omega
  refine AF (by rw[Lf hi,Nat.zero_add];exact Nat.ble_eq_true_of_le (Nat.le_refl _)) ?_
  show Value.tuple _=R0 s
  unfold R0
  rw[List.drop_zero,List.take_of_length_le (by rw[Lf hi];exact Nat.le_refl _),Tx (by omega)]
 | succ m ih=>
  intro i hm hi
  have hlt:i < s.size:=by omega
  refine CB (Ax X0) (ids:=[]) (S:=XK) rfl (Q:=fun v _=>v=R0 s)
   (R:=fun c=>c=UT s (H0 ((B8 s).take (i+1))) (B8 s) (.slice (some ⟨20,0,some 0⟩) (2 * (i+1)) AE) (.slice (some ⟨21,0,some 0⟩) s.size AE) s.size (i+1:Nat)) (fun v H h=>h) (fun c h=>by rw[h];exact ih (i+1) (by omega) (by omega)) 2000 _ ?_
  rw[TY]
  refine AY (fun _=>?_) (fun h=>absurd (show(i:Int) < (s.size:Int) by omega) h)
  have hg:List.getD (B8 s) (0+Int.toNat (i:Int)) (EK.AU Gf)=F9 s i:=by
   rw[Int.toNat_natCast,Nat.zero_add];exact J5 s i hlt
  rw[hg]
  have hin:=Vf s i
  refine AF (eZ hlt) (AF (cS (by rw[Cw];exact hlt)) (AF (V8 hin) (AF (Zi hin) (AF ?_ ?_))))
  ·rw[XU (by omega),Lf hi,Nat.zero_add,show Nat.ble (2 * i) (2 * i)=true from Nat.ble_eq_true_of_le (Nat.le_refl _)];rfl
  ·rw[Rx s i hlt,List.drop_zero,List.take_of_length_le (by rw[Lf hi];exact Nat.le_refl _),U0 hin,wrap64 (by omega) (by omega),show 2 * (i+1)=2 * i+2 by omega,show((i+1:Nat):Int)=(i:Int)+1 by omega,TF]
theorem VH {s:ByteArray}:(ByteArray.toList s==ByteArray.toList { data:=#[] })=decide (s.size=0):=by
 rw[ByteArray.toList_eq,ByteArray.toList_eq]
 rcases s with⟨⟨l⟩⟩
 cases l<;>rfl
theorem XL (s:ByteArray):Ai X0 20 B6 (fun v _=>v=M7 s) (st B6 15 [.string s] GD):=by
 refine CB (Ax X0) (ids:=[]) (S:=XK) rfl (Q:=fun v _=>v=M7 s)
  (R:=fun c=>s.size≤512∧s.size≠0∧c=UT s [] (B8 s) (.slice (some ⟨20,0,some 0⟩) 0 AE) (.slice (some ⟨21,0,some 0⟩) s.size AE) s.size 0) (fun v H h=>h) (fun c h=>?_) 2000 _ ?_
 ·obtain⟨h1,h2,rfl⟩:=h
  refine Ai.mono (Wp s h1 s.size 0 (by omega) (by omega)) fun v H h=>?_
  rw[h,Xi h1 h2]
 rw[Yo]
 refine AY (fun h=>?_) (fun h=>?_)
 ·exact(UO (by have:(s.size:Int) > 512:=h;omega)).symm
 have h1:s.size≤512:=by have:¬(s.size:Int) > 512:=h;omega
 rw[VH]
 refine AY (fun h=>(Vi h).symm) (fun h=>?_)
 rw[show Int.ofNat s.size=(s.size:Int)from rfl,wrap64 (by omega) (by omega)]
 refine AF (by simp;omega) ⟨h1,h,?_⟩
 rw[TF]
theorem Dr.sub {P:Program} {laid:List (Nat × List Value)} {f:FuncId} {F G:Ci} (h:Dr P laid f G) (hs:∀args H r,F args H=some r→G args H=some r):Dr P laid f F:=
 ⟨h.1,fun base W0 μ H W args args' v H' hW hH hl ha hF=>h.2 base W0 μ H W args args' v H' hW hH hl ha (hs _ _ _ hF)⟩
noncomputable def cu (args:List Value) (objs:List AJ):GT:=match args,objs with
 | [.string s],[]=> .ret ⟨M7 s,[],[]⟩
 | _,_=> .fail
noncomputable def aB:Ci:=fun args H=>match args with
 | [.string s]=>some (M7 s,H)
 | _=>none
theorem XV (args:List Value) (H:AA) (r:Value × AA) (h:aB args H=some r):Ay Bs 20 [] cu args H=some r:=by
 unfold aB at h
 split at h
 ·rename_i s
  cases h
  rfl
 ·cases h
theorem Xx {f:FuncId} {n:Nat} (he:entry Tryz.prog f=some (n,BH Tryz.prog f [])) (hn:1≤n) (hE:∀s,Ai X0 20 f (fun v _=>v=M7 s) (st f n [.string s] GD)):Dr Tryz.prog Bs f aB:=
 Dr.sub (QI (fs:=[]) (Au.nil _ _) (by kernel_rfl) (n:=n) (N:=20) (muts:=[]) (G:=cu) he rfl fun argsc objs x hx _=>by
  unfold cu at hx
  split at hx
  ·rename_i s _
   simp only[GT.run]at hx
   cases hx
   refine⟨by simpa using hn,Ai.mono (hE s) fun v H h=>?_⟩
   subst h
   exact Gl (by rfl)
  ·cases hx) XV
theorem YG:Dr Tryz.prog Bs B6 aB:=Xx (n:=15) (by kernel_rfl) (by omega) XL
end Go.AD

set_option maxRecDepth 1000000
namespace Go.AD
open Go.Proofs
structure Ct where
 ok:List Value→Prop
 v:List Value→Value
open Classical in
noncomputable def Ct.F (q:Ct):Ci:=fun args H=>if q.ok args then some (q.v args,H)else none
noncomputable def Ct.p (q:Ct):GP:=fun args H K=>q.ok args∧K (q.v args) H
theorem Ct.aG {q:Ct} {X:Ctx} {f:FuncId} (hX:X.GC f=some q.F) (args:List Value) (H:AA) (K:Value→AA→Prop) (h:q.p args H K):∃v H',B5 X f args .normal H=some (v,H')∧K v H':=by
 refine⟨q.v args,H,?_,h.2⟩
 unfold B5
 simp only[hX]
 unfold Ct.F
 exact if_pos h.1
theorem VD {fs:List (FuncId × Ci)} (hfs:Au Tryz.prog Bs fs) {f:FuncId} {n:Nat} (he:entry Tryz.prog f=some (n,BH Tryz.prog f [])) {q:Ct}
 (hF:∀args,q.ok args→args.all flat=true∧args.length≤n∧flat (q.v args)=true∧Ai (Cf Tryz.prog Bs fs) 20 f (fun v' _=>v'=q.v args) (st f n args GD)):Dr Tryz.prog Bs f q.F:=by
 refine⟨⟨n,_,he⟩,?_⟩
 intro base W0 μ H W args args' v H' hW hH hl ha hFv
 unfold Ct.F at hFv
 split at hFv
 ·rename_i hq
  cases hFv
  obtain⟨h1,h2,h3,h4⟩:=hF args hq
  have hW1:DX (Cf Tryz.prog Bs fs) (base.at W) W:=by
   have:=hW.carry hH
   unfold DX at this ⊢
   exact this
  obtain⟨s1,s2⟩:=Mj (X:=Cf Tryz.prog Bs fs) hW1 (none_le _) (fun _ hi=>hi) (n:=20) (Mk (by kernel_rfl))
  have s3:=s1.sub (H':=GD) (fun b o e=>by cases e) (G7 _ _).symm
  have hargs:args'.toList=args:=Gw args _ h1 ha
  intro cs
  obtain⟨c',⟨v2,Hf,hd,rfl⟩,μ1,fr1,cs1,W1,st,m1⟩:=h4 (base.at W) W (fun b T hb=>by cases hb) (hfs.GC _ _ hW1) (FZ (by kernel_rfl) rfl) cs _ _ [] W (Fb s3 s2 he (by rw[hargs];exact D3 args h1) h2)
  obtain⟨rfl,hf,v',e1,e2,e3⟩:=Gp m1 hd
  have hs':Steps (Cf Tryz.prog Bs fs).P (lone (Frame.enter (Cf Tryz.prog Bs fs).P f args' .normal) cs W) (lone fr1 cs W1):=by simpa using st
  refine⟨.returned v',W1,fr1,⟨v',μ,rfl,hH.carry (FP e2) e2.below e2.out e2.os,?_,Af.refl _ _⟩,hs',hf,e1⟩
  rw[Eu h3 e3];exact Ce h3
 ·cases hFv
theorem Sc {f:FuncId} {n:Nat} (he:entry Tryz.prog f=some (n,BH Tryz.prog f [])) {q:Ct}
 (hF:∀args,q.ok args→args.all flat=true∧args.length≤n∧flat (q.v args)=true∧∃fs,Au Tryz.prog Bs fs∧Ai (Cf Tryz.prog Bs fs) 20 f (fun v' _=>v'=q.v args) (st f n args GD)):Dr Tryz.prog Bs f q.F:=by
 refine⟨⟨n,_,he⟩,?_⟩
 intro base W0 μ H W args args' v H' hW hH hl ha hFv
 unfold Ct.F at hFv
 split at hFv
 ·rename_i hq
  cases hFv
  obtain⟨h1,h2,h3,fs,hfs,h4⟩:=hF args hq
  have hW1:DX (Cf Tryz.prog Bs fs) (base.at W) W:=by
   have:=hW.carry hH
   unfold DX at this ⊢
   exact this
  obtain⟨s1,s2⟩:=Mj (X:=Cf Tryz.prog Bs fs) hW1 (none_le _) (fun _ hi=>hi) (n:=20) (Mk (by kernel_rfl))
  have s3:=s1.sub (H':=GD) (fun b o e=>by cases e) (G7 _ _).symm
  have hargs:args'.toList=args:=Gw args _ h1 ha
  intro cs
  obtain⟨c',⟨v2,Hf,hd,rfl⟩,μ1,fr1,cs1,W1,st,m1⟩:=h4 (base.at W) W (fun b T hb=>by cases hb) (hfs.GC _ _ hW1) (FZ (by kernel_rfl) rfl) cs _ _ [] W (Fb s3 s2 he (by rw[hargs];exact D3 args h1) h2)
  obtain⟨rfl,hf,v',e1,e2,e3⟩:=Gp m1 hd
  have hs':Steps (Cf Tryz.prog Bs fs).P (lone (Frame.enter (Cf Tryz.prog Bs fs).P f args' .normal) cs W) (lone fr1 cs W1):=by simpa using st
  refine⟨.returned v',W1,fr1,⟨v',μ,rfl,hH.carry (FP e2) e2.below e2.out e2.os,?_,Af.refl _ _⟩,hs',hf,e1⟩
  rw[Eu h3 e3];exact Ce h3
 ·cases hFv
end Go.AD

set_option maxRecDepth 1000000
namespace Go.AD
open Go.Proofs
def nm (i:Nat):ByteArray:=⟨(([[97],[98],[99],[97,98],[107,49],[49,50,51,52,53,54,55,56,57]]:List (List UInt8)).getD i []).toArray⟩
def Jc (s:ByteArray):Prop:=s=⟨#[97]⟩∨s=⟨#[98]⟩∨s=⟨#[99]⟩∨s=⟨#[97,98]⟩∨s=⟨#[107,49]⟩∨s=⟨#[49,50,51,52,53,54,55,56,57]⟩
noncomputable def WH:Ct where
 ok:=fun args=>match args with
  | [.string s]=>Jc s
  | _=>False
 v:=fun _=> .int .i64 0
noncomputable def a8:GP:=fun args H K=>match args with
 | [.string s]=>Jc s∧K (.int .i64 0) H
 | _=>False
noncomputable def Qy:Ci:=fun args H=>match args with
 | [.string s]=>if s.size≤512 then some (.tuple ⟨[.string (Lm s),.int .i64 0]⟩,H)else none
 | _=>none
noncomputable def WU:GP:=fun args H K=>match args with
 | [.string s]=>s.size≤512∧K (.tuple ⟨[.string (Lm s),.int .i64 0]⟩) H
 | _=>False
noncomputable abbrev du:List (FuncId × Ci):=[(BY,WH.F),(B6,Qy)]
noncomputable def RF:Ctx:=Cf Tryz.prog AM du
noncomputable def JW:Pf:=fun g=>bif Nat.beq g BY then some a8 else(fun g=>bif Nat.beq g B6 then some WU else Cp g) g
noncomputable def Ei (k a b:Int) (key val:ByteArray):Value:= .agg ⟨[.int .i64 k,.int .i64 a,.int .i64 b,.string key,.string val]⟩
theorem dg (Q:Value→List (Option AJ)→Prop):VC X0 BY [] Q 6000 (st BY 20 [.string ⟨#[97]⟩] GD)=(
 (Q (.int .i64 0) [])):=by kernel_rfl
theorem dv (Q:Value→List (Option AJ)→Prop):VC X0 BY [] Q 6000 (st BY 20 [.string ⟨#[98]⟩] GD)=(
 (Q (.int .i64 0) [])):=by kernel_rfl
theorem dR (Q:Value→List (Option AJ)→Prop):VC X0 BY [] Q 6000 (st BY 20 [.string ⟨#[99]⟩] GD)=(
 (Q (.int .i64 0) [])):=by kernel_rfl
theorem eL (Q:Value→List (Option AJ)→Prop):VC X0 BY [] Q 6000 (st BY 20 [.string ⟨#[97,98]⟩] GD)=(
 (Q (.int .i64 0) [])):=by kernel_rfl
theorem db (Q:Value→List (Option AJ)→Prop):VC X0 BY [] Q 6000 (st BY 20 [.string ⟨#[107,49]⟩] GD)=(
 (Q (.int .i64 0) [])):=by kernel_rfl
theorem eU (Q:Value→List (Option AJ)→Prop):VC X0 BY [] Q 9000 (st BY 20 [.string ⟨#[49,50,51,52,53,54,55,56,57]⟩] GD)=(
 (Q (.int .i64 0) [])):=by kernel_rfl
theorem cQ (Q:Value→List (Option AJ)→Prop):FD RF JW AW [] Q 2000 (st AW 11 [Ei 4 0 0 ByteArray.empty ByteArray.empty] GD)=(
 (((.agg ⟨[(.int .i64 4),(.int .i64 0),(.int .i64 0),(.string ({ data:=#[] })),(.string ({ data:=#[] }))]⟩):Value)=(.agg ⟨[(.int .i64 4),(.int .i64 0),(.int .i64 0),(.string ({ data:=#[] })),(.string ({ data:=#[] }))]⟩))∧(((.int .i64 4):Value)=(.int .i64 4))∧(((.pointer (some ⟨21,0,none⟩)):Value)=(.pointer (some ⟨21,0,none⟩)))∧(Q (.int .i64 0) [])):=by kernel_rfl
theorem bz (key:ByteArray) (Q:Value→List (Option AJ)→Prop):FD RF JW AW [] Q 2000 (st AW 11 [Ei 2 0 0 key ByteArray.empty] GD)=(
 (((.agg ⟨[(.int .i64 2),(.int .i64 0),(.int .i64 0),(.string ({ data:=#[] })),(.string ({ data:=#[] }))]⟩):Value)=(.agg ⟨[(.int .i64 2),(.int .i64 0),(.int .i64 0),(.string ({ data:=#[] })),(.string ({ data:=#[] }))]⟩))∧(((.int .i64 2):Value)=(.int .i64 2))∧(((.pointer (some ⟨21,0,none⟩)):Value)=(.pointer (some ⟨21,0,none⟩)))∧(bif Nat.ble (ByteArray.size { data:=#[32] }+ByteArray.size key) 9223372036854775807 then(Jc key)∧(((.agg ⟨[(.int .i64 2),(.int .i64 0),(.int .i64 0),(.string key),(.string ({ data:=#[] }))]⟩):Value)=(.agg ⟨[(.int .i64 2),(.int .i64 0),(.int .i64 0),(.string key),(.string ({ data:=#[] }))]⟩))∧(((.string key):Value)=(.string key))∧(((.pointer (some ⟨26,3,none⟩)):Value)=(.pointer (some ⟨26,3,none⟩)))∧(((.int .i64 2):Value)=(.int .i64 2))∧(((.pointer (some ⟨26,0,none⟩)):Value)=(.pointer (some ⟨26,0,none⟩)))∧(bif Nat.ble (ByteArray.size { data:=#[32] }+ByteArray.size key) 9223372036854775807 then(((.string ({ data:=#[32] }++key)):Value)=(.string ({ data:=#[32] }++key)))∧(((.string key):Value)=(.string key))∧(((.pointer (some ⟨26,3,none⟩)):Value)=(.pointer (some ⟨26,3,none⟩)))∧(((.bool (0==0)):Value)=(.bool true))∧(((.agg ⟨[(.int .i64 2),(.int .i64 0),(.int .i64 0),(.string key),(.string ({ data:=#[] }))]⟩):Value)=(.agg ⟨[(.int .i64 2),(.int .i64 0),(.int .i64 0),(.string key),(.string ({ data:=#[] }))]⟩))∧(((.string key):Value)=(.string key))∧(((.pointer (some ⟨26,3,none⟩)):Value)=(.pointer (some ⟨26,3,none⟩)))∧(((.int .i64 2):Value)=(.int .i64 2))∧(((.pointer (some ⟨26,0,none⟩)):Value)=(.pointer (some ⟨26,0,none⟩)))∧(((.bool (0==0)):Value)=(.bool true))∧(bif !(2==2&&(0==0&&(0==0&&(ByteArray.toList key==ByteArray.toList key&&(ByteArray.toList { data:=#[] }==ByteArray.toList ByteArray.empty&&true)))))then(Q (.int .i64 2) [])else(bif Nat.ble (ByteArray.size { data:=#[103,101,116] }+ByteArray.size ({ data:=#[32] }++key)) 9223372036854775807 then(Q (.int .i64 0) [])else False))else False)else False)):=by kernel_rfl
theorem cv (key:ByteArray) (Q:Value→List (Option AJ)→Prop):FD RF JW AW [] Q 2000 (st AW 11 [Ei 3 0 0 key ByteArray.empty] GD)=(
 (((.agg ⟨[(.int .i64 3),(.int .i64 0),(.int .i64 0),(.string ({ data:=#[] })),(.string ({ data:=#[] }))]⟩):Value)=(.agg ⟨[(.int .i64 3),(.int .i64 0),(.int .i64 0),(.string ({ data:=#[] })),(.string ({ data:=#[] }))]⟩))∧(((.int .i64 3):Value)=(.int .i64 3))∧(((.pointer (some ⟨21,0,none⟩)):Value)=(.pointer (some ⟨21,0,none⟩)))∧(bif Nat.ble (ByteArray.size { data:=#[32] }+ByteArray.size key) 9223372036854775807 then(Jc key)∧(((.agg ⟨[(.int .i64 3),(.int .i64 0),(.int .i64 0),(.string key),(.string ({ data:=#[] }))]⟩):Value)=(.agg ⟨[(.int .i64 3),(.int .i64 0),(.int .i64 0),(.string key),(.string ({ data:=#[] }))]⟩))∧(((.string key):Value)=(.string key))∧(((.pointer (some ⟨26,3,none⟩)):Value)=(.pointer (some ⟨26,3,none⟩)))∧(((.int .i64 3):Value)=(.int .i64 3))∧(((.pointer (some ⟨26,0,none⟩)):Value)=(.pointer (some ⟨26,0,none⟩)))∧(bif Nat.ble (ByteArray.size { data:=#[32] }+ByteArray.size key) 9223372036854775807 then(((.string ({ data:=#[32] }++key)):Value)=(.string ({ data:=#[32] }++key)))∧(((.string key):Value)=(.string key))∧(((.pointer (some ⟨26,3,none⟩)):Value)=(.pointer (some ⟨26,3,none⟩)))∧(((.bool (0==0)):Value)=(.bool true))∧(((.agg ⟨[(.int .i64 3),(.int .i64 0),(.int .i64 0),(.string key),(.string ({ data:=#[] }))]⟩):Value)=(.agg ⟨[(.int .i64 3),(.int .i64 0),(.int .i64 0),(.string key),(.string ({ data:=#[] }))]⟩))∧(((.string key):Value)=(.string key))∧(((.pointer (some ⟨26,3,none⟩)):Value)=(.pointer (some ⟨26,3,none⟩)))∧(((.int .i64 3):Value)=(.int .i64 3))∧(((.pointer (some ⟨26,0,none⟩)):Value)=(.pointer (some ⟨26,0,none⟩)))∧(((.bool (0==0)):Value)=(.bool true))∧(bif !(3==3&&(0==0&&(0==0&&(ByteArray.toList key==ByteArray.toList key&&(ByteArray.toList { data:=#[] }==ByteArray.toList ByteArray.empty&&true)))))then(Q (.int .i64 2) [])else(bif Nat.ble (ByteArray.size { data:=#[100,101,108,101,116,101] }+ByteArray.size ({ data:=#[32] }++key)) 9223372036854775807 then(Q (.int .i64 0) [])else False))else False)else False)):=by kernel_rfl
theorem cB (key val:ByteArray) (Q:Value→List (Option AJ)→Prop):FD RF JW AW [] Q 2000 (st AW 11 [Ei 1 0 0 key val] GD)=(
 (((.agg ⟨[(.int .i64 1),(.int .i64 0),(.int .i64 0),(.string ({ data:=#[] })),(.string ({ data:=#[] }))]⟩):Value)=(.agg ⟨[(.int .i64 1),(.int .i64 0),(.int .i64 0),(.string ({ data:=#[] })),(.string ({ data:=#[] }))]⟩))∧(((.int .i64 1):Value)=(.int .i64 1))∧(((.pointer (some ⟨21,0,none⟩)):Value)=(.pointer (some ⟨21,0,none⟩)))∧(bif Nat.ble (ByteArray.size { data:=#[32] }+ByteArray.size key) 9223372036854775807 then(Jc key)∧(((.agg ⟨[(.int .i64 1),(.int .i64 0),(.int .i64 0),(.string key),(.string ({ data:=#[] }))]⟩):Value)=(.agg ⟨[(.int .i64 1),(.int .i64 0),(.int .i64 0),(.string key),(.string ({ data:=#[] }))]⟩))∧(((.string key):Value)=(.string key))∧(((.pointer (some ⟨28,3,none⟩)):Value)=(.pointer (some ⟨28,3,none⟩)))∧(((.int .i64 1):Value)=(.int .i64 1))∧(((.pointer (some ⟨28,0,none⟩)):Value)=(.pointer (some ⟨28,0,none⟩)))∧(bif Nat.ble (ByteArray.size { data:=#[32] }+ByteArray.size key) 9223372036854775807 then(((.string ({ data:=#[32] }++key)):Value)=(.string ({ data:=#[32] }++key)))∧(((.string key):Value)=(.string key))∧(((.pointer (some ⟨28,3,none⟩)):Value)=(.pointer (some ⟨28,3,none⟩)))∧(((.bool (0==0)):Value)=(.bool true))∧(((.agg ⟨[(.int .i64 1),(.int .i64 0),(.int .i64 0),(.string key),(.string ({ data:=#[] }))]⟩):Value)=(.agg ⟨[(.int .i64 1),(.int .i64 0),(.int .i64 0),(.string key),(.string ({ data:=#[] }))]⟩))∧(((.string key):Value)=(.string key))∧(((.pointer (some ⟨28,3,none⟩)):Value)=(.pointer (some ⟨28,3,none⟩)))∧(((.int .i64 1):Value)=(.int .i64 1))∧(((.pointer (some ⟨28,0,none⟩)):Value)=(.pointer (some ⟨28,0,none⟩)))∧(((.bool (0==0)):Value)=(.bool true))∧(ByteArray.size val≤512)∧(bif Nat.ble (ByteArray.size ({ data:=#[32] }++key)+ByteArray.size { data:=#[32] }) 9223372036854775807 then(bif Nat.ble (ByteArray.size ({ data:=#[32] }++key++{ data:=#[32] })+ByteArray.size (Lm val)) 9223372036854775807 then(((.bool true):Value)=(.bool true))∧(((.bool (0==0)):Value)=(.bool true))∧(((.int .i64 0):Value)=(.int .i64 0))∧(((.agg ⟨[(.int .i64 1),(.int .i64 0),(.int .i64 0),(.string key),(.string val)]⟩):Value)=(.agg ⟨[(.int .i64 1),(.int .i64 0),(.int .i64 0),(.string key),(.string val)]⟩))∧(((.bool true):Value)=(.bool true))∧(((.bool (0==0)):Value)=(.bool true))∧(((.int .i64 0):Value)=(.int .i64 0))∧(bif !(1==1&&(0==0&&(0==0&&(ByteArray.toList key==ByteArray.toList key&&(ByteArray.toList val==ByteArray.toList val&&true)))))then(Q (.int .i64 2) [])else(bif Nat.ble (ByteArray.size { data:=#[112,117,116] }+ByteArray.size ({ data:=#[32] }++key++{ data:=#[32] }++Lm val)) 9223372036854775807 then(Q (.int .i64 0) [])else False))else False)else False)else False)else False)):=by kernel_rfl
theorem cw (Q:Value→List (Option AJ)→Prop):FD RF JW AW [] Q 2000 (st AW 11 [Ei 5 0 0 ByteArray.empty ByteArray.empty] GD)=(
 (((.agg ⟨[(.int .i64 5),(.int .i64 0),(.int .i64 0),(.string ({ data:=#[] })),(.string ({ data:=#[] }))]⟩):Value)=(.agg ⟨[(.int .i64 5),(.int .i64 0),(.int .i64 0),(.string ({ data:=#[] })),(.string ({ data:=#[] }))]⟩))∧(((.int .i64 5):Value)=(.int .i64 5))∧(((.pointer (some ⟨21,0,none⟩)):Value)=(.pointer (some ⟨21,0,none⟩)))∧(Q (.int .i64 0) [])):=by kernel_rfl
theorem bI (Q:Value→List (Option AJ)→Prop):FD RF JW AW [] Q 2000 (st AW 11 [Ei 8 0 0 ByteArray.empty ByteArray.empty] GD)=(
 (((.agg ⟨[(.int .i64 8),(.int .i64 0),(.int .i64 0),(.string ({ data:=#[] })),(.string ({ data:=#[] }))]⟩):Value)=(.agg ⟨[(.int .i64 8),(.int .i64 0),(.int .i64 0),(.string ({ data:=#[] })),(.string ({ data:=#[] }))]⟩))∧(((.int .i64 8):Value)=(.int .i64 8))∧(((.pointer (some ⟨21,0,none⟩)):Value)=(.pointer (some ⟨21,0,none⟩)))∧(Q (.int .i64 0) [])):=by kernel_rfl
theorem Yd (Q:Value→List (Option AJ)→Prop):VC X0 AW [] Q 20000 (st AW 11 [Ei 7 0 0 ByteArray.empty ⟨#[48]⟩] GD)=(
 (((.agg ⟨[(.int .i64 7),(.int .i64 0),(.int .i64 0),(.string ({ data:=#[] })),(.string ({ data:=#[] }))]⟩):Value)=(.agg ⟨[(.int .i64 7),(.int .i64 0),(.int .i64 0),(.string ({ data:=#[] })),(.string ({ data:=#[] }))]⟩))∧(((.int .i64 7):Value)=(.int .i64 7))∧(((.pointer (some ⟨21,0,none⟩)):Value)=(.pointer (some ⟨21,0,none⟩)))∧(((.string ({ data:=#[48] })):Value)=(.string ({ data:=#[48] })))∧(((.pointer (some ⟨26,4,none⟩)):Value)=(.pointer (some ⟨26,4,none⟩)))∧(((.string ({ data:=#[110] })):Value)=(.string ({ data:=#[110] })))∧(((.pointer (some ⟨28,0,none⟩)):Value)=(.pointer (some ⟨28,0,none⟩)))∧(((.int .i64 0):Value)=(.int .i64 0))∧(((.int .i64 0):Value)=(.int .i64 0))∧(((.pointer (some ⟨26,2,none⟩)):Value)=(.pointer (some ⟨26,2,none⟩)))∧(((.bool (ByteArray.toList (ByteArray.extract (ByteArray.extract (ByteArray.extract { data:=#[48,49,50,51,52,53,54,55,56,57,97,98,99,100,101,102,103,104,105,106,107,108,109,110,111,112,113,114,115,116,117,118,119,120,121,122] } 0 1++{ data:=#[32] }++{ data:=#[110] }++{ data:=#[32] }++{ data:=#[48] }) 2 5) 0 1)==ByteArray.toList { data:=#[121] })):Value)=(.bool false))∧(((.string (ByteArray.extract (ByteArray.extract (ByteArray.extract { data:=#[48,49,50,51,52,53,54,55,56,57,97,98,99,100,101,102,103,104,105,106,107,108,109,110,111,112,113,114,115,116,117,118,119,120,121,122] } 0 1++{ data:=#[32] }++{ data:=#[110] }++{ data:=#[32] }++{ data:=#[48] }) 2 5) 0 1)):Value)=(.string (ByteArray.extract (ByteArray.extract (ByteArray.extract { data:=#[48,49,50,51,52,53,54,55,56,57,97,98,99,100,101,102,103,104,105,106,107,108,109,110,111,112,113,114,115,116,117,118,119,120,121,122] } 0 1++{ data:=#[32] }++{ data:=#[110] }++{ data:=#[32] }++{ data:=#[48] }) 2 5) 0 1)))∧(((.pointer (some ⟨32,1,none⟩)):Value)=(.pointer (some ⟨32,1,none⟩)))∧(((.slice (some ⟨32,0,none⟩) 3 3):Value)=(.slice (some ⟨32,0,none⟩) 3 3))∧(((.slice none 0 0):Value)=(.slice none 0 0))∧(((.pointer (some ⟨33,2,none⟩)):Value)=(.pointer (some ⟨33,2,none⟩)))∧(((.bool (0==0)):Value)=(.bool true))∧(((.int .i64 0):Value)=(.int .i64 0))∧(((.agg ⟨[(.int .i64 7),(.int .i64 0),(.int .i64 0),(.string ({ data:=#[] })),(.string ({ data:=#[48] }))]⟩):Value)=(.agg ⟨[(.int .i64 7),(.int .i64 0),(.int .i64 0),(.string ({ data:=#[] })),(.string ({ data:=#[48] }))]⟩))∧(((.string ({ data:=#[48] })):Value)=(.string ({ data:=#[48] })))∧(((.pointer (some ⟨26,4,none⟩)):Value)=(.pointer (some ⟨26,4,none⟩)))∧(((.int .i64 0):Value)=(.int .i64 0))∧(((.int .i64 0):Value)=(.int .i64 0))∧(((.pointer (some ⟨26,2,none⟩)):Value)=(.pointer (some ⟨26,2,none⟩)))∧(((.int .i64 0):Value)=(.int .i64 0))∧(((.pointer (some ⟨26,1,none⟩)):Value)=(.pointer (some ⟨26,1,none⟩)))∧(((.int .i64 7):Value)=(.int .i64 7))∧(((.pointer (some ⟨26,0,none⟩)):Value)=(.pointer (some ⟨26,0,none⟩)))∧(((.bool (0==0)):Value)=(.bool true))∧(((.int .i64 0):Value)=(.int .i64 0))∧(Q (.int .i64 0) [])):=by kernel_rfl
theorem YI (Q:Value→List (Option AJ)→Prop):VC X0 AW [] Q 20000 (st AW 11 [Ei 7 5 0 ByteArray.empty ⟨#[48]⟩] GD)=(
 (((.agg ⟨[(.int .i64 7),(.int .i64 0),(.int .i64 0),(.string ({ data:=#[] })),(.string ({ data:=#[] }))]⟩):Value)=(.agg ⟨[(.int .i64 7),(.int .i64 0),(.int .i64 0),(.string ({ data:=#[] })),(.string ({ data:=#[] }))]⟩))∧(((.int .i64 7):Value)=(.int .i64 7))∧(((.pointer (some ⟨21,0,none⟩)):Value)=(.pointer (some ⟨21,0,none⟩)))∧(((.string ({ data:=#[48] })):Value)=(.string ({ data:=#[48] })))∧(((.pointer (some ⟨26,4,none⟩)):Value)=(.pointer (some ⟨26,4,none⟩)))∧(((.string ({ data:=#[110] })):Value)=(.string ({ data:=#[110] })))∧(((.pointer (some ⟨28,0,none⟩)):Value)=(.pointer (some ⟨28,0,none⟩)))∧(((.int .i64 0):Value)=(.int .i64 0))∧(((.int .i64 0):Value)=(.int .i64 0))∧(((.pointer (some ⟨26,2,none⟩)):Value)=(.pointer (some ⟨26,2,none⟩)))∧(((.bool (ByteArray.toList (ByteArray.extract (ByteArray.extract (ByteArray.extract { data:=#[48,49,50,51,52,53,54,55,56,57,97,98,99,100,101,102,103,104,105,106,107,108,109,110,111,112,113,114,115,116,117,118,119,120,121,122] } 5 6++{ data:=#[32] }++{ data:=#[110] }++{ data:=#[32] }++{ data:=#[48] }) 2 5) 0 1)==ByteArray.toList { data:=#[121] })):Value)=(.bool false))∧(((.string (ByteArray.extract (ByteArray.extract (ByteArray.extract { data:=#[48,49,50,51,52,53,54,55,56,57,97,98,99,100,101,102,103,104,105,106,107,108,109,110,111,112,113,114,115,116,117,118,119,120,121,122] } 5 6++{ data:=#[32] }++{ data:=#[110] }++{ data:=#[32] }++{ data:=#[48] }) 2 5) 0 1)):Value)=(.string (ByteArray.extract (ByteArray.extract (ByteArray.extract { data:=#[48,49,50,51,52,53,54,55,56,57,97,98,99,100,101,102,103,104,105,106,107,108,109,110,111,112,113,114,115,116,117,118,119,120,121,122] } 5 6++{ data:=#[32] }++{ data:=#[110] }++{ data:=#[32] }++{ data:=#[48] }) 2 5) 0 1)))∧(((.pointer (some ⟨32,1,none⟩)):Value)=(.pointer (some ⟨32,1,none⟩)))∧(((.slice (some ⟨32,0,none⟩) 3 3):Value)=(.slice (some ⟨32,0,none⟩) 3 3))∧(((.slice none 0 0):Value)=(.slice none 0 0))∧(((.pointer (some ⟨33,2,none⟩)):Value)=(.pointer (some ⟨33,2,none⟩)))∧(((.bool (0==0)):Value)=(.bool true))∧(((.int .i64 0):Value)=(.int .i64 0))∧(((.agg ⟨[(.int .i64 7),(.int .i64 5),(.int .i64 0),(.string ({ data:=#[] })),(.string ({ data:=#[48] }))]⟩):Value)=(.agg ⟨[(.int .i64 7),(.int .i64 5),(.int .i64 0),(.string ({ data:=#[] })),(.string ({ data:=#[48] }))]⟩))∧(((.string ({ data:=#[48] })):Value)=(.string ({ data:=#[48] })))∧(((.pointer (some ⟨26,4,none⟩)):Value)=(.pointer (some ⟨26,4,none⟩)))∧(((.int .i64 0):Value)=(.int .i64 0))∧(((.int .i64 0):Value)=(.int .i64 0))∧(((.pointer (some ⟨26,2,none⟩)):Value)=(.pointer (some ⟨26,2,none⟩)))∧(((.int .i64 5):Value)=(.int .i64 5))∧(((.pointer (some ⟨26,1,none⟩)):Value)=(.pointer (some ⟨26,1,none⟩)))∧(((.int .i64 7):Value)=(.int .i64 7))∧(((.pointer (some ⟨26,0,none⟩)):Value)=(.pointer (some ⟨26,0,none⟩)))∧(((.bool (0==0)):Value)=(.bool true))∧(((.int .i64 0):Value)=(.int .i64 0))∧(Q (.int .i64 0) [])):=by kernel_rfl
theorem Y3 (Q:Value→List (Option AJ)→Prop):VC X0 AW [] Q 20000 (st AW 11 [Ei 7 0 0 ByteArray.empty ⟨#[48,44,55]⟩] GD)=(
 (((.agg ⟨[(.int .i64 7),(.int .i64 0),(.int .i64 0),(.string ({ data:=#[] })),(.string ({ data:=#[] }))]⟩):Value)=(.agg ⟨[(.int .i64 7),(.int .i64 0),(.int .i64 0),(.string ({ data:=#[] })),(.string ({ data:=#[] }))]⟩))∧(((.int .i64 7):Value)=(.int .i64 7))∧(((.pointer (some ⟨21,0,none⟩)):Value)=(.pointer (some ⟨21,0,none⟩)))∧(((.string ({ data:=#[48,44,55] })):Value)=(.string ({ data:=#[48,44,55] })))∧(((.pointer (some ⟨26,4,none⟩)):Value)=(.pointer (some ⟨26,4,none⟩)))∧(((.string ({ data:=#[110] })):Value)=(.string ({ data:=#[110] })))∧(((.pointer (some ⟨28,0,none⟩)):Value)=(.pointer (some ⟨28,0,none⟩)))∧(((.int .i64 0):Value)=(.int .i64 0))∧(((.int .i64 0):Value)=(.int .i64 0))∧(((.pointer (some ⟨26,2,none⟩)):Value)=(.pointer (some ⟨26,2,none⟩)))∧(((.bool (ByteArray.toList (ByteArray.extract (ByteArray.extract (ByteArray.extract { data:=#[48,49,50,51,52,53,54,55,56,57,97,98,99,100,101,102,103,104,105,106,107,108,109,110,111,112,113,114,115,116,117,118,119,120,121,122] } 0 1++{ data:=#[32] }++{ data:=#[110] }++{ data:=#[32] }++{ data:=#[48,44,55] }) 2 7) 0 1)==ByteArray.toList { data:=#[121] })):Value)=(.bool false))∧(((.string (ByteArray.extract (ByteArray.extract (ByteArray.extract { data:=#[48,49,50,51,52,53,54,55,56,57,97,98,99,100,101,102,103,104,105,106,107,108,109,110,111,112,113,114,115,116,117,118,119,120,121,122] } 0 1++{ data:=#[32] }++{ data:=#[110] }++{ data:=#[32] }++{ data:=#[48,44,55] }) 2 7) 0 1)):Value)=(.string (ByteArray.extract (ByteArray.extract (ByteArray.extract { data:=#[48,49,50,51,52,53,54,55,56,57,97,98,99,100,101,102,103,104,105,106,107,108,109,110,111,112,113,114,115,116,117,118,119,120,121,122] } 0 1++{ data:=#[32] }++{ data:=#[110] }++{ data:=#[32] }++{ data:=#[48,44,55] }) 2 7) 0 1)))∧(((.pointer (some ⟨32,1,none⟩)):Value)=(.pointer (some ⟨32,1,none⟩)))∧(((.slice (some ⟨32,0,none⟩) 3 3):Value)=(.slice (some ⟨32,0,none⟩) 3 3))∧(((.slice none 0 0):Value)=(.slice none 0 0))∧(((.pointer (some ⟨33,2,none⟩)):Value)=(.pointer (some ⟨33,2,none⟩)))∧(((.slice (some ⟨42,0,none⟩) 1 18446744073709551617):Value)=(.slice (some ⟨42,0,none⟩) 1 18446744073709551617))∧(((.pointer (some ⟨33,2,none⟩)):Value)=(.pointer (some ⟨33,2,none⟩)))∧(((.bool (0==0)):Value)=(.bool true))∧(((.int .i64 0):Value)=(.int .i64 0))∧(((.agg ⟨[(.int .i64 7),(.int .i64 0),(.int .i64 0),(.string ({ data:=#[] })),(.string ({ data:=#[48,44,55] }))]⟩):Value)=(.agg ⟨[(.int .i64 7),(.int .i64 0),(.int .i64 0),(.string ({ data:=#[] })),(.string ({ data:=#[48,44,55] }))]⟩))∧(((.string ({ data:=#[48,44,55] })):Value)=(.string ({ data:=#[48,44,55] })))∧(((.pointer (some ⟨26,4,none⟩)):Value)=(.pointer (some ⟨26,4,none⟩)))∧(((.int .i64 0):Value)=(.int .i64 0))∧(((.int .i64 0):Value)=(.int .i64 0))∧(((.pointer (some ⟨26,2,none⟩)):Value)=(.pointer (some ⟨26,2,none⟩)))∧(((.int .i64 0):Value)=(.int .i64 0))∧(((.pointer (some ⟨26,1,none⟩)):Value)=(.pointer (some ⟨26,1,none⟩)))∧(((.int .i64 7):Value)=(.int .i64 7))∧(((.pointer (some ⟨26,0,none⟩)):Value)=(.pointer (some ⟨26,0,none⟩)))∧(((.bool (0==0)):Value)=(.bool true))∧(((.int .i64 0):Value)=(.int .i64 0))∧(Q (.int .i64 0) [])):=by kernel_rfl
theorem Y6 (Q:Value→List (Option AJ)→Prop):VC X0 AW [] Q 20000 (st AW 11 [Ei 7 9 0 ByteArray.empty ⟨#[48,44,55]⟩] GD)=(
 (((.agg ⟨[(.int .i64 7),(.int .i64 0),(.int .i64 0),(.string ({ data:=#[] })),(.string ({ data:=#[] }))]⟩):Value)=(.agg ⟨[(.int .i64 7),(.int .i64 0),(.int .i64 0),(.string ({ data:=#[] })),(.string ({ data:=#[] }))]⟩))∧(((.int .i64 7):Value)=(.int .i64 7))∧(((.pointer (some ⟨21,0,none⟩)):Value)=(.pointer (some ⟨21,0,none⟩)))∧(((.string ({ data:=#[48,44,55] })):Value)=(.string ({ data:=#[48,44,55] })))∧(((.pointer (some ⟨26,4,none⟩)):Value)=(.pointer (some ⟨26,4,none⟩)))∧(((.string ({ data:=#[110] })):Value)=(.string ({ data:=#[110] })))∧(((.pointer (some ⟨28,0,none⟩)):Value)=(.pointer (some ⟨28,0,none⟩)))∧(((.int .i64 0):Value)=(.int .i64 0))∧(((.int .i64 0):Value)=(.int .i64 0))∧(((.pointer (some ⟨26,2,none⟩)):Value)=(.pointer (some ⟨26,2,none⟩)))∧(((.bool (ByteArray.toList (ByteArray.extract (ByteArray.extract (ByteArray.extract { data:=#[48,49,50,51,52,53,54,55,56,57,97,98,99,100,101,102,103,104,105,106,107,108,109,110,111,112,113,114,115,116,117,118,119,120,121,122] } 9 10++{ data:=#[32] }++{ data:=#[110] }++{ data:=#[32] }++{ data:=#[48,44,55] }) 2 7) 0 1)==ByteArray.toList { data:=#[121] })):Value)=(.bool false))∧(((.string (ByteArray.extract (ByteArray.extract (ByteArray.extract { data:=#[48,49,50,51,52,53,54,55,56,57,97,98,99,100,101,102,103,104,105,106,107,108,109,110,111,112,113,114,115,116,117,118,119,120,121,122] } 9 10++{ data:=#[32] }++{ data:=#[110] }++{ data:=#[32] }++{ data:=#[48,44,55] }) 2 7) 0 1)):Value)=(.string (ByteArray.extract (ByteArray.extract (ByteArray.extract { data:=#[48,49,50,51,52,53,54,55,56,57,97,98,99,100,101,102,103,104,105,106,107,108,109,110,111,112,113,114,115,116,117,118,119,120,121,122] } 9 10++{ data:=#[32] }++{ data:=#[110] }++{ data:=#[32] }++{ data:=#[48,44,55] }) 2 7) 0 1)))∧(((.pointer (some ⟨32,1,none⟩)):Value)=(.pointer (some ⟨32,1,none⟩)))∧(((.slice (some ⟨32,0,none⟩) 3 3):Value)=(.slice (some ⟨32,0,none⟩) 3 3))∧(((.slice none 0 0):Value)=(.slice none 0 0))∧(((.pointer (some ⟨33,2,none⟩)):Value)=(.pointer (some ⟨33,2,none⟩)))∧(((.slice (some ⟨42,0,none⟩) 1 18446744073709551617):Value)=(.slice (some ⟨42,0,none⟩) 1 18446744073709551617))∧(((.pointer (some ⟨33,2,none⟩)):Value)=(.pointer (some ⟨33,2,none⟩)))∧(((.bool (0==0)):Value)=(.bool true))∧(((.int .i64 0):Value)=(.int .i64 0))∧(((.agg ⟨[(.int .i64 7),(.int .i64 9),(.int .i64 0),(.string ({ data:=#[] })),(.string ({ data:=#[48,44,55] }))]⟩):Value)=(.agg ⟨[(.int .i64 7),(.int .i64 9),(.int .i64 0),(.string ({ data:=#[] })),(.string ({ data:=#[48,44,55] }))]⟩))∧(((.string ({ data:=#[48,44,55] })):Value)=(.string ({ data:=#[48,44,55] })))∧(((.pointer (some ⟨26,4,none⟩)):Value)=(.pointer (some ⟨26,4,none⟩)))∧(((.int .i64 0):Value)=(.int .i64 0))∧(((.int .i64 0):Value)=(.int .i64 0))∧(((.pointer (some ⟨26,2,none⟩)):Value)=(.pointer (some ⟨26,2,none⟩)))∧(((.int .i64 9):Value)=(.int .i64 9))∧(((.pointer (some ⟨26,1,none⟩)):Value)=(.pointer (some ⟨26,1,none⟩)))∧(((.int .i64 7):Value)=(.int .i64 7))∧(((.pointer (some ⟨26,0,none⟩)):Value)=(.pointer (some ⟨26,0,none⟩)))∧(((.bool (0==0)):Value)=(.bool true))∧(((.int .i64 0):Value)=(.int .i64 0))∧(Q (.int .i64 0) [])):=by kernel_rfl
end Go.AD

set_option maxRecDepth 100000
namespace Go.AD
theorem aJ (s:ByteArray):s.size=s.data.toList.length:=(Array.length_toList).symm
theorem Uy (s:ByteArray):(Lm s).size≤1024:=by
 unfold Lm
 split
 ·exact Nat.zero_le _
 ·split
  ·show 1≤1024;omega
  ·rw[aJ]
   unfold KK
   show((H0 (B8 s)).map fun n=>UInt8.ofNat n.toNat).length≤1024
   rw[List.length_map,HC,Cw];omega
end Go.AD

set_option maxRecDepth 1000000
namespace Go.AD
open Go.Proofs
theorem WD {s:ByteArray} (h:Jc s):Bc X0 BY (fun v' _=>v'= .int .i64 0) (st BY 20 [.string s] GD):=by
 rcases h with rfl | rfl | rfl | rfl | rfl | rfl
 ·refine M3 (ids:=[]) (Q:=fun v' _=>v'= .int .i64 0) 6000 _ ?_;rw[dg]
 ·refine M3 (ids:=[]) (Q:=fun v' _=>v'= .int .i64 0) 6000 _ ?_;rw[dv]
 ·refine M3 (ids:=[]) (Q:=fun v' _=>v'= .int .i64 0) 6000 _ ?_;rw[dR]
 ·refine M3 (ids:=[]) (Q:=fun v' _=>v'= .int .i64 0) 6000 _ ?_;rw[eL]
 ·refine M3 (ids:=[]) (Q:=fun v' _=>v'= .int .i64 0) 6000 _ ?_;rw[db]
 ·refine M3 (ids:=[]) (Q:=fun v' _=>v'= .int .i64 0) 9000 _ ?_;rw[eU]
theorem YB:Dr Tryz.prog Bs BY WH.F:=by
 refine VD (fs:=[]) (Au.nil _ _) (n:=20) (by kernel_rfl) fun args h=>?_
 unfold WH at h
 simp only at h
 split at h
 ·exact⟨rfl,by simp,rfl,(WD h).GF⟩
 ·exact h.elim
theorem aA {X:Ctx} {f:FuncId} (hX:X.GC f=some WH.F) (args:List Value) (H:AA) (K:Value→AA→Prop) (h:a8 args H K):∃v H',B5 X f args .normal H=some (v,H')∧K v H':=by
 unfold a8 at h
 split at h
 ·rename_i s
  exact Ct.aG (q:=WH) hX _ H K ⟨h.1,h.2⟩
 ·exact h.elim
theorem Xw {X:Ctx} {f:FuncId} (hX:X.GC f=some Qy) (args:List Value) (H:AA) (K:Value→AA→Prop) (h:WU args H K):∃v H',B5 X f args .normal H=some (v,H')∧K v H':=by
 unfold WU at h
 split at h
 ·rename_i s
  refine⟨_,_,?_,h.2⟩
  unfold B5
  simp only[hX]
  unfold Qy
  exact if_pos h.1
 ·exact h.elim
theorem XT:Dr Tryz.prog Bs B6 Qy:=Dr.sub YG fun args H r h=>by
 unfold Qy at h
 split at h
 ·rename_i s
  split at h
  ·rename_i hs
   cases h
   have:Ss s=0:=by unfold Ss;rw[if_neg (by omega)]
   show some (Value.tuple ⟨[.string (Lm s),.int .i64 (Ss s)]⟩,H)=_
   rw[this]
  ·cases h
 ·cases h
theorem Yx:El RF JW:=An (aA (by kernel_rfl)) (An (Xw (by kernel_rfl)) (Ax _))
theorem Cq {α:Type} {l:List α} {i:Nat} {d:α} (h:i < l.length):l.getD (0+Int.toNat (i:Int)) d=l[i]:=by
 rw[Nat.zero_add,Int.toNat_natCast,List.getD_eq_getElem?_getD,List.getElem?_eq_getElem h];rfl
theorem fQ {n:Nat} (h:n≤9223372036854775807):Nat.ble n 9223372036854775807=true:=Nat.ble_eq_true_of_le h
theorem bh (l:List UInt8):ByteArray.size (ByteArray.mk l.toArray)=l.length:=rfl
theorem Oh {b:Bool} {A B:Prop} (h:b=true) (h1:B):(bif !b then A else B):=by rw[h];exact h1
theorem OK {s:ByteArray} (h:Jc s):s.size≤9:=by
 rcases h with rfl | rfl | rfl | rfl | rfl | rfl<;>decide
abbrev Ta:Value→List (Option AJ)→Prop:=fun v _=>v= .int .i64 0
theorem Nw {k a b:Int} {key val:ByteArray} (h:FD RF JW AW [] Ta 2000 (st AW 11 [Ei k a b key val] GD)):Ai RF 20 AW (fun v _=>v= .int .i64 0) (st AW 11 [Ei k a b key val] GD):=
 (B4 Yx (ids:=[]) (Q:=Ta) 2000 _ h).GF
theorem c8 {key val:ByteArray} (hk:Jc key) (hv:val.size≤512):FD RF JW AW [] Ta 2000 (st AW 11 [Ei 1 0 0 key val] GD):=by
 have h1:=OK hk
 have h2:=Uy val
 rw[cB]
 repeat first | exact rfl | refine⟨rfl,?_⟩ | refine⟨hk,?_⟩ | refine⟨hv,?_⟩ | refine AF (fQ (by simp only[ByteArray.size_append,bh,List.length_cons,List.length_nil];omega)) ?_ | refine Oh (by simp) ?_
theorem bq {key:ByteArray} (hk:Jc key):FD RF JW AW [] Ta 2000 (st AW 11 [Ei 2 0 0 key ByteArray.empty] GD):=by
 have h1:=OK hk
 rw[bz]
 repeat first | exact rfl | refine⟨rfl,?_⟩ | refine⟨hk,?_⟩ | refine AF (fQ (by simp only[ByteArray.size_append,bh,List.length_cons,List.length_nil];omega)) ?_ | refine Oh (by simp) ?_
theorem cm {key:ByteArray} (hk:Jc key):FD RF JW AW [] Ta 2000 (st AW 11 [Ei 3 0 0 key ByteArray.empty] GD):=by
 have h1:=OK hk
 rw[cv]
 repeat first | exact rfl | refine⟨rfl,?_⟩ | refine⟨hk,?_⟩ | refine AF (fQ (by simp only[ByteArray.size_append,bh,List.length_cons,List.length_nil];omega)) ?_ | refine Oh (by simp) ?_
theorem ZN:FD RF JW AW [] Ta 2000 (st AW 11 [Ei 4 0 0 ByteArray.empty ByteArray.empty] GD):=by
 rw[cQ];exact⟨rfl,rfl,rfl,rfl⟩
theorem Z8:FD RF JW AW [] Ta 2000 (st AW 11 [Ei 5 0 0 ByteArray.empty ByteArray.empty] GD):=by
 rw[cw];exact⟨rfl,rfl,rfl,rfl⟩
theorem VE:FD RF JW AW [] Ta 2000 (st AW 11 [Ei 8 0 0 ByteArray.empty ByteArray.empty] GD):=by
 rw[bI];exact⟨rfl,rfl,rfl,rfl⟩
inductive EO:Int→Int→Int→ByteArray→ByteArray→Prop where
 | put (key val:ByteArray) (h:Jc key) (hv:val.size≤512):EO 1 0 0 key val
 | get (key:ByteArray) (h:Jc key):EO 2 0 0 key ByteArray.empty
 | del (key:ByteArray) (h:Jc key):EO 3 0 0 key ByteArray.empty
 | sync:EO 4 0 0 ByteArray.empty ByteArray.empty
 | step:EO 5 0 0 ByteArray.empty ByteArray.empty
 | KZ:EO 8 0 0 ByteArray.empty ByteArray.empty
 | bw:EO 7 0 0 ByteArray.empty ⟨#[48]⟩
 | cO:EO 7 5 0 ByteArray.empty ⟨#[48]⟩
 | OL:EO 7 0 0 ByteArray.empty ⟨#[48,44,55]⟩
 | O7:EO 7 9 0 ByteArray.empty ⟨#[48,44,55]⟩
open Classical in
noncomputable def LI (k a b:Int) (key val:ByteArray):Int:=if EO k a b key val then 0 else 1
structure HW (k a b:Int) (key val:ByteArray):Prop where
 gd:EO k a b key val
theorem FM {k a b:Int} {key val:ByteArray} (h:EO k a b key val):LI k a b key val=0:=if_pos h
theorem EO.ok {k a b:Int} {key val:ByteArray} (h:EO k a b key val):HW k a b key val:=⟨h⟩
theorem JU {k a b:Int} {key val:ByteArray} (h:VC X0 AW [] Ta 20000 (st AW 11 [Ei k a b key val] GD)):Bc X0 AW (fun v _=>v= .int .i64 0) (st AW 11 [Ei k a b key val] GD):=
 M3 (ids:=[]) (Q:=Ta) 20000 _ h
theorem eE:VC X0 AW [] Ta 20000 (st AW 11 [Ei 7 0 0 ByteArray.empty ⟨#[48]⟩] GD):=by
 rw[Yd];repeat first | exact rfl | refine⟨rfl,?_⟩ | refine⟨by kernel_rfl,?_⟩
theorem eC:VC X0 AW [] Ta 20000 (st AW 11 [Ei 7 5 0 ByteArray.empty ⟨#[48]⟩] GD):=by
 rw[YI];repeat first | exact rfl | refine⟨rfl,?_⟩ | refine⟨by kernel_rfl,?_⟩
theorem cg:VC X0 AW [] Ta 20000 (st AW 11 [Ei 7 0 0 ByteArray.empty ⟨#[48,44,55]⟩] GD):=by
 rw[Y3];repeat first | exact rfl | refine⟨rfl,?_⟩ | refine⟨by kernel_rfl,?_⟩
theorem cA:VC X0 AW [] Ta 20000 (st AW 11 [Ei 7 9 0 ByteArray.empty ⟨#[48,44,55]⟩] GD):=by
 rw[Y6];repeat first | exact rfl | refine⟨rfl,?_⟩ | refine⟨by kernel_rfl,?_⟩
theorem Z6 {k a b:Int} {key val:ByteArray} (h:EO k a b key val):Ai RF 20 AW (fun v _=>v= .int .i64 0) (st AW 11 [Ei k a b key val] GD)∨Bc X0 AW (fun v _=>v= .int .i64 0) (st AW 11 [Ei k a b key val] GD):=by
 cases h with
 | put key val hk hv=>exact .inl (Nw (c8 hk (by omega)))
 | get key hk=>exact .inl (Nw (bq hk))
 | del key hk=>exact .inl (Nw (cm hk))
 | sync=>exact .inl (Nw ZN)
 | step=>exact .inl (Nw Z8)
 | KZ=>exact .inl (Nw VE)
 | bw=>exact .inr (JU eE)
 | cO=>exact .inr (JU eC)
 | OL=>exact .inr (JU cg)
 | O7=>exact .inr (JU cA)
noncomputable def RW:Ct where
 ok:=fun args=>match args with
  | [.agg ⟨[.int .i64 k,.int .i64 a,.int .i64 b,.string key,.string val]⟩]=>HW k a b key val
  | _=>False
 v:=fun args=>match args with
  | [.agg ⟨[.int .i64 k,.int .i64 a,.int .i64 b,.string key,.string val]⟩]=> .int .i64 (LI k a b key val)
  | _=>Be
noncomputable def YM:GP:=fun args H K=>match args with
 | [.agg ⟨[.int .i64 k,.int .i64 a,.int .i64 b,.string key,.string val]⟩]=>HW k a b key val∧K (.int .i64 (LI k a b key val)) H
 | _=>False
theorem Td {X:Ctx} {f:FuncId} (hX:X.GC f=some RW.F) (args:List Value) (H:AA) (K:Value→AA→Prop) (h:YM args H K):∃v H',B5 X f args .normal H=some (v,H')∧K v H':=by
 unfold YM at h
 split at h
 ·exact Ct.aG (q:=RW) hX _ H K ⟨h.1,h.2⟩
 ·exact h.elim
theorem TU:Dr Tryz.prog AM AW RW.F:=by
 refine Sc (n:=11) (by kernel_rfl) fun args h=>?_
 unfold RW at h
 simp only at h
 split at h
 ·rename_i k a b key val
  have he:RW.v [.agg ⟨[.int .i64 k,.int .i64 a,.int .i64 b,.string key,.string val]⟩]= .int .i64 0:=congrArg _ (FM h.gd)
  rw[he]
  refine⟨rfl,by simp,rfl,?_⟩
  rcases Z6 h.gd with h1 | h1
  ·exact⟨du,Au.cons YB (Au.cons XT (Au.nil _ _)),h1⟩
  ·exact⟨[],Au.nil _ _,h1.GF⟩
 ·exact h.elim
end Go.AD

set_option maxRecDepth 1000000
namespace Go.AD
open Go.Proofs
def gM (objs:List AJ):Option (AB × Nat × Nat):=match objs with
 | [.cells [.int .i64 c0,.int .i64 c1,.int .i64 c2,.int .i64 c3,.int .i64 c4,.int .i64 c5,.int .i64 c6,.int .i64 lim,.pointer (some ⟨10,0,none⟩),.pointer (some ⟨11,0,none⟩),.int .i64 cost,.slice (some ⟨12,0,some 0⟩) n cap,.pointer none,.int .i64 st,.bool pl] 0 _,
  .abs (.pack (.table b)) _,.abs (.pack (.table nw)) _,.vec [.bool,.str,.str] AG _]=>some (⟨[c0,c1,c2,c3,c4,c5,c6],lim,b,nw,cost,AG,st,pl⟩,n,cap)
 | _=>none
theorem aW {objs:List AJ} {m:AB} {n cap:Nat} (h:gM objs=some (m,n,cap)):∃r0 r1 r2 r3,objs=[.cells (BJ m 10 11 (.slice (some ⟨12,0,some 0⟩) n cap)) 0 r0,.abs (.pack (.table m.base)) r1,.abs (.pack (.table m.now)) r2,.vec Bn m.AG r3]:=by
 unfold gM at h
 split at h
 ·cases h;exact⟨_,_,_,_,rfl⟩
 ·cases h
noncomputable def J8 (g:AB→List Value→GT) (args:List Value) (objs:List AJ):GT:=
 match args with
 | .pointer (some ⟨9,0,none⟩)::rest=>match gM objs with
  | some (m,n,cap)=> .ask (n=m.AG.length∧cap=AE) (g m rest)
  | none=> .fail
 | _=> .fail
abbrev Jn:List Bool:=[false,true,true,false]
abbrev P7:List Bool:=[true,true,true,true]
noncomputable def dG (m:AB):List AJ:=[.cells (BJ m 10 11 (.slice (some ⟨12,0,some 0⟩) m.AG.length AE)) 0 true,.abs (.pack (.table m.base)) false,.abs (.pack (.table m.now)) false,.vec Bn m.AG true]
theorem QP {fs:List (FuncId × Ci)} (hfs:Au Tryz.prog AM fs) {f:FuncId} {n:Nat} (he:entry Tryz.prog f=some (n,BH Tryz.prog f [])) {g:AB→List Value→GT}
 (hrun:∀m rest x,(g m rest).run=some x→rest.length+1≤n∧At (Cf Tryz.prog AM fs) 13 (fun b=>9≤b∧b < 13) f (fun v H=>Ck AM 9 4 Jn x v H) (st f n (p9::rest) (BF ⟨.leaf,9⟩ (dG m)))):Dr Tryz.prog AM f (Ay AM 9 Jn (J8 g)):=by
 refine BZ hfs (by kernel_rfl) he (by kernel_rfl) fun argsc objs x hx hro=>?_
 unfold J8 at hx
 split at hx
 ·rename_i rest
  split at hx
  ·rename_i m k cap hg
   obtain⟨r0,r1,r2,r3,rfl⟩:=aW hg
   simp only[GT.run]at hx
   split at hx
   ·rename_i hok
    obtain⟨rfl,rfl⟩:=hok
    have e1:r1=false:=hro 1 _ rfl rfl
    have e2:r2=false:=hro 2 _ rfl rfl
    subst e1 e2
    obtain⟨g1,g2⟩:=hrun m rest x hx
    exact⟨by simpa using g1,g2⟩
   ·cases hx
  ·cases hx
 ·cases hx
theorem WY {fs:List (FuncId × Ci)} (hfs:Au Tryz.prog AM fs) {f:FuncId} {n:Nat} (he:entry Tryz.prog f=some (n,BH Tryz.prog f [])) {g:AB→List Value→GT}
 (hrun:∀m rest x,(g m rest).run=some x→rest.length+1≤n∧At (Cf Tryz.prog AM fs) 13 (fun b=>9≤b∧b < 13) f (fun v H=>Ck AM 9 4 P7 x v H) (st f n (p9::rest) (BF ⟨.leaf,9⟩ (LW m)))):Dr Tryz.prog AM f (Ay AM 9 P7 (J8 g)):=by
 refine BZ hfs (by kernel_rfl) he (by kernel_rfl) fun argsc objs x hx hro=>?_
 unfold J8 at hx
 split at hx
 ·rename_i rest
  split at hx
  ·rename_i m k cap hg
   obtain⟨r0,r1,r2,r3,rfl⟩:=aW hg
   simp only[GT.run]at hx
   split at hx
   ·rename_i hok
    obtain⟨rfl,rfl⟩:=hok
    have e0:r0=false:=hro 0 _ rfl rfl
    have e1:r1=false:=hro 1 _ rfl rfl
    have e2:r2=false:=hro 2 _ rfl rfl
    have e3:r3=false:=hro 3 _ rfl rfl
    subst e0 e1 e2 e3
    obtain⟨g1,g2⟩:=hrun m rest x hx
    exact⟨by simpa using g1,g2⟩
   ·cases hx
  ·cases hx
 ·cases hx
theorem On {v v1:Value} {H:AA} {m:AB} {news:List AJ} {ns:List Nat} (hb:H.get 10=some (Ch m.base)) (hn:H.get 11=some (Ch m.now)) (hns:ns.length=news.length) (hnd:ns.Nodup) (h13:∀b∈ns,13≤b)
 (hv:E9 (Ck.HX AM 9 4 ns) v=some v1) (hnew:∀(j b:Nat) (o:AJ),ns[j]? = some b→news[j]? = some o→∃o1,BN (Ck.HX AM 9 4 ns) o=some o1∧H.get b=some o1):
 Ck AM 9 4 Jn ⟨v,[none,some (Ch m.base),some (Ch m.now),none],news⟩ v1 H:=by
 refine⟨ns,hnd,h13,hns,hv,hnew,fun j o hj hm ho=>?_⟩
 cases j with
 | zero=>cases ho
 | succ j=>cases j with
  | zero=>cases ho;exact⟨_,rfl,hb⟩
  | succ j=>cases j with
   | zero=>cases ho;exact⟨_,rfl,hn⟩
   | succ j=>cases j with
    | zero=>cases ho
    | succ j=>omega
end Go.AD

set_option maxRecDepth 1000000
namespace Go.AD
open Go.Proofs
theorem Tp (m:AB) (del:Bool) (key val:ByteArray) (Q:Value→List (Option AJ)→Prop):FD XM Ws Bw [10,11] Q 500 (st Bw 40 [p9,.agg ⟨[.bool del,.string key,.string val]⟩] (BF ⟨.leaf,9⟩ (dG m)))=(
 (Aj.ok A4 (AB.now m) [Value.string key])∧(bif Option.isSome (DH (AB.now m) key)then(((.bool (Option.isSome (DH (AB.now m) key))):Value)=(.bool true))∧(bif del then(Q (.int .i64 (IntKind.wrap .i64 (AB.cost m - IntKind.wrap .i64 (IntKind.wrap .i64 (16+Int.ofNat (ByteArray.size key))+Int.ofNat (ByteArray.size (Option.getD (DH (AB.now m) key) { data:=#[] })))))) [some (.abs (AX.pack (Pk.table (AB.base m))) false),some (.abs (AX.pack (Pk.table (Aj.nx A4 (AB.now m) [Value.string key]))) false)])else(Q (.int .i64 (IntKind.wrap .i64 (IntKind.wrap .i64 (AB.cost m - IntKind.wrap .i64 (IntKind.wrap .i64 (16+Int.ofNat (ByteArray.size key))+Int.ofNat (ByteArray.size (Option.getD (DH (AB.now m) key) { data:=#[] }))))+IntKind.wrap .i64 (IntKind.wrap .i64 (16+Int.ofNat (ByteArray.size key))+Int.ofNat (ByteArray.size val))))) [some (.abs (AX.pack (Pk.table (AB.base m))) false),some (.abs (AX.pack (Pk.table (Aj.nx A4 (AB.now m) [Value.string key]))) false)]))else(((.bool (Option.isSome (DH (AB.now m) key))):Value)=(.bool false))∧(bif del then(Q (.int .i64 (AB.cost m)) [some (.abs (AX.pack (Pk.table (AB.base m))) false),some (.abs (AX.pack (Pk.table (Aj.nx A4 (AB.now m) [Value.string key]))) false)])else(Q (.int .i64 (IntKind.wrap .i64 (AB.cost m+IntKind.wrap .i64 (IntKind.wrap .i64 (16+Int.ofNat (ByteArray.size key))+Int.ofNat (ByteArray.size val))))) [some (.abs (AX.pack (Pk.table (AB.base m))) false),some (.abs (AX.pack (Pk.table (Aj.nx A4 (AB.now m) [Value.string key]))) false)])))):=by kernel_rfl
end Go.AD

set_option maxRecDepth 1000000
namespace Go.AD
open Go.Proofs
noncomputable def Oa (m:AB) (rest:List Value):GT:=
 match rest with
 | [.agg ⟨[.bool del,.string key,.string val]⟩]=> .ask (A8 m.now∧m.now.length < 1000000) (.ret ⟨.int .i64 (D4 m del key val),[none,some (Ch m.base),some (Ch m.now),none],[]⟩)
 | _=> .fail
theorem Rv:Dr Tryz.prog AM Bw (Ay AM 9 Jn (J8 Oa)):=by
 refine QP allM (by kernel_rfl) (n:=40) fun m rest x hx=>?_
 unfold Oa at hx
 split at hx
 ·rename_i del key val
  simp only[GT.run]at hx
  split at hx
  ·rename_i hok
   cases hx
   obtain⟨hs,hn⟩:=hok
   refine⟨by simp,?_⟩
   have hE:Ai XM 13 Bw (fun v H=>v= .int .i64 (D4 m del key val)∧([10,11]++Ac 4 v).map H.get=[some (Ch m.base),some (Ch m.now)]) (st Bw 40 [p9,.agg ⟨[.bool del,.string key,.string val]⟩] (BF ⟨.leaf,9⟩ (dG m))):=by
    refine Bc.GF (B4 Hq (ids:=[10,11]) (Q:=fun v os=>v= .int .i64 (D4 m del key val)∧os=[some (Ch m.base),some (Ch m.now)]) 500 _ ?_)
    rw[Tp]
    unfold D4
    refine⟨⟨hs,by omega,key,rfl⟩,As (fun h1=>⟨by rw[h1],As (fun h2=>⟨?_,rfl⟩) (fun h2=>⟨?_,rfl⟩)⟩) (fun h1=>⟨by rw[h1],As (fun h2=>⟨?_,rfl⟩) (fun h2=>⟨?_,rfl⟩)⟩)⟩
    all_goals (simp only[h1,h2,cond_true,cond_false]<;>rfl)
   refine hE.I3.mono ?_
   rintro v H ⟨rfl,h⟩
   have h:[H.get 10,H.get 11]=_:=h
   simp only[List.cons.injEq,and_true]at h
   exact On (ns:=[]) h.1 h.2 rfl List.nodup_nil (fun b hb=>by cases hb) rfl (fun j b o hj=>by cases hj)
  ·cases hx
 ·cases hx
end Go.AD
