/-
  Part of the proof: the machine that runs a program by fixed orders, and that each of its runs is a run of the model; or a run of it in parts. No conditions.
-/
import Derived.Test.YtbojbpalkegahaaGreatDoorC39b
import Derived.Test.YtbojbpalkegahaaGreatDoorC42b
import Derived.Lib.IndexLaws
set_option maxRecDepth 1000000
namespace Go.AD
open Go.Proofs
noncomputable def TM:Co where
 ok:=fun args=>match args with
  | [.string s,.int .i32 (.ofNat _)]=>s=lets
  | _=>False
 v:=fun args=>match args with
  | [.string _,.int .i32 (.ofNat r)]=> .bool (Wc r)
  | _=>A5
structure X8 (s:ByteArray):Prop where
 eq:s=lets
noncomputable def bN:FJ:=fun args H K=>match args with
 | [.string s,.int .i32 (.ofNat r)]=>X8 s∧K (.bool (Wc r)) H
 | _=>False
noncomputable abbrev fc:List (FuncId × Cn):=[(AY,TM.F)]
noncomputable def db:Ctx:=Cp Tryz.prog CE fc
noncomputable def bg:Pf:=fun g=>bif Nat.beq g AY then some bN else Cv g
noncomputable def dZ (s:ByteArray) (p:Nat):Ay:=
 ⟨⟨Bi,Ib [(0,.string s),(6,.pointer (some ⟨20,0,none⟩))],20,[.code (Bb Tryz.prog Bi [1,0,1,0,0]),.inLoop (Bb Tryz.prog Bi [1,0,1,0,0]),.inBlock 0,.code (Bb Tryz.prog Bi [1,1])],[],false,.normal,none⟩,[],J2.alloc (.CD s p)⟩
def eL:Stop:=⟨Bi,0,3,20,[],[0,6]⟩
theorem dE (s:ByteArray) (Q:Value→List (Option AJ)→Prop) (R:Ay→Prop):JI db bg Bi [] eL Q R 200 (st Bi 20 [.string s] J2)=(
 (R (dZ s 0))):=by kernel_rfl
theorem bC (s:ByteArray) (p:Nat) (Q:Value→List (Option AJ)→Prop) (R:Ay→Prop):JI db bg Bi [] eL Q R 200 (dZ s p)=(
 (bif Nat.blt p (ByteArray.size s)then(X8 { data:=#[45,46,48,49,50,51,52,53,54,55,56,57,95,97,98,99,100,101,102,103,104,105,106,107,108,109,110,111,112,113,114,115,116,117,118,119,120,121,122] })∧(bif Wc (Prod.fst (Utf8.decode s p))then(R (dZ s (p+Prod.snd (Utf8.decode s p))))else(Q (.int .i64 2) []))else(bif ByteArray.toList s==ByteArray.toList { data:=#[] } then(Q (.int .i64 2) [])else(bif decide (Int.ofNat (ByteArray.size s) > 32)then(Q (.int .i64 12) [])else(Q (.int .i64 0) []))))):=by kernel_rfl
end Go.AD

set_option maxRecDepth 1000000
namespace Go.AD
open Go.Proofs
theorem X3:FD W7 W6:=by
 refine An (fun args H K h=>?_) (Av _)
 unfold QG at h
 split at h
 ·rename_i s c
  have hX:W7.FL Cq=some PK:=rfl
  unfold Bp
  simp only[hX]
  unfold PK Wa
  refine⟨_,_,rfl,?_⟩
  rw[h.1.no];exact h.2
 ·exact h.elim
theorem Uj (r:Nat):As W7 20 AY (fun v _=>v= .bool (Wc r)) (st AY 9 [.string lets,.int .i32 (Int.ofNat r)] J2):=by
 rcases Nat.lt_or_ge r 128 with h | h
 ·have e:=List.map_inj_left.1 (XR fun v _=>v= .bool (ez r)) r (List.mem_range.2 h)
  have hv:Gv W7 Cv AY [] (fun v _=>v= .bool (ez r)) 600 (st AY 9 [.string lets,.int .i32 (Int.ofNat r)] J2):=by rw[e]
  have ho:Wc r=ez r:=by unfold Wc;rw[if_pos h]
  rw[ho]
  exact(B6 (Av W7) 600 _ hv).Gq
 ·have ho:Wc r=false:=by unfold Wc;rw[if_neg (by omega)]
  rw[ho]
  by_cases h2:r=65533
  ·subst h2
   have hv:Gv W7 Cv AY [] (fun v _=>v= .bool false) 3000 (st AY 9 [.string lets,.int .i32 65533] J2):=by rw[WG]
   exact(B6 (Av W7) 3000 _ hv).Gq
  ·exact(B6 X3 210 _ (Y1 (r:=Int.ofNat r) (by show(128:Int)≤(r:Int);omega) (fun e=>h2 (by have e:(r:Int)=65533:=e;omega)))).Gq
theorem XW (hfs:Aw Tryz.prog CE dN):Da Tryz.prog CE AY TM.F:=by
 refine HA (n:=9) (by kernel_rfl) fun args h=>?_
 unfold TM at h
 simp only at h
 split at h
 ·rename_i s r
  subst h
  exact⟨rfl,by simp,rfl,_,hfs,Uj r⟩
 ·exact h.elim
theorem OB:FD db bg:=by
 refine An (fun args H K h=>?_) (Av _)
 unfold bN at h
 split at h
 ·exact Co.Vf (q:=TM) (X:=db) (f:=AY) rfl _ H K ⟨h.1.eq,h.2⟩
 ·exact h.elim
theorem Sb (s:ByteArray) (i:Nat):0 < (Utf8.decode s i).2:=by
 unfold Utf8.decode
 simp only
 repeat' split
 all_goals exact Nat.succ_pos _
def az:Nat→ByteArray→Nat→Bool
 | 0,_,_=>true
 | n+1,s,p=>bif Nat.blt p s.size then(bif Wc (Utf8.decode s p).1 then az n s (p+(Utf8.decode s p).2)else false)else true
def NV (s:ByteArray):Int:=bif ByteArray.toList s==ByteArray.toList { data:=#[] } then 2 else bif decide (Int.ofNat s.size > 32)then 12 else 0
def FB (s:ByteArray):Int:=bif az s.size s 0 then NV s else 2
theorem aA (s:ByteArray):∀(n p:Nat),s.size - p≤n→As db 20 Bi (fun v _=>v= .int .i64 (bif az n s p then NV s else 2)) (dZ s p):=by
 intro n
 induction n with
 | zero=>
  intro p hp
  refine Bd OB (ids:=[]) (S:=eL) (by kernel_rfl) (Q:=fun v _=>v= .int .i64 (NV s)) (R:=fun _=>False) (fun v H h=>h) (fun c h=>h.elim) 200 _ ?_
  rw[bC]
  have hb:Nat.blt p s.size=false:=by
   cases h:Nat.blt p s.size
   ·rfl
   ·have:p < s.size:=Nat.le_of_ble_eq_true h;omega
  rw[hb]
  unfold NV
  cases (ByteArray.toList s==ByteArray.toList { data:=#[] })<;>cases decide (Int.ofNat s.size > 32)<;>rfl
 | succ n ih=>
  intro p hp
  refine Bd OB (ids:=[]) (S:=eL) (by kernel_rfl) (Q:=fun v _=>v= .int .i64 (bif az (n+1) s p then NV s else 2)) (R:=fun c=>az (n+1) s p=az n s (p+(Utf8.decode s p).2)∧Nat.blt p s.size=true∧c=dZ s (p+(Utf8.decode s p).2)) (fun v H h=>h) (fun c h=>?_) 200 _ ?_
  ·rw[h.1,h.2.2]
   have hlt:p < s.size:=Nat.le_of_ble_eq_true h.2.1
   have:=Sb s p
   exact ih _ (by omega)
  ·rw[bC]
   have hk:az (n+1) s p=bif Nat.blt p s.size then(bif Wc (Utf8.decode s p).1 then az n s (p+(Utf8.decode s p).2)else false)else true:=rfl
   rw[hk]
   unfold NV
   cases Nat.blt p s.size
   ·cases (ByteArray.toList s==ByteArray.toList { data:=#[] })<;>cases decide (Int.ofNat s.size > 32)<;>rfl
   ·refine⟨⟨rfl⟩,?_⟩
    cases Wc (Utf8.decode s p).1
    ·rfl
    ·exact⟨rfl,rfl,rfl⟩
theorem Yo (s:ByteArray):As db 20 Bi (fun v _=>v= .int .i64 (FB s)) (st Bi 20 [.string s] J2):=by
 refine Bd OB (ids:=[]) (S:=eL) (by kernel_rfl) (Q:=fun _ _=>False) (R:=fun c=>c=dZ s 0) (fun v H h=>h.elim) (fun c h=>?_) 200 _ ?_
 ·rw[h];exact aA s s.size 0 (by omega)
 ·rw[dE]
noncomputable def S3:Co where
 ok:=fun args=>match args with
  | [.string _]=>True
  | _=>False
 v:=fun args=>match args with
  | [.string s]=> .int .i64 (FB s)
  | _=>A5
theorem Xp (hfs:Aw Tryz.prog CE dN):Da Tryz.prog CE Bi S3.F:=by
 refine HA (n:=20) (by kernel_rfl) fun args h=>?_
 unfold S3 at h
 simp only at h
 split at h
 ·rename_i s
  exact⟨rfl,by simp,rfl,_,.cons (XW hfs) (Aw.nil _ _),Yo s⟩
 ·exact h.elim
end Go.AD

namespace Go.AD
theorem No {μ:Ah} {b o m cap:Nat} {s:Option Nat} {v':Value} (h:AH μ (.slice (some ⟨b,o,s⟩) m cap) v'):∃T,μ b=some T:=by
 cases h with
 | slice _ _ _ _ _ _ T h _ _=>exact⟨T,h⟩
 | Bt _ _ _ _ _ _ T h _ _ _=>exact⟨T,h⟩
 | DC _ _ _ T _ h _=>exact⟨T,h⟩
 | Cl _ _ _ _ _ _ T _ h _ _ _ _=>exact⟨T,h⟩
 | Fe _ _ _ T _ h _=>exact⟨T,h⟩
theorem N2 {μ:Ah} {b o:Nat} {s:Option Nat} {v':Value} (h:AH μ (.pointer (some ⟨b,o,s⟩)) v'):∃T,μ b=some T:=by
 cases h with
 | ptr _ _ T h=>exact⟨T,h⟩
 | GC _ _ _ T h=>exact⟨T,h⟩
theorem A6.cH {X:Ctx} {N:Nat} {Φ:Ay→Prop} {fn:FuncId} {t:Tr Value} {n:Nat} {todo:List CH} {ds:List Deferred} {r:Bool} {kd:CallKind} {rd:Option Nat} {cs:List AU} {H:AA} (i j:Nat) (k:EK) {b o m cap:Nat} {s:Option Nat}
 (hd:Ck todo=true) (hi:look t i= .slice none 0 0) (hj:look t j= .slice (some ⟨b,o,s⟩) m cap) (hk:k.length≠0)
 (hr:A6 X N ⟨⟨fn,t.put i (some (.slice (some ⟨H.next,0,some 0⟩) 0 AF)),n,todo,ds,r,kd,rd⟩,cs,H.alloc (.vec k [] false)⟩ Φ):A6 X N ⟨⟨fn,t,n,todo,ds,r,kd,rd⟩,cs,H⟩ Φ:=by
 intro base W0 hb hok hplan cs0 μ fr cs' W hm
 obtain⟨hH,hlaid,g,gs,hfr,hcs,hnd⟩:=hm
 cases hfr with
 | plain fn t n tm todo todo' ds ds' r kd rd rd' ht hi2 hd2 hr2=>
  have hj2:=ht.2 j
  rw[hj]at hj2
  obtain⟨T,hT⟩:=No hj2
  obtain⟨h1,h2⟩:=hH.CQ hT hk false
  refine hr base W0 hb hok hplan cs0 _ _ cs' W ⟨h1,hlaid.mono h2.le,[],gs,.plain fn _ n tm todo todo' ds ds' r kd rd rd' ⟨ht.1,fun u=>?_⟩ (hi2.mono h2.le) (hd2.mono h2.le) (hr2.mono h2.le),hcs.mono (h2.keeps _),by simpa using hnd⟩
  by_cases hu:u=i
  ·subst hu
   have hi3:=ht.2 u
   rw[hi]at hi3
   rw[DF]
   generalize tm.getD u Go.undef=w at hi3
   cases hi3
   exact .DC _ 0 AF _ none (Ah.A8 _ _ _) (.inr ⟨Nat.le_refl _,Nat.sub_self _⟩)
  ·rw[DV _ _ hu]
   exact(ht.2 u).mono h2.le
 | drawn fn t n tm ops Bh idx D G k k' ds ds' kd rd rd' hD hk2 hd2 hr2=>cases hd
end Go.AD

namespace Go.AD
theorem A6.NP {X:Ctx} {N:Nat} {Φ:Ay→Prop} {fn:FuncId} {t:Tr Value} {n:Nat} {todo:List CH} {ds:List Deferred} {r:Bool} {kd:CallKind} {rd:Option Nat} {cs:List AU} {H:AA} (b j:Nat) (k:EK) (pre post:List Value) {e:Nat} {ro:Bool}
 (hd:Ck todo=true) (hds:(cs.all fun f=>Ck f.todo)=true) (hj:∀(ν:Ah) v',AH ν (look t j) v'→∃c T,ν c=some T) (hb:H.get b=some (.cells (pre++ .slice none 0 0::post) e ro)) (hk:k.length≠0)
 (hr:A6 X N ⟨⟨fn,t,n,todo,ds,r,kd,rd⟩,cs,(H.alloc (.vec k [] false)).put b (.cells (pre++ .slice (some ⟨H.next,0,some 0⟩) 0 AF::post) e ro)⟩ Φ):A6 X N ⟨⟨fn,t,n,todo,ds,r,kd,rd⟩,cs,H⟩ Φ:=by
 intro base W0 hb0 hok hplan cs0 μ fr cs' W hm
 obtain⟨hH,hlaid,g,gs,hfr,hcs,hnd⟩:=hm
 cases hfr with
 | plain fn t n tm todo todo' ds ds' r kd rd rd' ht hi2 hd2 hr2=>
  have hj2:=ht.2 j
  obtain⟨_,T,hT⟩:=hj _ _ hj2
  obtain⟨h1,h2⟩:=hH.CQ hT hk false
  have hlt:b < H.next:=hH.lt hb
  have hb3:(H.alloc (.vec k [] false)).get b=some (.cells (pre++ .slice none 0 0::post) e ro):=by
   rw[AA.AR,if_neg (by omega)];exact hb
  have h3:=h1.swap (o1:= .cells (pre++ .slice (some ⟨H.next,0,some 0⟩) 0 AF::post) e ro) hb3 (fun T' o' _ ho=>by
   cases ho with
   | cells _ _ _ c t lo hi he hc hr hf=>
    refine .cells T' _ e ro c t lo hi he ?_ hr hf
    have hc2:=GY (a1:= .slice (some ⟨H.next,0,some 0⟩) 0 AF) (Ah.le_refl _) (fun v' hv=>by
     cases hv
     exact .DC _ 0 AF _ none (Ah.A8 _ _ _) (.inr ⟨Nat.le_refl _,Nat.sub_self _⟩)) pre _ hc
    have e1:(pre++Value.slice none 0 0::post).length=(pre++Value.slice (some ⟨H.next,0,some 0⟩) 0 AF::post).length:=by simp
    rw[←e1];exact hc2) rfl rfl rfl (fun _ _ hv=>hv)
  have hcs2:=LW (ks:=[]) (H':=(H.alloc (.vec k [] false)).put b (.cells (pre++ .slice (some ⟨H.next,0,some 0⟩) 0 AF::post) e ro)) (hcs.mono (h2.keeps _)) hds
  have e:cs.map (J8 [])=cs:=by
   refine(List.map_congr_left fun f _=>?_).trans (List.map_id _)
   cases f;rfl
  rw[e]at hcs2
  exact hr base W0 hb0 hok hplan cs0 _ _ cs' W ⟨h3,hlaid.mono h2.le,[],[],.plain fn t n tm todo todo' ds ds' r kd rd rd' (ht.mono h2.le) (hi2.mono h2.le) (hd2.mono h2.le) (hr2.mono h2.le),hcs2,by simp⟩
 | drawn fn t n tm ops Bh idx D G k k' ds ds' kd rd rd' hD hk2 hd2 hr2=>cases hd
theorem A6.Qn {X:Ctx} {N:Nat} {Φ:Ay→Prop} {fn:FuncId} {t:Tr Value} {n:Nat} {todo:List CH} {ds:List Deferred} {r:Bool} {kd:CallKind} {rd:Option Nat} {cs:List AU} {H:AA} (b j:Nat) (k:EK) (pre post:List Value) {e:Nat} {ro:Bool} {b' o m cap:Nat} {s:Option Nat}
 (hd:Ck todo=true) (hds:(cs.all fun f=>Ck f.todo)=true) (hj:look t j= .slice (some ⟨b',o,s⟩) m cap) (hb:H.get b=some (.cells (pre++ .slice none 0 0::post) e ro)) (hk:k.length≠0)
 (hr:A6 X N ⟨⟨fn,t,n,todo,ds,r,kd,rd⟩,cs,(H.alloc (.vec k [] false)).put b (.cells (pre++ .slice (some ⟨H.next,0,some 0⟩) 0 AF::post) e ro)⟩ Φ):A6 X N ⟨⟨fn,t,n,todo,ds,r,kd,rd⟩,cs,H⟩ Φ:=
 NP b j k pre post hd hds (fun _ _ h=>by rw[hj]at h;obtain⟨T,hT⟩:=No h;exact⟨_,T,hT⟩) hb hk hr
theorem A6.VF {X:Ctx} {N:Nat} {Φ:Ay→Prop} {fn:FuncId} {t:Tr Value} {n:Nat} {todo:List CH} {ds:List Deferred} {r:Bool} {kd:CallKind} {rd:Option Nat} {cs:List AU} {H:AA} (b j:Nat) (k:EK) (pre post:List Value) {e:Nat} {ro:Bool} {b' o:Nat} {s:Option Nat}
 (hd:Ck todo=true) (hds:(cs.all fun f=>Ck f.todo)=true) (hj:look t j= .pointer (some ⟨b',o,s⟩)) (hb:H.get b=some (.cells (pre++ .slice none 0 0::post) e ro)) (hk:k.length≠0)
 (hr:A6 X N ⟨⟨fn,t,n,todo,ds,r,kd,rd⟩,cs,(H.alloc (.vec k [] false)).put b (.cells (pre++ .slice (some ⟨H.next,0,some 0⟩) 0 AF::post) e ro)⟩ Φ):A6 X N ⟨⟨fn,t,n,todo,ds,r,kd,rd⟩,cs,H⟩ Φ:=
 NP b j k pre post hd hds (fun _ _ h=>by rw[hj]at h;obtain⟨T,hT⟩:=N2 h;exact⟨_,T,hT⟩) hb hk hr
section
variable {X:Ctx} {N:Nat} {D:Nat→Prop} {f:FuncId} {Q Q':Value→AA→Prop}
theorem A4.aT {c:Ay} {b:Nat} {rs:List Nat} {s:Pk} {ro:Bool} (hD:∀x∈rs,D x) (hreach:b∈Ax c.H 0 200 rs []) (hb:c.H.get b=some (.abs (.pack s) ro)) (hp:∀ops p k,c.fr.todo≠ .DW ops p::k)
 (h:∀objs,Dl s objs→∃H',JD c.H b ro objs H' (D7 s)∧A4 X N D f Q ⟨c.fr,c.cs,H'⟩):A4 X N D f Q c:=by
 intro base W0 hb0 hDm hok hplan cs0 μ fr cs W hm
 obtain⟨hH,hlaid,g,gs,hfr,hcs,hnd⟩:=hm
 have hr2:=IK hH (N:=0) 200 rs [] (fun b hb=>by
  obtain⟨T,hT⟩:=hDm b (hD b hb)
  exact⟨T,hH.le b T hT⟩) ⟨List.nodup_nil,fun b hb=>by cases hb⟩
 obtain⟨T,hT⟩:=(hr2.2 b hreach).2
 obtain⟨objs,hr,ho⟩:=hH.opened hb hT
 obtain⟨H',hO,hrun⟩:=h objs hr
 obtain⟨μ',hH',hE⟩:=ho H' hO
 refine hrun base W0 hb0 hDm hok hplan cs0 μ' fr cs W ⟨hH',hlaid.mono hE.le,g,gs,?_,hcs.mono (hE.keeps _),hnd⟩
 obtain⟨f0,cs1,H1⟩:=c
 cases hfr with
 | plain fn t n tm todo todo' ds ds' r kd rd rd' ht hi hd hr=>exact .plain fn t n tm todo todo' ds ds' r kd rd rd' (ht.mono hE.le) (hi.mono hE.le) (hd.mono hE.le) (hr.mono hE.le)
 | drawn fn t n tm ops Bh idx D G k k' ds ds' kd rd rd' hD hk hd hr=>exact absurd rfl (hp ops Bh k)
end
theorem bo {D:Nat→Prop} {v:Value} {H H2:AA} {s:Pk} {b:Nat} {rs:List Nat} {o o1:AJ} (hr:Dl s [o]) (hD:∀b∈rs,b∈Af 4 v∨D b) (hb:b∈Ax H 0 200 rs []) (hg:H.get b=some o1) (hro:o1.ro=false) (hp:o1.Ga=true) (hren:BR (fun i=>[b][i]?) o=some o1)
 (k:CB D v (DU s [b] H) H2)
 (hx0:D7 s=[]:=by rfl) (hroot:∀T,¬o.void T:=by intro _;exact id):CB D v H H2:=by
 refine .step s [o] [b] rs hr (by simp) rfl (by simp) hD (fun x hx=>by simp at hx;rw[hx];exact hb) (fun i x q hx hq=>?_) (fun q T hq=>by cases hq;exact hroot T) k
 cases i with
 | zero=>cases hx;cases hq;exact⟨o1,hg,hro,hp,by rw[hx0,Ew];exact hren⟩
 | succ i=>cases i<;>cases hx
theorem RX {D:Nat→Prop} {v:Value} {H H2:AA} {s:Pk} {b n:Nat} {rs:List Nat} {o o1 p p1:AJ} (hr:Dl s [o,p]) (hD:∀b∈rs,b∈Af 4 v∨D b) (hb:b∈Ax H 0 200 rs []) (hn:n∈Ax H 0 200 rs []) (hne:n≠b) (hg:H.get b=some o1) (hro:o1.ro=false) (hp:o1.Ga=true) (hren:BR (fun i=>[b,n][i]?) o=some o1)
 (hg2:H.get n=some p1) (hro2:p1.ro=false) (hp2:p1.Ga=true) (hren2:BR (fun i=>[b,n][i]?) p=some p1) (k:CB D v (DU s [b,n] H) H2)
 (hx0:D7 s=[]:=by rfl) (hroot:∀T,¬o.void T:=by intro _;exact id):CB D v H H2:=by
 refine .step s [o,p] [b,n] rs hr (by simp) rfl (by simp[Ne.symm hne]) hD (fun x hx=>?_) (fun i x q hx hq=>?_) (fun q T hq=>by cases hq;exact hroot T) k
 ·simp at hx
  rcases hx with rfl | rfl
  ·exact hb
  ·exact hn
 ·cases i with
  | zero=>cases hx;cases hq;exact⟨o1,hg,hro,hp,by rw[hx0,Ew];exact hren⟩
  | succ i=>cases i with
   | zero=>cases hx;cases hq;exact⟨p1,hg2,hro2,hp2,by rw[hx0,Ew];exact hren2⟩
   | succ i=>cases i<;>cases hx
theorem AP.Pu {base:Env} {W0 W:World} {μ:Ah} {H:AA} (h:AP base W0 μ H W) {b n len cap e:Nat} {k:EK} {l:List (EK.C k)} {ro ro2:Bool} {pre post:List Value}
 (hb:H.get b=some (.cells (pre++ .slice (some ⟨n,0,none⟩) len cap::post) e ro)) (hn:H.get n=some (.vec k l ro2)) (h0:0 < cap) (hl:len≤cap) (hlen:cap≤l.length) (hcap:cap≤9223372036854775807) (hk0:0 < k.length:=by decide):
 AP base W0 μ (H.put b (.cells (pre++ .slice (some ⟨n,0,some 0⟩) len AF::post) e ro)) W:=by
 refine h.swap hb (fun T o' _ ho=>?_) rfl rfl rfl (fun _ _ hv=>hv)
 cases ho with
 | cells _ _ _ c t lo hi he hc hr hf=>
  refine .cells T _ e ro c t lo hi he ?_ hr hf
  have hc2:=GY (a1:= .slice (some ⟨n,0,some 0⟩) len AF) (Ah.le_refl _) (fun v' hv=>by
   cases hv with
   | slice _ _ _ _ cap' o' T' hm hcr ho=>
    have hcu:cap < AF:=by unfold AF;omega
    have hcap':cap'=cap:=by
     rcases hcr with⟨_,h2⟩ | ⟨h2,_⟩
     ·exact h2
     ·omega
    subst hcap'
    have hel:=h.elem hn hm
    obtain⟨q,hq,hor⟩:=h.obj n _ hn T' hm
    have hrow:l.length * k.length≤T'.r:=by
     cases hor with
     | vec _ _ _ _ hcs=>cases hcs with
      | cells _ _ _ c2 t2 lo2 hi2 he2 hc2 hr2 hf2=>
       have:=hc2.length
       have e2:c2.toList.length=T'.d+T'.r:=by rw[Array.length_toList];exact hr2
       have e3:(Ar k l).length=l.length * k.length:=B4 _ _
       rw[List.length_take,List.length_drop,e2,e3]at this
       omega
     | FC _ _ _ _ _ _=>simp at hlen;omega
    have hmul:cap' * k.length≤T'.r:=Nat.le_trans (Nat.mul_le_mul_right _ hlen) hrow
    have hpos:0 < cap' * k.length:=Nat.mul_pos h0 hk0
    refine .Bt n 0 len AF cap' o' T' hm (.inr ⟨Nat.le_refl _,by omega,hl,by rw[hel];omega,.inr hcap⟩) ?_ (by omega)
    rcases ho with ho | ho
    ·exact .inl (by omega)
    ·exact .inr ho) pre _ hc
  have e1:(pre++Value.slice (some ⟨n,0,none⟩) len cap::post).length=(pre++Value.slice (some ⟨n,0,some 0⟩) len AF::post).length:=by simp
  rw[←e1];exact hc2
theorem As.lower {X:Ctx} {N N':Nat} {f:FuncId} {Q:Value→AA→Prop} {c:Ay} (hle:N≤N') (h:As X N' f Q c):As X N f Q c:=
 fun base W0 hb=>h base W0 fun b T e=>Nat.lt_of_lt_of_le (hb b T e) hle
end Go.AD

set_option maxRecDepth 1000000
namespace Go.AD
open Go.Proofs
noncomputable def CM (s:ByteArray):List ByteArray:=Go.Lib.splitB ⟨#[32]⟩ 0 (Go.Lib.countB s ⟨#[32]⟩) s
structure Ip (s:ByteArray):Prop where
 lt:s.size≤100000
noncomputable def TX:FJ:=fun args H K=>match args with
 | [.string s,.string ⟨⟨[32]⟩⟩]=>Ip s∧K (.slice (some ⟨H.next,0,some 0⟩) (CM s).length AF) (H.alloc (.vec [.str] (CM s) false))
 | _=>False
noncomputable def WO (T:TypeId):FJ:=fun args H K=>match args with
 | [.string s]=>Ip s∧(bif isNum s then K (.tuple ⟨[.int .i64 (Ag s),.nilIface]⟩) H else K (.tuple ⟨[A5,.iface T A5]⟩) H)
 | _=>False
structure Ok (n:Int):Prop where
 lo: -9223372036854775808≤n
 hi:n≤9223372036854775807
noncomputable def Ou:FJ:=fun args H K=>match args with
 | [.int .i64 n]=>Ok n∧K (.string (BT n)) H
 | _=>False
def hasB (s:ByteArray) (c:UInt8):Bool:=decide (0≤Go.Lib.indexByte s.data.toList c)
def BJ (s:ByteArray) (c:UInt8):Nat:=(Go.Lib.indexByte s.data.toList c).toNat
noncomputable def TY:FJ:=fun args H K=>match args with
 | [.string s,.string ⟨⟨[c]⟩⟩]=>bif hasB s c then K (.int .i64 (.ofNat (BJ s c))) H else K (.int .i64 (.negSucc 0)) H
 | _=>False
abbrev kI:EK:=[.int .i64]
def Jw (l:List (EK.C kI)):Bool:=l.any fun k=> !(decide (0≤k)&&decide (k≤8192))
noncomputable def fI (args:List Value) (objs:List AJ):GT:=
 match args,objs with
 | [.slice (some ⟨9,0,some 0⟩) n _,.func (.func f) ⟨[]⟩ ⟨[]⟩],[.vec [.int .i64] l _]=> .ask ((n=l.length∧f=Ee)∧n≤100000) (.ret ⟨.bool (Jw l),[none],[]⟩)
 | _,_=> .fail
noncomputable abbrev Zc:List (FuncId × Cn):=[(Dy,Jz),(EN,KC 206),(Cj,JC),(Dz,L1),(At,A3 AL 9 [] fI)]
noncomputable def Rb:Ctx:=Cp Tryz.prog AL Zc
noncomputable def UW:Pf:=fun g=>bif Nat.beq g Dy then some TX else bif Nat.beq g EN then some (WO 206)else bif Nat.beq g Cj then some Ou else bif Nat.beq g Dz then some TY else bif Nat.beq g At then some (B0 AL 9 [] fI)else Cv g
noncomputable def Wh (b:Nat):Value:= .pointer (some ⟨b,0,none⟩)
noncomputable def fv (s:ByteArray) (a:Int) (d:Bool) (HS:Value) (H:AA→AA):Ay:=
 ⟨⟨CO,Ib [(0,.func (.yield 24) ⟨[]⟩ ⟨[]⟩),(1,Wh 20),(2,Wh 21),(3,Wh 22)],52,[.code (Bb Tryz.prog CO [1,0,0,0]),.inLoop (Bb Tryz.prog CO [1,0,0,0]),.inBlock 2,.code (Bb Tryz.prog CO [1,1])],[],false,.normal,none⟩,
  [⟨Dc,Ib [(2,Wh 26),(4,Wh 25)],50,[.inRangeFunc 24,.inBlock 0,.code (Bb Tryz.prog Dc [1,1,1,1,1])],[⟨.collected 23,⟨[]⟩⟩],false,.normal,none⟩,
   ⟨BB,Ib [(2,Wh 27),(3,Wh 28)],7,[KU (Bb Tryz.prog BB [1,1,0]) 1,.code .ret],[⟨.fn (.func KJ) ⟨[Wh 27,Wh 28]⟩,⟨[]⟩⟩],false,.normal,none⟩],
    H (((((((((J2.alloc (.cells [.string ⟨#[44]⟩] 0 false)).alloc (.cells [.string s] 0 false)).alloc (.cells [.int .i64 0] 0 false)).alloc (.deferred (some []))).alloc
    (.loop ⟨.ready,none,Dc,Ib [(2,Wh 26),(4,Wh 25)],50,#[37],Bb Tryz.prog Dc [1,1,1,1,0,1,0,0],Bb Tryz.prog Dc [1,1,1,1,0,1,0,1],23⟩)).alloc (.cells [.int .i64 a,.bool d,HS] 0 false)).alloc (.cells [.int .i64 0,.bool false,.slice none 0 0] 0 false)).alloc
    (.cells [.int .i64 0,.bool false,.slice none 0 0] 0 false)).alloc (.cells [.int .i64 0] 0 false))⟩
noncomputable def dI (s:ByteArray) (a:Int) (d:Bool):Ay:=fv s a d (.slice none 0 0) id
noncomputable def dw (s:ByteArray) (a:Int) (d:Bool) (l:List (EK.C kI)) (n:Nat):Ay:=fv s a d (.slice (some ⟨29,0,some 0⟩) n AF) fun H=>H.alloc (.vec kI l false)
def eK:Stop:=⟨CO,2,3,20,[],[0,1,2,3]⟩
def eY:List (FuncId × List Nat):=[(Dc,[2,4]),(BB,[2,3])]
theorem cN (s:ByteArray) (Q:Value→List (Option AJ)→Prop) (R:Ay→Prop):dh Rb UW BB [] eK eY Q R 1500 (st BB 7 [.string s] J2)=(
 (Ip s)∧(bif Int.ofNat (List.length (CM s))==3 then(bif decide (0≤1)&&Nat.blt 1 (List.length (CM s))then(bif Nat.blt 1 (List.length (CM s))then(bif ByteArray.toList (List.getD (CM s) 1 (EK.AQ [SK.str]))==ByteArray.toList { data:=#[121] } then(bif decide (0≤0)&&Nat.blt 0 (List.length (CM s))then(bif Nat.blt 0 (List.length (CM s))then(bif decide (0≤1)&&Nat.blt 1 (List.length (CM s))then(bif Nat.blt 1 (List.length (CM s))then(bif ByteArray.toList (List.getD (CM s) 1 (EK.AQ [SK.str]))==ByteArray.toList { data:=#[121] } then(Ip (List.getD (CM s) 0 (EK.AQ [SK.str])))∧(bif isNum (List.getD (CM s) 0 (EK.AQ [SK.str]))then(bif decide (Ag (List.getD (CM s) 0 (EK.AQ [SK.str]))≥0)then(bif decide (Ag (List.getD (CM s) 0 (EK.AQ [SK.str]))≤1000000)then(Ok (Ag (List.getD (CM s) 0 (EK.AQ [SK.str]))))∧(bif ByteArray.toList (BT (Ag (List.getD (CM s) 0 (EK.AQ [SK.str]))))==ByteArray.toList (List.getD (CM s) 0 (EK.AQ [SK.str]))then(((.bool (ByteArray.toList (List.getD (CM s) 1 (EK.AQ [SK.str]))==ByteArray.toList { data:=#[121] })):Value)=(.bool true))∧(bif Nat.blt 1 (List.length (CM s))then(((.string (List.getD (CM s) 1 (EK.AQ [SK.str]))):Value)=(.string (List.getD (CM s) 1 (EK.AQ [SK.str]))))∧(bif decide (0≤1)&&Nat.blt 1 (List.length (CM s))then(((.pointer (some ⟨23,0,(some 1)⟩)):Value)=(.pointer (some ⟨23,0,(some 1)⟩)))∧(((.slice (some ⟨23,0,(some 0)⟩) (List.length (CM s)) 18446744073709551616):Value)=(.slice (some ⟨23,0,(some 0)⟩) (List.length (CM s)) 18446744073709551616))∧(bif decide (0≤2)&&Nat.blt 2 (List.length (CM s))then(bif Nat.blt 2 (List.length (CM s))then(R (dI (List.getD (CM s) 2 (EK.AQ [SK.str])) (Ag (List.getD (CM s) 0 (EK.AQ [SK.str]))) true))else False)else False)else False)else False)else(Q (.tuple ⟨[(.agg ⟨[(.int .i64 0),(.bool false),(.slice none 0 0)]⟩),(.int .i64 8)]⟩) []))else(Q (.tuple ⟨[(.agg ⟨[(.int .i64 0),(.bool false),(.slice none 0 0)]⟩),(.int .i64 8)]⟩) []))else(Q (.tuple ⟨[(.agg ⟨[(.int .i64 0),(.bool false),(.slice none 0 0)]⟩),(.int .i64 8)]⟩) []))else(Q (.tuple ⟨[(.agg ⟨[(.int .i64 0),(.bool false),(.slice none 0 0)]⟩),(.int .i64 8)]⟩) []))else(Ip (List.getD (CM s) 0 (EK.AQ [SK.str])))∧(bif isNum (List.getD (CM s) 0 (EK.AQ [SK.str]))then(bif decide (Ag (List.getD (CM s) 0 (EK.AQ [SK.str]))≥0)then(bif decide (Ag (List.getD (CM s) 0 (EK.AQ [SK.str]))≤1000000)then(Ok (Ag (List.getD (CM s) 0 (EK.AQ [SK.str]))))∧(bif ByteArray.toList (BT (Ag (List.getD (CM s) 0 (EK.AQ [SK.str]))))==ByteArray.toList (List.getD (CM s) 0 (EK.AQ [SK.str]))then(((.bool (ByteArray.toList (List.getD (CM s) 1 (EK.AQ [SK.str]))==ByteArray.toList { data:=#[121] })):Value)=(.bool false))∧(bif Nat.blt 1 (List.length (CM s))then(((.string (List.getD (CM s) 1 (EK.AQ [SK.str]))):Value)=(.string (List.getD (CM s) 1 (EK.AQ [SK.str]))))∧(bif decide (0≤1)&&Nat.blt 1 (List.length (CM s))then(((.pointer (some ⟨23,0,(some 1)⟩)):Value)=(.pointer (some ⟨23,0,(some 1)⟩)))∧(((.slice (some ⟨23,0,(some 0)⟩) (List.length (CM s)) 18446744073709551616):Value)=(.slice (some ⟨23,0,(some 0)⟩) (List.length (CM s)) 18446744073709551616))∧(bif decide (0≤2)&&Nat.blt 2 (List.length (CM s))then(bif Nat.blt 2 (List.length (CM s))then(R (dI (List.getD (CM s) 2 (EK.AQ [SK.str])) (Ag (List.getD (CM s) 0 (EK.AQ [SK.str]))) false))else False)else False)else False)else False)else(Q (.tuple ⟨[(.agg ⟨[(.int .i64 0),(.bool false),(.slice none 0 0)]⟩),(.int .i64 8)]⟩) []))else(Q (.tuple ⟨[(.agg ⟨[(.int .i64 0),(.bool false),(.slice none 0 0)]⟩),(.int .i64 8)]⟩) []))else
 (Q (.tuple ⟨[(.agg ⟨[(.int .i64 0),(.bool false),(.slice none 0 0)]⟩),(.int .i64 8)]⟩) []))else(Q (.tuple ⟨[(.agg ⟨[(.int .i64 0),(.bool false),(.slice none 0 0)]⟩),(.int .i64 8)]⟩) [])))else False)else False)else False)else False)else(bif decide (0≤1)&&Nat.blt 1 (List.length (CM s))then(bif Nat.blt 1 (List.length (CM s))then(bif ByteArray.toList (List.getD (CM s) 1 (EK.AQ [SK.str]))==ByteArray.toList { data:=#[110] } then(bif decide (0≤0)&&Nat.blt 0 (List.length (CM s))then(bif Nat.blt 0 (List.length (CM s))then(bif decide (0≤1)&&Nat.blt 1 (List.length (CM s))then(bif Nat.blt 1 (List.length (CM s))then(bif ByteArray.toList (List.getD (CM s) 1 (EK.AQ [SK.str]))==ByteArray.toList { data:=#[121] } then(Ip (List.getD (CM s) 0 (EK.AQ [SK.str])))∧(bif isNum (List.getD (CM s) 0 (EK.AQ [SK.str]))then(bif decide (Ag (List.getD (CM s) 0 (EK.AQ [SK.str]))≥0)then(bif decide (Ag (List.getD (CM s) 0 (EK.AQ [SK.str]))≤1000000)then(Ok (Ag (List.getD (CM s) 0 (EK.AQ [SK.str]))))∧(bif ByteArray.toList (BT (Ag (List.getD (CM s) 0 (EK.AQ [SK.str]))))==ByteArray.toList (List.getD (CM s) 0 (EK.AQ [SK.str]))then(((.bool (ByteArray.toList (List.getD (CM s) 1 (EK.AQ [SK.str]))==ByteArray.toList { data:=#[121] })):Value)=(.bool true))∧(bif Nat.blt 1 (List.length (CM s))then(((.string (List.getD (CM s) 1 (EK.AQ [SK.str]))):Value)=(.string (List.getD (CM s) 1 (EK.AQ [SK.str]))))∧(bif decide (0≤1)&&Nat.blt 1 (List.length (CM s))then(((.pointer (some ⟨23,0,(some 1)⟩)):Value)=(.pointer (some ⟨23,0,(some 1)⟩)))∧(((.slice (some ⟨23,0,(some 0)⟩) (List.length (CM s)) 18446744073709551616):Value)=(.slice (some ⟨23,0,(some 0)⟩) (List.length (CM s)) 18446744073709551616))∧(bif decide (0≤2)&&Nat.blt 2 (List.length (CM s))then(bif Nat.blt 2 (List.length (CM s))then(R (dI (List.getD (CM s) 2 (EK.AQ [SK.str])) (Ag (List.getD (CM s) 0 (EK.AQ [SK.str]))) true))else False)else False)else False)else False)else(Q (.tuple ⟨[(.agg ⟨[(.int .i64 0),(.bool false),(.slice none 0 0)]⟩),(.int .i64 8)]⟩) []))else(Q (.tuple ⟨[(.agg ⟨[(.int .i64 0),(.bool false),(.slice none 0 0)]⟩),(.int .i64 8)]⟩) []))else(Q (.tuple ⟨[(.agg ⟨[(.int .i64 0),(.bool false),(.slice none 0 0)]⟩),(.int .i64 8)]⟩) []))else(Q (.tuple ⟨[(.agg ⟨[(.int .i64 0),(.bool false),(.slice none 0 0)]⟩),(.int .i64 8)]⟩) []))else(Ip (List.getD (CM s) 0 (EK.AQ [SK.str])))∧(bif isNum (List.getD (CM s) 0 (EK.AQ [SK.str]))then(bif decide (Ag (List.getD (CM s) 0 (EK.AQ [SK.str]))≥0)then(bif decide (Ag (List.getD (CM s) 0 (EK.AQ [SK.str]))≤1000000)then(Ok (Ag (List.getD (CM s) 0 (EK.AQ [SK.str]))))∧(bif ByteArray.toList (BT (Ag (List.getD (CM s) 0 (EK.AQ [SK.str]))))==ByteArray.toList (List.getD (CM s) 0 (EK.AQ [SK.str]))then(((.bool (ByteArray.toList (List.getD (CM s) 1 (EK.AQ [SK.str]))==ByteArray.toList { data:=#[121] })):Value)=(.bool false))∧(bif Nat.blt 1 (List.length (CM s))then(((.string (List.getD (CM s) 1 (EK.AQ [SK.str]))):Value)=(.string (List.getD (CM s) 1 (EK.AQ [SK.str]))))∧(bif decide (0≤1)&&Nat.blt 1 (List.length (CM s))then(((.pointer (some ⟨23,0,(some 1)⟩)):Value)=(.pointer (some ⟨23,0,(some 1)⟩)))∧(((.slice (some ⟨23,0,(some 0)⟩) (List.length (CM s)) 18446744073709551616):Value)=(.slice (some ⟨23,0,(some 0)⟩) (List.length (CM s)) 18446744073709551616))∧(bif decide (0≤2)&&Nat.blt 2 (List.length (CM s))then(bif Nat.blt 2 (List.length (CM s))then(R (dI (List.getD (CM s) 2 (EK.AQ [SK.str])) (Ag (List.getD (CM s) 0 (EK.AQ [SK.str]))) false))else False)else False)else False)else False)else
 (Q (.tuple ⟨[(.agg ⟨[(.int .i64 0),(.bool false),(.slice none 0 0)]⟩),(.int .i64 8)]⟩) []))else(Q (.tuple ⟨[(.agg ⟨[(.int .i64 0),(.bool false),(.slice none 0 0)]⟩),(.int .i64 8)]⟩) []))else(Q (.tuple ⟨[(.agg ⟨[(.int .i64 0),(.bool false),(.slice none 0 0)]⟩),(.int .i64 8)]⟩) []))else(Q (.tuple ⟨[(.agg ⟨[(.int .i64 0),(.bool false),(.slice none 0 0)]⟩),(.int .i64 8)]⟩) [])))else False)else False)else False)else False)else(Q (.tuple ⟨[(.agg ⟨[(.int .i64 0),(.bool false),(.slice none 0 0)]⟩),(.int .i64 8)]⟩) []))else False)else False))else False)else False)else(Q (.tuple ⟨[(.agg ⟨[(.int .i64 0),(.bool false),(.slice none 0 0)]⟩),(.int .i64 8)]⟩) []))):=by kernel_rfl
theorem dp (s:ByteArray) (a:Int) (d:Bool) (l:List (EK.C kI)) (n:Nat) (Q:Value→List (Option AJ)→Prop) (R:Ay→Prop):dh Rb UW BB [] eK eY Q R 1500 (dw s a d l n)=(
 (bif hasB s 44 then(bif decide (0≤IntKind.wrap .i64 (Int.ofNat (BJ s 44)+0))&&Nat.ble (Int.toNat (IntKind.wrap .i64 (Int.ofNat (BJ s 44)+0))) (ByteArray.size s)&&decide (0≤0)&&Nat.ble 0 (Int.toNat (IntKind.wrap .i64 (Int.ofNat (BJ s 44)+0)))then(Ip (ByteArray.extract s 0 (Int.toNat (IntKind.wrap .i64 (Int.ofNat (BJ s 44)+0)))))∧(bif isNum (ByteArray.extract s 0 (Int.toNat (IntKind.wrap .i64 (Int.ofNat (BJ s 44)+0))))then(bif decide (Ag (ByteArray.extract s 0 (Int.toNat (IntKind.wrap .i64 (Int.ofNat (BJ s 44)+0))))≥0)then(bif decide (Ag (ByteArray.extract s 0 (Int.toNat (IntKind.wrap .i64 (Int.ofNat (BJ s 44)+0))))≤8192)then(Ok (Ag (ByteArray.extract s 0 (Int.toNat (IntKind.wrap .i64 (Int.ofNat (BJ s 44)+0))))))∧(bif ByteArray.toList (BT (Ag (ByteArray.extract s 0 (Int.toNat (IntKind.wrap .i64 (Int.ofNat (BJ s 44)+0))))))==ByteArray.toList (ByteArray.extract s 0 (Int.toNat (IntKind.wrap .i64 (Int.ofNat (BJ s 44)+0))))then(((.slice (some ⟨29,0,(some 0)⟩) n 18446744073709551616):Value)=(.slice (some ⟨29,0,(some 0)⟩) n 18446744073709551616))∧(((.pointer (some ⟨25,2,none⟩)):Value)=(.pointer (some ⟨25,2,none⟩)))∧(bif true&&Nat.ble (0+n) (List.length l)&&BO 8 (n+1)then(bif decide (0≤Int.ofNat (ByteArray.size s))&&Nat.ble (Int.toNat (Int.ofNat (ByteArray.size s))) (ByteArray.size s)&&decide (0≤IntKind.wrap .i64 (Int.ofNat (BJ s 44)+1))&&Nat.ble (Int.toNat (IntKind.wrap .i64 (Int.ofNat (BJ s 44)+1))) (Int.toNat (Int.ofNat (ByteArray.size s)))then(R (dw (ByteArray.extract s (Int.toNat (IntKind.wrap .i64 (Int.ofNat (BJ s 44)+1))) (Int.toNat (Int.ofNat (ByteArray.size s)))) a d (List.take n (List.drop 0 l)++[Ag (ByteArray.extract s 0 (Int.toNat (IntKind.wrap .i64 (Int.ofNat (BJ s 44)+0))))]) (n+1)))else False)else False)else(Q (.tuple ⟨[(.agg ⟨[(.int .i64 0),(.bool false),(.slice none 0 0)]⟩),(.int .i64 8)]⟩) []))else(Q (.tuple ⟨[(.agg ⟨[(.int .i64 0),(.bool false),(.slice none 0 0)]⟩),(.int .i64 8)]⟩) []))else(Q (.tuple ⟨[(.agg ⟨[(.int .i64 0),(.bool false),(.slice none 0 0)]⟩),(.int .i64 8)]⟩) []))else(Q (.tuple ⟨[(.agg ⟨[(.int .i64 0),(.bool false),(.slice none 0 0)]⟩),(.int .i64 8)]⟩) []))else False)else(Ip s)∧(bif isNum s then(bif decide (Ag s≥0)then(bif decide (Ag s≤8192)then(Ok (Ag s))∧(bif ByteArray.toList (BT (Ag s))==ByteArray.toList s then(((.slice (some ⟨29,0,(some 0)⟩) n 18446744073709551616):Value)=(.slice (some ⟨29,0,(some 0)⟩) n 18446744073709551616))∧(((.pointer (some ⟨25,2,none⟩)):Value)=(.pointer (some ⟨25,2,none⟩)))∧(bif true&&Nat.ble (0+n) (List.length l)&&BO 8 (n+1)then(bif decide (a≥0)then(bif decide (a≤1000000)then(bif decide (IntKind.wrap .i64 (Int.ofNat (n+1) - 1)≥0)then(bif decide (IntKind.wrap .i64 (Int.ofNat (n+1) - 1)≤33)then((n+1=List.length (List.take n (List.drop 0 l)++[Ag s])∧127=Ee)∧n+1≤100000)∧(bif Jw (List.take n (List.drop 0 l)++[Ag s])then(Q (.tuple ⟨[(.agg ⟨[(.int .i64 0),(.bool false),(.slice none 0 0)]⟩),(.int .i64 8)]⟩) [])else(Q (.tuple ⟨[(.agg ⟨[(.int .i64 a),(.bool d),(.slice (some ⟨31,0,(some 0)⟩) (n+1) 18446744073709551616)]⟩),(.int .i64 0)]⟩) [some (.vec ([SK.int IntKind.i64]) (List.take n (List.drop 0 l)++[Ag s]) false)]))else(Q (.tuple ⟨[(.agg ⟨[(.int .i64 0),(.bool false),(.slice none 0 0)]⟩),(.int .i64 8)]⟩) []))else(Q (.tuple ⟨[(.agg ⟨[(.int .i64 0),(.bool false),(.slice none 0 0)]⟩),(.int .i64 8)]⟩) []))else
 (Q (.tuple ⟨[(.agg ⟨[(.int .i64 0),(.bool false),(.slice none 0 0)]⟩),(.int .i64 8)]⟩) []))else(Q (.tuple ⟨[(.agg ⟨[(.int .i64 0),(.bool false),(.slice none 0 0)]⟩),(.int .i64 8)]⟩) []))else False)else(Q (.tuple ⟨[(.agg ⟨[(.int .i64 0),(.bool false),(.slice none 0 0)]⟩),(.int .i64 8)]⟩) []))else(Q (.tuple ⟨[(.agg ⟨[(.int .i64 0),(.bool false),(.slice none 0 0)]⟩),(.int .i64 8)]⟩) []))else(Q (.tuple ⟨[(.agg ⟨[(.int .i64 0),(.bool false),(.slice none 0 0)]⟩),(.int .i64 8)]⟩) []))else(Q (.tuple ⟨[(.agg ⟨[(.int .i64 0),(.bool false),(.slice none 0 0)]⟩),(.int .i64 8)]⟩) [])))):=by kernel_rfl
end Go.AD

set_option maxRecDepth 1000000
namespace Go.AD
open Go.Proofs
def HV (s:ByteArray) (m:Int):Bool:=bif isNum s then bif decide (Ag s≥0)then bif decide (Ag s≤m)then ByteArray.toList (BT (Ag s))==ByteArray.toList s else false else false else false
def Dg:Nat→ByteArray→Nat→Bool
 | 0,_,_=>false
 | f+1,s,n=>bif hasB s 44 then(bif HV (s.extract 0 (BJ s 44)) 8192 then Dg f (s.extract (BJ s 44+1) s.size) (n+1)else false)else(bif HV s 8192 then Nat.ble n 33 else false)
noncomputable def w0 (s:ByteArray):ByteArray:=List.getD (CM s) 0 (EK.AQ [SK.str])
noncomputable def w1 (s:ByteArray):ByteArray:=List.getD (CM s) 1 (EK.AQ [SK.str])
noncomputable def w2 (s:ByteArray):ByteArray:=List.getD (CM s) 2 (EK.AQ [SK.str])
noncomputable def GM (s:ByteArray):Bool:=bif Nat.beq (CM s).length 3 then bif (ByteArray.toList (w1 s)==ByteArray.toList { data:=#[121] })||(ByteArray.toList (w1 s)==ByteArray.toList { data:=#[110] })then HV (w0 s) 1000000 else false else false
noncomputable def Eo (s:ByteArray):Bool:=bif GM s then Dg ((w2 s).size+1) (w2 s) 0 else false
noncomputable def dt (s:ByteArray):Bool:=ByteArray.toList (w1 s)==ByteArray.toList { data:=#[121] }
def GJ:Nat→ByteArray→List Int
 | 0,_=>[]
 | f+1,s=>bif hasB s 44 then Ag (s.extract 0 (BJ s 44))::GJ f (s.extract (BJ s 44+1) s.size)else [Ag s]
noncomputable def keeps (s:ByteArray):List (EK.C kI):=GJ ((w2 s).size+1) (w2 s)
def YA:Value:= .tuple ⟨[.agg ⟨[.int .i64 0,.bool false,.slice none 0 0]⟩,.int .i64 8]⟩
def okV (a:Int) (d:Bool) (nm n:Nat):Value:= .tuple ⟨[.agg ⟨[.int .i64 a,.bool d,.slice (some ⟨nm,0,some 0⟩) n AF]⟩,.int .i64 0]⟩
theorem size_extract_le (s:ByteArray) (a b:Nat):(s.extract a b).size≤s.size:=by
 rw[ByteArray.size_extract];omega
theorem MS (sep:ByteArray):∀(k:Nat) (s x:ByteArray),x∈Go.Lib.splitB sep 0 k s→x.size≤s.size
 | 0,s,x,h=>by
  rw[Go.Lib.splitB_zero,List.mem_singleton]at h
  rw[h];exact Nat.le_refl _
 | k+1,s,x,h=>by
  unfold Go.Lib.splitB at h
  split at h
  ·rw[List.mem_singleton]at h
   rw[h];exact Nat.le_refl _
  ·rcases List.mem_cons.1 h with h | h
   ·rw[h];exact size_extract_le _ _ _
   ·exact Nat.le_trans (MS sep k _ x h) (size_extract_le _ _ _)
theorem Ng (s:ByteArray) (i:Nat):(List.getD (CM s) i (EK.AQ [SK.str])).size≤s.size:=by
 rw[List.getD_eq_getElem?_getD]
 cases h:(CM s)[i]? with
 | none=>exact Nat.zero_le _
 | some x=>exact MS _ _ s x (List.mem_of_getElem? h)
theorem RH {n m:Int} (h1:decide (n≥0)=true) (h2:decide (n≤m)=true) (hm:m≤1000000:=by decide):Ok n:=by
 have h1:=of_decide_eq_true h1
 have h2:=of_decide_eq_true h2
 exact⟨by omega,by omega⟩
theorem ZM {s:ByteArray} (hs:s.size≤5000):dh Rb UW BB [] eK eY (fun v _=>GM s=false∧v=YA) (fun c=>GM s=true∧c=dI (w2 s) (Ag (w0 s)) (dt s)) 1500 (st BB 7 [.string s] J2):=by
 rw[cN]
 refine And.intro ⟨by omega⟩ ?_
 have hsh:Ip (List.getD (CM s) 0 (EK.AQ [SK.str])):=⟨by have:=Ng s 0;omega⟩
 by_cases hl:(CM s).length=3
 ·rw[hl]
  refine AE rfl ?_
  have e:GM s=bif (ByteArray.toList (w1 s)==ByteArray.toList { data:=#[121] })||(ByteArray.toList (w1 s)==ByteArray.toList { data:=#[110] })then HV (w0 s) 1000000 else false:=by unfold GM;rw[hl];rfl
  rw[e]
  unfold HV dt w0 w1
  have hi:∀c1 c2,decide (Ag (List.getD (CM s) 0 (EK.AQ [SK.str]))≥0)=c1→decide (Ag (List.getD (CM s) 0 (EK.AQ [SK.str]))≤1000000)=c2→c1=true→c2=true→Ok (Ag (List.getD (CM s) 0 (EK.AQ [SK.str]))):=fun c1 c2 h1 h2 e1 e2=>RH (h1.trans e1) (h2.trans e2)
  generalize h1:decide (Ag (List.getD (CM s) 0 (EK.AQ [SK.str]))≥0)=c1
  generalize h2:decide (Ag (List.getD (CM s) 0 (EK.AQ [SK.str]))≤1000000)=c2
  have hi2:=hi c1 c2 h1 h2
  generalize isNum (List.getD (CM s) 0 (EK.AQ [SK.str]))=c3
  generalize (ByteArray.toList (BT (Ag (List.getD (CM s) 0 (EK.AQ [SK.str]))))==ByteArray.toList (List.getD (CM s) 0 (EK.AQ [SK.str])))=c4
  generalize (ByteArray.toList (List.getD (CM s) 1 (EK.AQ [SK.str]))==ByteArray.toList { data:=#[121] })=c5
  generalize (ByteArray.toList (List.getD (CM s) 1 (EK.AQ [SK.str]))==ByteArray.toList { data:=#[110] })=c6
  cases c5<;>cases c6<;>cases c3<;>cases c1<;>cases c2<;>cases c4<;>(repeat' first
   | exact⟨rfl,rfl⟩
   | refine And.intro hsh ?_
   | refine And.intro (hi2 rfl rfl) ?_
   | refine And.intro rfl ?_
   | refine AE rfl ?_
   | refine AW rfl ?_)
 ·refine AW (by rw[beq_eq_false_iff_ne];intro e;exact hl (by have:Int.ofNat (CM s).length=Int.ofNat 3:=e;exact Int.ofNat.inj this)) ?_
  have hb:Nat.beq (CM s).length 3=false:=by cases h:Nat.beq (CM s).length 3;rfl;exact absurd (Nat.eq_of_beq_eq_true h) hl
  exact⟨by unfold GM;rw[hb];rfl,rfl⟩
end Go.AD

set_option maxRecDepth 1000000
namespace Go.AD
open Go.Proofs
def fH (l:List (EK.C kI)):Prop:=∀k∈l,(0:Int)≤k∧k≤8192
theorem YV {l:List (EK.C kI)} {k:Int} (h:fH l) (h0:0≤k) (h1:k≤8192) (n:Nat):Jw (List.take n (List.drop 0 l)++[k])=false:=by
 unfold Jw
 rw[Bool.eq_false_iff]
 intro he
 rw[List.any_eq_true]at he
 obtain⟨x,hx,hb⟩:=he
 have hr:(0:Int)≤x∧x≤8192:=by
  rcases List.mem_append.1 hx with hx | hx
  ·exact h x (by rw[List.drop_zero]at hx;exact List.mem_of_mem_take hx)
  ·rw[List.mem_singleton]at hx;rw[hx];exact⟨h0,h1⟩
 rw[decide_eq_true hr.1,decide_eq_true hr.2]at hb
 cases hb
theorem Z5 {l:List (EK.C kI)} {k:Int} (h:fH l) (h0:0≤k) (h1:k≤8192):fH (l++[k]):=by
 intro x hx
 rcases List.mem_append.1 hx with hx | hx
 ·exact h x hx
 ·rw[List.mem_singleton]at hx;rw[hx];exact⟨h0,h1⟩
theorem fS {m:Nat} (h:m≤100000):BO 8 m=true:=by
 unfold BO
 rw[Bool.and_eq_true]
 exact⟨Nat.ble_eq_true_of_le (by omega),Nat.ble_eq_true_of_le (by omega)⟩
theorem Wo {s:ByteArray} {c:UInt8} (h:hasB s c=true):BJ s c < s.size:=by
 unfold hasB at h
 have h:=of_decide_eq_true h
 have e:Go.Lib.indexByte s.data.toList c=((BJ s c:Nat):Int):=by unfold BJ;omega
 have:=(Go.Lib.indexByte_some e).1
 have:=(List.getElem?_eq_some_iff.1 this).1
 simpa using this
theorem Qw (c:UInt8):U7 { data:=#[c] }=some c:=rfl
theorem Sj:FD Rb UW:=by
 refine An (fun args H K h=>?_) (An (fun args H K h=>?_) (An (fun args H K h=>?_) (An (fun args H K h=>?_) (An (fun args H K h=>?_) (Av _)))))
 ·unfold TX at h
  split at h
  ·rename_i s
   refine Uw (X:=Rb) (f:=Dy) (sp:=CM) rfl (H:=H) (K:=K) ?_
   unfold SC
   simp only[Qw]
   exact⟨⟨by have:=h.1.lt;omega,rfl⟩,h.2⟩
  ·exact h.elim
 ·refine Ts (X:=Rb) (f:=EN) (T:=206) rfl (H:=H) (K:=K) ?_
  unfold WO at h
  split at h
  ·exact⟨h.1.lt,h.2⟩
  ·exact h.elim
 ·refine NR (X:=Rb) (f:=Cj) rfl (H:=H) (K:=K) ?_
  unfold Ou at h
  split at h
  ·exact⟨⟨h.1.lo,h.1.hi⟩,h.2⟩
  ·exact h.elim
 ·unfold TY at h
  split at h
  ·rename_i s c
   have hX:Rb.FL Dz=some L1:=rfl
   unfold Bp
   simp only[hX]
   unfold L1 RD
   simp only[Qw]
   refine⟨_,_,rfl,?_⟩
   have hge:=Go.Lib.indexByte_ge s.data.toList c
   cases hb:hasB s c
   ·rw[hb]at h
    have hb:=of_decide_eq_false hb
    have e:Go.Lib.indexByte s.data.toList c=Int.negSucc 0:=by
     show Go.Lib.indexByte s.data.toList c= -1
     omega
    rw[e];exact h
   ·rw[hb]at h
    have hb:=of_decide_eq_true hb
    have e:Go.Lib.indexByte s.data.toList c=Int.ofNat (BJ s c):=by
     show _=((BJ s c:Nat):Int)
     unfold BJ;omega
    rw[e];exact h
  ·exact h.elim
 ·exact Ak (X:=Rb) (f:=At) rfl h
def PQ (b:Bool) (a:Int) (d:Bool) (L:List (EK.C kI)) (v:Value) (H:AA):Prop:=(b=false∧v=YA)∨(b=true∧∃nm,20≤nm∧v=okV a d nm L.length∧H.get nm=some (.vec kI L false))
def fE (b:Bool) (a:Int) (d:Bool) (L:List (EK.C kI)) (v:Value) (os:List (Option AJ)):Prop:=(b=false∧v=YA)∨(b=true∧∃nm,20≤nm∧v=okV a d nm L.length∧os=[some (.vec kI L false)])
theorem fE.to {b:Bool} {a:Int} {d:Bool} {L:List (EK.C kI)} {v:Value} {H:AA} (h:fE b a d L v (([]++Af 4 v).map H.get)):PQ b a d L v H:=by
 rcases h with h | ⟨h1,nm,h2,rfl,h3⟩
 ·exact .inl h
 ·have h3:[H.get nm]=_:=h3
  exact .inr ⟨h1,nm,h2,rfl,by injection h3⟩
theorem Zp:∀(f:Nat) (s:ByteArray) (a:Int) (d:Bool) (l:List (EK.C kI)) (n:Nat),s.size < f→l.length=n→fH l→0≤a→a≤1000000→n+s.size≤5000→
 As Rb 20 BB (PQ (Dg f s n) a d (l++GJ f s)) (dw s a d l n):=by
 intro f
 induction f with
 | zero=>intro s a d l n h;omega
 | succ f ih=>
  intro s a d l n hf hl hk ha0 ha1 hn
  refine YB (X:=Rb) (pf:=UW) ?_ (ids:=[]) (S:=eK) (ks:=eY) (by kernel_rfl) (Q:=fE (Dg (f+1) s n) a d (l++GJ (f+1) s))
   (R:=fun c=>Dg (f+1) s n=Dg f (s.extract (BJ s 44+1) s.size) (n+1)∧hasB s 44=true∧(0≤Ag (s.extract 0 (BJ s 44))∧Ag (s.extract 0 (BJ s 44))≤8192)∧c=dw (s.extract (BJ s 44+1) s.size) a d (l++[Ag (s.extract 0 (BJ s 44))]) (n+1)) (fun v H h=>h.to) (fun c h=>?_) 1500 _ ?_
  ·exact Sj
  ·obtain⟨h1,h2,⟨h3,h4⟩,rfl⟩:=h
   have hp:=Wo h2
   have hkl:l++GJ (f+1) s=(l++[Ag (s.extract 0 (BJ s 44))])++GJ f (s.extract (BJ s 44+1) s.size):=by
    have e:GJ (f+1) s=Ag (s.extract 0 (BJ s 44))::GJ f (s.extract (BJ s 44+1) s.size):=by
     show(bif hasB s 44 then _ else _)=_
     rw[h2];rfl
    rw[e,List.append_assoc];rfl
   rw[h1,hkl]
   refine ih _ a d _ (n+1) ?_ (by simp[hl]) (Z5 hk h3 h4) ha0 ha1 ?_
   ·rw[ByteArray.size_extract];omega
   ·rw[ByteArray.size_extract];omega
  ·rw[dp]
   have htk:List.take n (List.drop 0 l)=l:=by rw[List.drop_zero];exact List.take_of_length_le (by omega)
   have hbig:(true&&Nat.ble (0+n) (List.length l)&&BO 8 (n+1))=true:=by rw[fS (by omega),Nat.ble_eq_true_of_le (by omega)];rfl
   have hq:∀{os:List (Option AJ)},Dg (f+1) s n=false→fE (Dg (f+1) s n) a d (l++GJ (f+1) s) YA os:=fun e=> .inl ⟨e,rfl⟩
   cases hb:hasB s 44
   ·have hko:Dg (f+1) s n=bif HV s 8192 then Nat.ble n 33 else false:=by unfold Dg;rw[hb];rfl
    refine And.intro ⟨by omega⟩ ?_
    rw[htk,hbig]
    have hbk:∀c1 c2,decide (Ag s≥0)=c1→decide (Ag s≤8192)=c2→c1=true→c2=true→Jw (l++[Ag s])=false∧Ok (Ag s):=fun c1 c2 h1 h2 e1 e2=>by
     have g1:=of_decide_eq_true (h1.trans e1)
     have g2:=of_decide_eq_true (h2.trans e2)
     have:=YV hk g1 g2 n
     rw[htk]at this
     exact⟨this,RH (h1.trans e1) (h2.trans e2) (by decide)⟩
    unfold HV at hko
    generalize h1:decide (Ag s≥0)=c1 at hko
    generalize h2:decide (Ag s≤8192)=c2 at hko
    have hbk2:=hbk c1 c2 h1 h2
    generalize isNum s=c3 at hko
    generalize (ByteArray.toList (BT (Ag s))==ByteArray.toList s)=c4 at hko
    have hw:IntKind.wrap .i64 (Int.ofNat (n+1) - 1)=(n:Int):=by
     rw[show Int.ofNat (n+1) - 1=(n:Int) by simp,wrap64 (by omega) (by omega)]
    rw[hw]
    cases c3<;>cases c1<;>cases c2<;>cases c4<;>(try exact hq hko)
    ·exact And.intro (hbk2 rfl rfl).2 (hq hko)
    ·refine And.intro (hbk2 rfl rfl).2 (And.intro rfl (And.intro rfl ?_))
     refine AE rfl (AE (decide_eq_true ha0) (AE (decide_eq_true ha1) (AE (decide_eq_true (by omega)) ?_)))
     refine AT (fun h=>?_) (fun h=>?_)
     ·refine And.intro ⟨⟨by simp[hl],rfl⟩,by omega⟩ ?_
      refine AW (hbk2 rfl rfl).1 ?_
      have e:Nat.ble n 33=true:=Nat.ble_eq_true_of_le (by omega)
      rw[e]at hko
      have ekl:GJ (f+1) s=[Ag s]:=by
       show(bif hasB s 44 then _ else _)=_
       rw[hb];rfl
      rw[ekl]
      exact .inr ⟨hko,31,by decide,by unfold okV;rw[Oh,List.length_append,hl];rfl,rfl⟩
     ·have e:Nat.ble n 33=false:=by
       cases h:Nat.ble n 33
       ·rfl
       ·have:=Nat.le_of_ble_eq_true h;omega
      rw[e]at hko
      exact hq hko
   ·have hp:=Wo hb
    have hko:Dg (f+1) s n=bif HV (s.extract 0 (BJ s 44)) 8192 then Dg f (s.extract (BJ s 44+1) s.size) (n+1)else false:=by
     show(bif hasB s 44 then _ else _)=_
     rw[hb];rfl
    have hw0:IntKind.wrap .i64 (Int.ofNat (BJ s 44)+0)=((BJ s 44:Nat):Int):=by
     rw[show Int.ofNat (BJ s 44)+0=((BJ s 44:Nat):Int) by simp,wrap64 (by omega) (by omega)]
    have hw1:IntKind.wrap .i64 (Int.ofNat (BJ s 44)+1)=((BJ s 44+1:Nat):Int):=by
     rw[show Int.ofNat (BJ s 44)+1=((BJ s 44+1:Nat):Int) by simp,wrap64 (by omega) (by omega)]
    have hz:Int.toNat (Int.ofNat s.size)=s.size:=rfl
    rw[hw0,hw1,hz,Int.toNat_natCast,Int.toNat_natCast,htk,hbig]
    have hc1:(decide (0≤((BJ s 44:Nat):Int))&&Nat.ble (BJ s 44) s.size&&decide ((0:Int)≤0)&&Nat.ble 0 (BJ s 44))=true:=by
     rw[decide_eq_true (Int.natCast_nonneg _),Nat.ble_eq_true_of_le (Nat.le_of_lt hp),Nat.ble_eq_true_of_le (Nat.zero_le _)];rfl
    have hc2:(decide (0≤Int.ofNat s.size)&&Nat.ble s.size s.size&&decide (0≤((BJ s 44+1:Nat):Int))&&Nat.ble (BJ s 44+1) s.size)=true:=by
     rw[decide_eq_true (Int.natCast_nonneg _),Nat.ble_eq_true_of_le (show BJ s 44+1≤s.size from hp),Nat.ble_eq_true_of_le (Nat.le_refl _),show decide (0≤Int.ofNat s.size)=true from decide_eq_true (Int.natCast_nonneg _)];rfl
    refine AE rfl (AE hc1 ?_)
    have hx:=size_extract_le s 0 (BJ s 44)
    refine And.intro ⟨by omega⟩ ?_
    have hbk:∀c1 c2,decide (Ag (s.extract 0 (BJ s 44))≥0)=c1→decide (Ag (s.extract 0 (BJ s 44))≤8192)=c2→c1=true→c2=true→(0≤Ag (s.extract 0 (BJ s 44))∧Ag (s.extract 0 (BJ s 44))≤8192)∧Ok (Ag (s.extract 0 (BJ s 44))):=fun c1 c2 h1 h2 e1 e2=>
     ⟨⟨of_decide_eq_true (h1.trans e1),of_decide_eq_true (h2.trans e2)⟩,RH (h1.trans e1) (h2.trans e2) (by decide)⟩
    unfold HV at hko
    generalize h1:decide (Ag (s.extract 0 (BJ s 44))≥0)=c1 at hko
    generalize h2:decide (Ag (s.extract 0 (BJ s 44))≤8192)=c2 at hko
    have hbk2:=hbk c1 c2 h1 h2
    generalize isNum (s.extract 0 (BJ s 44))=c3 at hko
    generalize (ByteArray.toList (BT (Ag (s.extract 0 (BJ s 44))))==ByteArray.toList (s.extract 0 (BJ s 44)))=c4 at hko
    cases c3<;>cases c1<;>cases c2<;>cases c4<;>(try exact hq hko)
    ·exact And.intro (hbk2 rfl rfl).2 (hq hko)
    ·refine And.intro (hbk2 rfl rfl).2 (And.intro rfl (And.intro rfl ?_))
     refine AE rfl (AE hc2 ?_)
     exact⟨hko,rfl,(hbk2 rfl rfl).1,rfl⟩
end Go.AD

set_option maxRecDepth 1000000
namespace Go.AD
open Go.Proofs
structure Sz (s:ByteArray):Prop where
 le:s.size≤4000
theorem Xj {s:ByteArray} {m:Int} (h:HV s m=true):0≤Ag s∧Ag s≤m:=by
 unfold HV at h
 generalize h1:decide (Ag s≥0)=c1 at h
 generalize h2:decide (Ag s≤m)=c2 at h
 cases hn:isNum s
 ·rw[hn]at h;cases h
 ·rw[hn]at h
  cases c1
  ·cases h
  ·cases c2
   ·cases h
   ·exact⟨of_decide_eq_true h1,of_decide_eq_true h2⟩
theorem VD {s:ByteArray} (h:GM s=true):0≤Ag (w0 s)∧Ag (w0 s)≤1000000:=by
 unfold GM at h
 cases h1:Nat.beq (CM s).length 3
 ·rw[h1]at h;cases h
 ·rw[h1,cond_true]at h
  cases h2:((ByteArray.toList (w1 s)==ByteArray.toList { data:=#[121] })||(ByteArray.toList (w1 s)==ByteArray.toList { data:=#[110] }))
  ·rw[h2]at h;cases h
  ·rw[h2,cond_true]at h;exact Xj h
theorem Vd {s:ByteArray} {a:Int} {d:Bool} {Q:Value→AA→Prop} (h:As Rb 20 BB Q (dw s a d [] 0)):As Rb 20 BB Q (dI s a d):=by
 refine A6.VF (b:=25) (j:=1) (k:=kI) (pre:=[.int .i64 a,.bool d]) (post:=[]) (e:=0) (ro:=false) (b':=20) (o:=0) (s:=none) (by kernel_rfl) (by kernel_rfl) (by kernel_rfl) (by kernel_rfl) (by decide) ?_
 exact Eq.mp (by kernel_rfl) h
theorem SO {s:ByteArray} (hs:s.size≤4000):As Rb 20 BB (PQ (Eo s) (Ag (w0 s)) (dt s) (keeps s)) (st BB 7 [.string s] J2):=by
 refine YB (X:=Rb) (pf:=UW) Sj (ids:=[]) (S:=eK) (ks:=eY) (by kernel_rfl) (Q:=fun v _=>GM s=false∧v=YA) (R:=fun c=>GM s=true∧c=dI (w2 s) (Ag (w0 s)) (dt s)) (fun v H h=>?_) (fun c h=>?_) 1500 _ (ZM (by omega))
 ·obtain⟨h1,h2⟩:=h
  exact .inl ⟨by unfold Eo;rw[h1];rfl,h2⟩
 ·obtain⟨h1,rfl⟩:=h
  obtain⟨g1,g2⟩:=VD h1
  have hw:=Ng s 2
  have e:Eo s=Dg ((w2 s).size+1) (w2 s) 0:=by unfold Eo;rw[h1];rfl
  rw[e]
  refine Vd (Zp ((w2 s).size+1) (w2 s) _ _ [] 0 (Nat.lt_succ_self _) rfl (fun k hk=>by cases hk) g1 g2 ?_)
  show 0+(List.getD (CM s) 2 (EK.AQ [SK.str])).size≤5000
  omega
noncomputable def Oo (args:List Value) (objs:List AJ):GT:=
 match args,objs with
 | [.string s],[]=> .ask (Sz s) (.test (Eo s) (.ret ⟨.tuple ⟨[.agg ⟨[.int .i64 (Ag (w0 s)),.bool (dt s),.slice (some ⟨20,0,some 0⟩) (keeps s).length AF]⟩,.int .i64 0]⟩,[],[.vec kI (keeps s) false]⟩) (.ret ⟨.tuple ⟨[.agg ⟨[.int .i64 0,.bool false,.slice none 0 0]⟩,.int .i64 8]⟩,[],[]⟩))
 | _,_=> .fail
theorem WW {m b:Nat} {muts:List Bool} {Ja:List (Option AJ)} {v v':Value} {o o1:AJ} {Hf:AA} (holds:∀(j:Nat) (o:AJ),Ja[j]?≠some (some o)) (hb:20+m≤b) (hv:EG (Ci.F6 AL 20 m [b]) v=some v')
 (ho:BR (Ci.F6 AL 20 m [b]) o=some o1) (h:Hf.get b=some o1):Ci AL 20 m muts ⟨v,Ja,[o]⟩ v' Hf:=by
 refine⟨[b],by simp,fun c hc=>by simp at hc;omega,rfl,hv,fun j c p hj hp=>?_,fun j p _ _ hp=>absurd hp (holds j p)⟩
 cases j with
 | zero=>cases hj;cases hp;exact⟨o1,ho,h⟩
 | succ j=>cases hj
theorem Tq (hfs:Aw Tryz.prog AL Zc):Da Tryz.prog AL BB (A3 AL 20 [] Oo):=by
 refine LR (fs:=Zc) hfs (by kernel_rfl) (n:=7) (by kernel_rfl) (by kernel_rfl) fun argsc objs x hx _=>?_
 unfold Oo at hx
 split at hx
 ·rename_i s
  simp only[GT.run]at hx
  split at hx
  ·rename_i hs
   refine⟨by simp,As.mono (SO hs.le) fun v H h=>?_⟩
   rcases h with⟨h1,rfl⟩ | ⟨h1,nm,h2,rfl,h3⟩
   ·rw[h1]at hx
    cases hx
    exact E9 rfl
   ·rw[h1]at hx
    cases hx
    exact WW (m:=0) (b:=nm) (fun j o=>by simp) h2 rfl rfl h3
  ·cases hx
 ·cases hx
end Go.AD

set_option maxRecDepth 100000
namespace Go.AD
theorem Zf (s:ByteArray):s.size=s.data.toList.length:=(Array.length_toList).symm
theorem Uz (s:ByteArray):(Ms s).size≤1024:=by
 unfold Ms
 split
 ·exact Nat.zero_le _
 ·split
  ·show 1≤1024;omega
  ·rw[Zf]
   unfold KD
   show((HT (By s)).map fun n=>UInt8.ofNat n.toNat).length≤1024
   rw[List.length_map,G8,Cs];omega
end Go.AD

set_option maxRecDepth 1000000
namespace Go.AD
open Go.Proofs
noncomputable def IX (k a b:Int) (key val:ByteArray):Value:= .agg ⟨[.int .i64 k,.int .i64 a,.int .i64 b,.string key,.string val]⟩
noncomputable abbrev cF:List (FuncId × Cn):=[(Bi,S3.F),(Bz,T8),(Cj,JC),(BB,A3 AL 20 [] Oo)]
noncomputable def bA:Ctx:=Cp Tryz.prog AL cF
noncomputable def ar:FJ:=fun args H K=>match args with
 | [.string s]=>K (.int .i64 (FB s)) H
 | _=>False
noncomputable def ay:FJ:=fun args H K=>match args with
 | [.string s]=>K (.tuple ⟨[.string (Ms s),.int .i64 (FN s)]⟩) H
 | _=>False
noncomputable def aJ:Pf:=fun g=>bif Nat.beq g Bi then some ar else bif Nat.beq g Bz then some ay else bif Nat.beq g Cj then some Ou else bif Nat.beq g BB then some (B0 AL 20 [] Oo)else Cv g
theorem eQ (k a b:Int) (key val:ByteArray) (Q:Value→List (Option AJ)→Prop):Gv bA aJ C5 [] Q 2000 (st C5 11 [IX k a b key val] J2)=(
 (bif decide (k < 1)then(((.agg ⟨[(.int .i64 k),(.int .i64 0),(.int .i64 0),(.string ({ data:=#[] })),(.string ({ data:=#[] }))]⟩):Value)=(.agg ⟨[(.int .i64 k),(.int .i64 0),(.int .i64 0),(.string ({ data:=#[] })),(.string ({ data:=#[] }))]⟩))∧(((.int .i64 k):Value)=(.int .i64 k))∧(((.pointer (some ⟨21,0,none⟩)):Value)=(.pointer (some ⟨21,0,none⟩)))∧(Q (.int .i64 2) [])else(bif decide (k≥9)then(((.agg ⟨[(.int .i64 k),(.int .i64 0),(.int .i64 0),(.string ({ data:=#[] })),(.string ({ data:=#[] }))]⟩):Value)=(.agg ⟨[(.int .i64 k),(.int .i64 0),(.int .i64 0),(.string ({ data:=#[] })),(.string ({ data:=#[] }))]⟩))∧(((.int .i64 k):Value)=(.int .i64 k))∧(((.pointer (some ⟨21,0,none⟩)):Value)=(.pointer (some ⟨21,0,none⟩)))∧(Q (.int .i64 2) [])else(bif k==8 then(((.agg ⟨[(.int .i64 k),(.int .i64 0),(.int .i64 0),(.string ({ data:=#[] })),(.string ({ data:=#[] }))]⟩):Value)=(.agg ⟨[(.int .i64 k),(.int .i64 0),(.int .i64 0),(.string ({ data:=#[] })),(.string ({ data:=#[] }))]⟩))∧(((.int .i64 k):Value)=(.int .i64 k))∧(((.pointer (some ⟨21,0,none⟩)):Value)=(.pointer (some ⟨21,0,none⟩)))∧(bif !(k==k&&(0==a&&(0==b&&(ByteArray.toList { data:=#[] }==ByteArray.toList key&&(ByteArray.toList { data:=#[] }==ByteArray.toList val&&true)))))then(Q (.int .i64 2) [])else(Q (.int .i64 0) []))else(bif k==7 then(((.agg ⟨[(.int .i64 k),(.int .i64 0),(.int .i64 0),(.string ({ data:=#[] })),(.string ({ data:=#[] }))]⟩):Value)=(.agg ⟨[(.int .i64 k),(.int .i64 0),(.int .i64 0),(.string ({ data:=#[] })),(.string ({ data:=#[] }))]⟩))∧(((.int .i64 k):Value)=(.int .i64 k))∧(((.pointer (some ⟨21,0,none⟩)):Value)=(.pointer (some ⟨21,0,none⟩)))∧(bif IntKind.wrap .i64 ↑(BitVec.toNat (BitVec.ofInt (IntKind.bits IntKind.i64) b &&& BitVec.ofInt (IntKind.bits IntKind.i64) 1))==1 then(Ok a)∧(((.string val):Value)=(.string val))∧(((.pointer (some ⟨26,4,none⟩)):Value)=(.pointer (some ⟨26,4,none⟩)))∧(((.string ({ data:=#[121] })):Value)=(.string ({ data:=#[121] })))∧(bif IntKind.wrap .i64 ↑(BitVec.toNat (BitVec.ofInt (IntKind.bits IntKind.i64) b &&& BitVec.ofInt (IntKind.bits IntKind.i64) 1))==1 then(((.pointer (some ⟨28,1,none⟩)):Value)=(.pointer (some ⟨28,1,none⟩)))∧(((.int .i64 (IntKind.wrap .i64 ↑(BitVec.toNat (BitVec.ofInt (IntKind.bits IntKind.i64) b &&& BitVec.ofInt (IntKind.bits IntKind.i64) 1)))):Value)=(.int .i64 (IntKind.wrap .i64 ↑(BitVec.toNat (BitVec.ofInt (IntKind.bits IntKind.i64) b &&& BitVec.ofInt (IntKind.bits IntKind.i64) 1)))))∧(((.int .i64 b):Value)=(.int .i64 b))∧(((.pointer (some ⟨26,2,none⟩)):Value)=(.pointer (some ⟨26,2,none⟩)))∧(bif Nat.ble (ByteArray.size (BT a)+ByteArray.size { data:=#[32] }) 9223372036854775807 then(bif Nat.ble (ByteArray.size (BT a++{ data:=#[32] })+ByteArray.size { data:=#[121] }) 9223372036854775807 then(bif Nat.ble (ByteArray.size (BT a++{ data:=#[32] }++{ data:=#[121] })+ByteArray.size { data:=#[32] }) 9223372036854775807 then(bif Nat.ble (ByteArray.size (BT a++{ data:=#[32] }++{ data:=#[121] }++{ data:=#[32] })+ByteArray.size val) 9223372036854775807 then(Sz (BT a++{ data:=#[32] }++{ data:=#[121] }++{ data:=#[32] }++val))∧(bif Eo (BT a++{ data:=#[32] }++{ data:=#[121] }++{ data:=#[32] }++val)then(bif Nat.ble (ByteArray.size { data:=#[32] }+ByteArray.size (BT a++{ data:=#[32] }++{ data:=#[121] }++{ data:=#[32] }++val)) 9223372036854775807 then
 (((.bool (0==0)):Value)=(.bool true))∧(((.int .i64 0):Value)=(.int .i64 0))∧(((.agg ⟨[(.int .i64 k),(.int .i64 a),(.int .i64 (IntKind.wrap .i64 ↑(BitVec.toNat (BitVec.ofInt (IntKind.bits IntKind.i64) b &&& BitVec.ofInt (IntKind.bits IntKind.i64) 1)))),(.string ({ data:=#[] })),(.string val)]⟩):Value)=(.agg ⟨[(.int .i64 k),(.int .i64 a),(.int .i64 (IntKind.wrap .i64 ↑(BitVec.toNat (BitVec.ofInt (IntKind.bits IntKind.i64) b &&& BitVec.ofInt (IntKind.bits IntKind.i64) 1)))),(.string ({ data:=#[] })),(.string val)]⟩))∧(((.string val):Value)=(.string val))∧(((.pointer (some ⟨26,4,none⟩)):Value)=(.pointer (some ⟨26,4,none⟩)))∧(((.int .i64 (IntKind.wrap .i64 ↑(BitVec.toNat (BitVec.ofInt (IntKind.bits IntKind.i64) b &&& BitVec.ofInt (IntKind.bits IntKind.i64) 1)))):Value)=(.int .i64 (IntKind.wrap .i64 ↑(BitVec.toNat (BitVec.ofInt (IntKind.bits IntKind.i64) b &&& BitVec.ofInt (IntKind.bits IntKind.i64) 1)))))∧(((.int .i64 b):Value)=(.int .i64 b))∧(((.pointer (some ⟨26,2,none⟩)):Value)=(.pointer (some ⟨26,2,none⟩)))∧(((.int .i64 a):Value)=(.int .i64 a))∧(((.pointer (some ⟨26,1,none⟩)):Value)=(.pointer (some ⟨26,1,none⟩)))∧(((.int .i64 k):Value)=(.int .i64 k))∧(((.pointer (some ⟨26,0,none⟩)):Value)=(.pointer (some ⟨26,0,none⟩)))∧(((.bool (0==0)):Value)=(.bool true))∧(((.int .i64 0):Value)=(.int .i64 0))∧(bif !(k==k&&(a==a&&(IntKind.wrap .i64 ↑(BitVec.toNat (BitVec.ofInt (IntKind.bits IntKind.i64) b &&& BitVec.ofInt (IntKind.bits IntKind.i64) 1))==b&&(ByteArray.toList { data:=#[] }==ByteArray.toList key&&(ByteArray.toList val==ByteArray.toList val&&true)))))then(Q (.int .i64 2) [])else(bif Nat.ble (ByteArray.size { data:=#[99,114,97,115,104] }+ByteArray.size ({ data:=#[32] }++(BT a++{ data:=#[32] }++{ data:=#[121] }++{ data:=#[32] }++val))) 9223372036854775807 then(Q (.int .i64 0) [])else False))else False)else(bif Nat.ble (ByteArray.size { data:=#[32] }+ByteArray.size (BT a++{ data:=#[32] }++{ data:=#[121] }++{ data:=#[32] }++val)) 9223372036854775807 then(((.bool (8==0)):Value)=(.bool false))∧(((.int .i64 8):Value)=(.int .i64 8))∧(((.agg ⟨[(.int .i64 k),(.int .i64 a),(.int .i64 (IntKind.wrap .i64 ↑(BitVec.toNat (BitVec.ofInt (IntKind.bits IntKind.i64) b &&& BitVec.ofInt (IntKind.bits IntKind.i64) 1)))),(.string ({ data:=#[] })),(.string val)]⟩):Value)=(.agg ⟨[(.int .i64 k),(.int .i64 a),(.int .i64 (IntKind.wrap .i64 ↑(BitVec.toNat (BitVec.ofInt (IntKind.bits IntKind.i64) b &&& BitVec.ofInt (IntKind.bits IntKind.i64) 1)))),(.string ({ data:=#[] })),(.string val)]⟩))∧(((.string val):Value)=(.string val))∧(((.pointer (some ⟨26,4,none⟩)):Value)=(.pointer (some ⟨26,4,none⟩)))∧(((.int .i64 (IntKind.wrap .i64 ↑(BitVec.toNat (BitVec.ofInt (IntKind.bits IntKind.i64) b &&& BitVec.ofInt (IntKind.bits IntKind.i64) 1)))):Value)=(.int .i64 (IntKind.wrap .i64 ↑(BitVec.toNat (BitVec.ofInt (IntKind.bits IntKind.i64) b &&& BitVec.ofInt (IntKind.bits IntKind.i64) 1)))))∧(((.int .i64 b):Value)=(.int .i64 b))∧(((.pointer (some ⟨26,2,none⟩)):Value)=(.pointer (some ⟨26,2,none⟩)))∧(((.int .i64 a):Value)=(.int .i64 a))∧(((.pointer (some ⟨26,1,none⟩)):Value)=(.pointer (some ⟨26,1,none⟩)))∧(((.int .i64 k):Value)=(.int .i64 k))∧(((.pointer (some ⟨26,0,none⟩)):Value)=(.pointer (some ⟨26,0,none⟩)))∧(((.bool (8==0)):Value)=(.bool false))∧(((.int .i64 8):Value)=(.int .i64 8))∧(Q (.int .i64 2) [])else False))else False)else
 False)else False)else False)else(bif IntKind.wrap .i64 ↑(BitVec.toNat (BitVec.ofInt (IntKind.bits IntKind.i64) b &&& BitVec.ofInt (IntKind.bits IntKind.i64) 1))==0 then(((.pointer (some ⟨28,0,none⟩)):Value)=(.pointer (some ⟨28,1,none⟩)))∧(((.int .i64 (IntKind.wrap .i64 ↑(BitVec.toNat (BitVec.ofInt (IntKind.bits IntKind.i64) b &&& BitVec.ofInt (IntKind.bits IntKind.i64) 1)))):Value)=(.int .i64 (IntKind.wrap .i64 ↑(BitVec.toNat (BitVec.ofInt (IntKind.bits IntKind.i64) b &&& BitVec.ofInt (IntKind.bits IntKind.i64) 1)))))∧(((.int .i64 b):Value)=(.int .i64 b))∧(((.pointer (some ⟨26,2,none⟩)):Value)=(.pointer (some ⟨26,2,none⟩)))∧(bif Nat.ble (ByteArray.size (BT a)+ByteArray.size { data:=#[32] }) 9223372036854775807 then(bif Nat.ble (ByteArray.size (BT a++{ data:=#[32] })+ByteArray.size { data:=#[121] }) 9223372036854775807 then(bif Nat.ble (ByteArray.size (BT a++{ data:=#[32] }++{ data:=#[121] })+ByteArray.size { data:=#[32] }) 9223372036854775807 then(bif Nat.ble (ByteArray.size (BT a++{ data:=#[32] }++{ data:=#[121] }++{ data:=#[32] })+ByteArray.size val) 9223372036854775807 then(Sz (BT a++{ data:=#[32] }++{ data:=#[121] }++{ data:=#[32] }++val))∧(bif Eo (BT a++{ data:=#[32] }++{ data:=#[121] }++{ data:=#[32] }++val)then(bif Nat.ble (ByteArray.size { data:=#[32] }+ByteArray.size (BT a++{ data:=#[32] }++{ data:=#[121] }++{ data:=#[32] }++val)) 9223372036854775807 then(((.bool (0==0)):Value)=(.bool true))∧(((.int .i64 0):Value)=(.int .i64 0))∧(((.agg ⟨[(.int .i64 k),(.int .i64 a),(.int .i64 (IntKind.wrap .i64 ↑(BitVec.toNat (BitVec.ofInt (IntKind.bits IntKind.i64) b &&& BitVec.ofInt (IntKind.bits IntKind.i64) 1)))),(.string ({ data:=#[] })),(.string val)]⟩):Value)=(.agg ⟨[(.int .i64 k),(.int .i64 a),(.int .i64 (IntKind.wrap .i64 ↑(BitVec.toNat (BitVec.ofInt (IntKind.bits IntKind.i64) b &&& BitVec.ofInt (IntKind.bits IntKind.i64) 1)))),(.string ({ data:=#[] })),(.string val)]⟩))∧(((.string val):Value)=(.string val))∧(((.pointer (some ⟨26,4,none⟩)):Value)=(.pointer (some ⟨26,4,none⟩)))∧(((.int .i64 (IntKind.wrap .i64 ↑(BitVec.toNat (BitVec.ofInt (IntKind.bits IntKind.i64) b &&& BitVec.ofInt (IntKind.bits IntKind.i64) 1)))):Value)=(.int .i64 (IntKind.wrap .i64 ↑(BitVec.toNat (BitVec.ofInt (IntKind.bits IntKind.i64) b &&& BitVec.ofInt (IntKind.bits IntKind.i64) 1)))))∧(((.int .i64 b):Value)=(.int .i64 b))∧(((.pointer (some ⟨26,2,none⟩)):Value)=(.pointer (some ⟨26,2,none⟩)))∧(((.int .i64 a):Value)=(.int .i64 a))∧(((.pointer (some ⟨26,1,none⟩)):Value)=(.pointer (some ⟨26,1,none⟩)))∧(((.int .i64 k):Value)=(.int .i64 k))∧(((.pointer (some ⟨26,0,none⟩)):Value)=(.pointer (some ⟨26,0,none⟩)))∧(((.bool (0==0)):Value)=(.bool true))∧(((.int .i64 0):Value)=(.int .i64 0))∧(bif !(k==k&&(a==a&&(IntKind.wrap .i64 ↑(BitVec.toNat (BitVec.ofInt (IntKind.bits IntKind.i64) b &&& BitVec.ofInt (IntKind.bits IntKind.i64) 1))==b&&(ByteArray.toList { data:=#[] }==ByteArray.toList key&&(ByteArray.toList val==ByteArray.toList val&&true)))))then(Q (.int .i64 2) [])else(bif Nat.ble (ByteArray.size { data:=#[99,114,97,115,104] }+ByteArray.size ({ data:=#[32] }++(BT a++{ data:=#[32] }++{ data:=#[121] }++{ data:=#[32] }++val))) 9223372036854775807 then(Q (.int .i64 0) [])else False))else False)else(bif Nat.ble (ByteArray.size { data:=#[32] }+ByteArray.size (BT a++{ data:=#[32] }++{ data:=#[121] }++{ data:=#[32] }++val)) 9223372036854775807 then(((.bool (8==0)):Value)=(.bool false))∧
 (((.int .i64 8):Value)=(.int .i64 8))∧(((.agg ⟨[(.int .i64 k),(.int .i64 a),(.int .i64 (IntKind.wrap .i64 ↑(BitVec.toNat (BitVec.ofInt (IntKind.bits IntKind.i64) b &&& BitVec.ofInt (IntKind.bits IntKind.i64) 1)))),(.string ({ data:=#[] })),(.string val)]⟩):Value)=(.agg ⟨[(.int .i64 k),(.int .i64 a),(.int .i64 (IntKind.wrap .i64 ↑(BitVec.toNat (BitVec.ofInt (IntKind.bits IntKind.i64) b &&& BitVec.ofInt (IntKind.bits IntKind.i64) 1)))),(.string ({ data:=#[] })),(.string val)]⟩))∧(((.string val):Value)=(.string val))∧(((.pointer (some ⟨26,4,none⟩)):Value)=(.pointer (some ⟨26,4,none⟩)))∧(((.int .i64 (IntKind.wrap .i64 ↑(BitVec.toNat (BitVec.ofInt (IntKind.bits IntKind.i64) b &&& BitVec.ofInt (IntKind.bits IntKind.i64) 1)))):Value)=(.int .i64 (IntKind.wrap .i64 ↑(BitVec.toNat (BitVec.ofInt (IntKind.bits IntKind.i64) b &&& BitVec.ofInt (IntKind.bits IntKind.i64) 1)))))∧(((.int .i64 b):Value)=(.int .i64 b))∧(((.pointer (some ⟨26,2,none⟩)):Value)=(.pointer (some ⟨26,2,none⟩)))∧(((.int .i64 a):Value)=(.int .i64 a))∧(((.pointer (some ⟨26,1,none⟩)):Value)=(.pointer (some ⟨26,1,none⟩)))∧(((.int .i64 k):Value)=(.int .i64 k))∧(((.pointer (some ⟨26,0,none⟩)):Value)=(.pointer (some ⟨26,0,none⟩)))∧(((.bool (8==0)):Value)=(.bool false))∧(((.int .i64 8):Value)=(.int .i64 8))∧(Q (.int .i64 2) [])else False))else False)else False)else False)else False)else False))else(bif IntKind.wrap .i64 ↑(BitVec.toNat (BitVec.ofInt (IntKind.bits IntKind.i64) b &&& BitVec.ofInt (IntKind.bits IntKind.i64) 1))==0 then(Ok a)∧(((.string val):Value)=(.string val))∧(((.pointer (some ⟨26,4,none⟩)):Value)=(.pointer (some ⟨26,4,none⟩)))∧(((.string ({ data:=#[110] })):Value)=(.string ({ data:=#[110] })))∧(bif IntKind.wrap .i64 ↑(BitVec.toNat (BitVec.ofInt (IntKind.bits IntKind.i64) b &&& BitVec.ofInt (IntKind.bits IntKind.i64) 1))==1 then(((.pointer (some ⟨28,1,none⟩)):Value)=(.pointer (some ⟨28,0,none⟩)))∧(((.int .i64 (IntKind.wrap .i64 ↑(BitVec.toNat (BitVec.ofInt (IntKind.bits IntKind.i64) b &&& BitVec.ofInt (IntKind.bits IntKind.i64) 1)))):Value)=(.int .i64 (IntKind.wrap .i64 ↑(BitVec.toNat (BitVec.ofInt (IntKind.bits IntKind.i64) b &&& BitVec.ofInt (IntKind.bits IntKind.i64) 1)))))∧(((.int .i64 b):Value)=(.int .i64 b))∧(((.pointer (some ⟨26,2,none⟩)):Value)=(.pointer (some ⟨26,2,none⟩)))∧(bif Nat.ble (ByteArray.size (BT a)+ByteArray.size { data:=#[32] }) 9223372036854775807 then(bif Nat.ble (ByteArray.size (BT a++{ data:=#[32] })+ByteArray.size { data:=#[110] }) 9223372036854775807 then(bif Nat.ble (ByteArray.size (BT a++{ data:=#[32] }++{ data:=#[110] })+ByteArray.size { data:=#[32] }) 9223372036854775807 then(bif Nat.ble (ByteArray.size (BT a++{ data:=#[32] }++{ data:=#[110] }++{ data:=#[32] })+ByteArray.size val) 9223372036854775807 then(Sz (BT a++{ data:=#[32] }++{ data:=#[110] }++{ data:=#[32] }++val))∧(bif Eo (BT a++{ data:=#[32] }++{ data:=#[110] }++{ data:=#[32] }++val)then(bif Nat.ble (ByteArray.size { data:=#[32] }+ByteArray.size (BT a++{ data:=#[32] }++{ data:=#[110] }++{ data:=#[32] }++val)) 9223372036854775807 then(((.bool (0==0)):Value)=(.bool true))∧(((.int .i64 0):Value)=(.int .i64 0))∧
 (((.agg ⟨[(.int .i64 k),(.int .i64 a),(.int .i64 (IntKind.wrap .i64 ↑(BitVec.toNat (BitVec.ofInt (IntKind.bits IntKind.i64) b &&& BitVec.ofInt (IntKind.bits IntKind.i64) 1)))),(.string ({ data:=#[] })),(.string val)]⟩):Value)=(.agg ⟨[(.int .i64 k),(.int .i64 a),(.int .i64 (IntKind.wrap .i64 ↑(BitVec.toNat (BitVec.ofInt (IntKind.bits IntKind.i64) b &&& BitVec.ofInt (IntKind.bits IntKind.i64) 1)))),(.string ({ data:=#[] })),(.string val)]⟩))∧(((.string val):Value)=(.string val))∧(((.pointer (some ⟨26,4,none⟩)):Value)=(.pointer (some ⟨26,4,none⟩)))∧(((.int .i64 (IntKind.wrap .i64 ↑(BitVec.toNat (BitVec.ofInt (IntKind.bits IntKind.i64) b &&& BitVec.ofInt (IntKind.bits IntKind.i64) 1)))):Value)=(.int .i64 (IntKind.wrap .i64 ↑(BitVec.toNat (BitVec.ofInt (IntKind.bits IntKind.i64) b &&& BitVec.ofInt (IntKind.bits IntKind.i64) 1)))))∧(((.int .i64 b):Value)=(.int .i64 b))∧(((.pointer (some ⟨26,2,none⟩)):Value)=(.pointer (some ⟨26,2,none⟩)))∧(((.int .i64 a):Value)=(.int .i64 a))∧(((.pointer (some ⟨26,1,none⟩)):Value)=(.pointer (some ⟨26,1,none⟩)))∧(((.int .i64 k):Value)=(.int .i64 k))∧(((.pointer (some ⟨26,0,none⟩)):Value)=(.pointer (some ⟨26,0,none⟩)))∧(((.bool (0==0)):Value)=(.bool true))∧(((.int .i64 0):Value)=(.int .i64 0))∧(bif !(k==k&&(a==a&&(IntKind.wrap .i64 ↑(BitVec.toNat (BitVec.ofInt (IntKind.bits IntKind.i64) b &&& BitVec.ofInt (IntKind.bits IntKind.i64) 1))==b&&(ByteArray.toList { data:=#[] }==ByteArray.toList key&&(ByteArray.toList val==ByteArray.toList val&&true)))))then(Q (.int .i64 2) [])else(bif Nat.ble (ByteArray.size { data:=#[99,114,97,115,104] }+ByteArray.size ({ data:=#[32] }++(BT a++{ data:=#[32] }++{ data:=#[110] }++{ data:=#[32] }++val))) 9223372036854775807 then(Q (.int .i64 0) [])else False))else False)else(bif Nat.ble (ByteArray.size { data:=#[32] }+ByteArray.size (BT a++{ data:=#[32] }++{ data:=#[110] }++{ data:=#[32] }++val)) 9223372036854775807 then(((.bool (8==0)):Value)=(.bool false))∧(((.int .i64 8):Value)=(.int .i64 8))∧(((.agg ⟨[(.int .i64 k),(.int .i64 a),(.int .i64 (IntKind.wrap .i64 ↑(BitVec.toNat (BitVec.ofInt (IntKind.bits IntKind.i64) b &&& BitVec.ofInt (IntKind.bits IntKind.i64) 1)))),(.string ({ data:=#[] })),(.string val)]⟩):Value)=(.agg ⟨[(.int .i64 k),(.int .i64 a),(.int .i64 (IntKind.wrap .i64 ↑(BitVec.toNat (BitVec.ofInt (IntKind.bits IntKind.i64) b &&& BitVec.ofInt (IntKind.bits IntKind.i64) 1)))),(.string ({ data:=#[] })),(.string val)]⟩))∧(((.string val):Value)=(.string val))∧(((.pointer (some ⟨26,4,none⟩)):Value)=(.pointer (some ⟨26,4,none⟩)))∧(((.int .i64 (IntKind.wrap .i64 ↑(BitVec.toNat (BitVec.ofInt (IntKind.bits IntKind.i64) b &&& BitVec.ofInt (IntKind.bits IntKind.i64) 1)))):Value)=(.int .i64 (IntKind.wrap .i64 ↑(BitVec.toNat (BitVec.ofInt (IntKind.bits IntKind.i64) b &&& BitVec.ofInt (IntKind.bits IntKind.i64) 1)))))∧(((.int .i64 b):Value)=(.int .i64 b))∧(((.pointer (some ⟨26,2,none⟩)):Value)=(.pointer (some ⟨26,2,none⟩)))∧(((.int .i64 a):Value)=(.int .i64 a))∧(((.pointer (some ⟨26,1,none⟩)):Value)=(.pointer (some ⟨26,1,none⟩)))∧(((.int .i64 k):Value)=(.int .i64 k))∧(((.pointer (some ⟨26,0,none⟩)):Value)=(.pointer (some ⟨26,0,none⟩)))∧(((.bool (8==0)):Value)=(.bool false))∧(((.int .i64 8):Value)=(.int .i64 8))∧(Q (.int .i64 2) [])else False))else False)else False)else False)else False)else
 (bif IntKind.wrap .i64 ↑(BitVec.toNat (BitVec.ofInt (IntKind.bits IntKind.i64) b &&& BitVec.ofInt (IntKind.bits IntKind.i64) 1))==0 then(((.pointer (some ⟨28,0,none⟩)):Value)=(.pointer (some ⟨28,0,none⟩)))∧(((.int .i64 (IntKind.wrap .i64 ↑(BitVec.toNat (BitVec.ofInt (IntKind.bits IntKind.i64) b &&& BitVec.ofInt (IntKind.bits IntKind.i64) 1)))):Value)=(.int .i64 (IntKind.wrap .i64 ↑(BitVec.toNat (BitVec.ofInt (IntKind.bits IntKind.i64) b &&& BitVec.ofInt (IntKind.bits IntKind.i64) 1)))))∧(((.int .i64 b):Value)=(.int .i64 b))∧(((.pointer (some ⟨26,2,none⟩)):Value)=(.pointer (some ⟨26,2,none⟩)))∧(bif Nat.ble (ByteArray.size (BT a)+ByteArray.size { data:=#[32] }) 9223372036854775807 then(bif Nat.ble (ByteArray.size (BT a++{ data:=#[32] })+ByteArray.size { data:=#[110] }) 9223372036854775807 then(bif Nat.ble (ByteArray.size (BT a++{ data:=#[32] }++{ data:=#[110] })+ByteArray.size { data:=#[32] }) 9223372036854775807 then(bif Nat.ble (ByteArray.size (BT a++{ data:=#[32] }++{ data:=#[110] }++{ data:=#[32] })+ByteArray.size val) 9223372036854775807 then(Sz (BT a++{ data:=#[32] }++{ data:=#[110] }++{ data:=#[32] }++val))∧(bif Eo (BT a++{ data:=#[32] }++{ data:=#[110] }++{ data:=#[32] }++val)then(bif Nat.ble (ByteArray.size { data:=#[32] }+ByteArray.size (BT a++{ data:=#[32] }++{ data:=#[110] }++{ data:=#[32] }++val)) 9223372036854775807 then(((.bool (0==0)):Value)=(.bool true))∧(((.int .i64 0):Value)=(.int .i64 0))∧(((.agg ⟨[(.int .i64 k),(.int .i64 a),(.int .i64 (IntKind.wrap .i64 ↑(BitVec.toNat (BitVec.ofInt (IntKind.bits IntKind.i64) b &&& BitVec.ofInt (IntKind.bits IntKind.i64) 1)))),(.string ({ data:=#[] })),(.string val)]⟩):Value)=(.agg ⟨[(.int .i64 k),(.int .i64 a),(.int .i64 (IntKind.wrap .i64 ↑(BitVec.toNat (BitVec.ofInt (IntKind.bits IntKind.i64) b &&& BitVec.ofInt (IntKind.bits IntKind.i64) 1)))),(.string ({ data:=#[] })),(.string val)]⟩))∧(((.string val):Value)=(.string val))∧(((.pointer (some ⟨26,4,none⟩)):Value)=(.pointer (some ⟨26,4,none⟩)))∧(((.int .i64 (IntKind.wrap .i64 ↑(BitVec.toNat (BitVec.ofInt (IntKind.bits IntKind.i64) b &&& BitVec.ofInt (IntKind.bits IntKind.i64) 1)))):Value)=(.int .i64 (IntKind.wrap .i64 ↑(BitVec.toNat (BitVec.ofInt (IntKind.bits IntKind.i64) b &&& BitVec.ofInt (IntKind.bits IntKind.i64) 1)))))∧(((.int .i64 b):Value)=(.int .i64 b))∧(((.pointer (some ⟨26,2,none⟩)):Value)=(.pointer (some ⟨26,2,none⟩)))∧(((.int .i64 a):Value)=(.int .i64 a))∧(((.pointer (some ⟨26,1,none⟩)):Value)=(.pointer (some ⟨26,1,none⟩)))∧(((.int .i64 k):Value)=(.int .i64 k))∧(((.pointer (some ⟨26,0,none⟩)):Value)=(.pointer (some ⟨26,0,none⟩)))∧(((.bool (0==0)):Value)=(.bool true))∧(((.int .i64 0):Value)=(.int .i64 0))∧(bif !(k==k&&(a==a&&(IntKind.wrap .i64 ↑(BitVec.toNat (BitVec.ofInt (IntKind.bits IntKind.i64) b &&& BitVec.ofInt (IntKind.bits IntKind.i64) 1))==b&&(ByteArray.toList { data:=#[] }==ByteArray.toList key&&(ByteArray.toList val==ByteArray.toList val&&true)))))then(Q (.int .i64 2) [])else(bif Nat.ble (ByteArray.size { data:=#[99,114,97,115,104] }+ByteArray.size ({ data:=#[32] }++(BT a++{ data:=#[32] }++{ data:=#[110] }++{ data:=#[32] }++val))) 9223372036854775807 then(Q (.int .i64 0) [])else False))else False)else(bif Nat.ble (ByteArray.size { data:=#[32] }+ByteArray.size (BT a++{ data:=#[32] }++{ data:=#[110] }++{ data:=#[32] }++val)) 9223372036854775807 then(((.bool (8==0)):Value)=(.bool false))∧
 (((.int .i64 8):Value)=(.int .i64 8))∧(((.agg ⟨[(.int .i64 k),(.int .i64 a),(.int .i64 (IntKind.wrap .i64 ↑(BitVec.toNat (BitVec.ofInt (IntKind.bits IntKind.i64) b &&& BitVec.ofInt (IntKind.bits IntKind.i64) 1)))),(.string ({ data:=#[] })),(.string val)]⟩):Value)=(.agg ⟨[(.int .i64 k),(.int .i64 a),(.int .i64 (IntKind.wrap .i64 ↑(BitVec.toNat (BitVec.ofInt (IntKind.bits IntKind.i64) b &&& BitVec.ofInt (IntKind.bits IntKind.i64) 1)))),(.string ({ data:=#[] })),(.string val)]⟩))∧(((.string val):Value)=(.string val))∧(((.pointer (some ⟨26,4,none⟩)):Value)=(.pointer (some ⟨26,4,none⟩)))∧(((.int .i64 (IntKind.wrap .i64 ↑(BitVec.toNat (BitVec.ofInt (IntKind.bits IntKind.i64) b &&& BitVec.ofInt (IntKind.bits IntKind.i64) 1)))):Value)=(.int .i64 (IntKind.wrap .i64 ↑(BitVec.toNat (BitVec.ofInt (IntKind.bits IntKind.i64) b &&& BitVec.ofInt (IntKind.bits IntKind.i64) 1)))))∧(((.int .i64 b):Value)=(.int .i64 b))∧(((.pointer (some ⟨26,2,none⟩)):Value)=(.pointer (some ⟨26,2,none⟩)))∧(((.int .i64 a):Value)=(.int .i64 a))∧(((.pointer (some ⟨26,1,none⟩)):Value)=(.pointer (some ⟨26,1,none⟩)))∧(((.int .i64 k):Value)=(.int .i64 k))∧(((.pointer (some ⟨26,0,none⟩)):Value)=(.pointer (some ⟨26,0,none⟩)))∧(((.bool (8==0)):Value)=(.bool false))∧(((.int .i64 8):Value)=(.int .i64 8))∧(Q (.int .i64 2) [])else False))else False)else False)else False)else False)else False))else False))else(bif k==6 then(((.agg ⟨[(.int .i64 k),(.int .i64 0),(.int .i64 0),(.string ({ data:=#[] })),(.string ({ data:=#[] }))]⟩):Value)=(.agg ⟨[(.int .i64 k),(.int .i64 0),(.int .i64 0),(.string ({ data:=#[] })),(.string ({ data:=#[] }))]⟩))∧(((.int .i64 k):Value)=(.int .i64 k))∧(((.pointer (some ⟨21,0,none⟩)):Value)=(.pointer (some ⟨21,0,none⟩)))∧(bif decide (a < 1)then(Q (.int .i64 2) [])else(bif decide (a > 2)then(Q (.int .i64 2) [])else(((.agg ⟨[(.int .i64 k),(.int .i64 a),(.int .i64 0),(.string ({ data:=#[] })),(.string ({ data:=#[] }))]⟩):Value)=(.agg ⟨[(.int .i64 k),(.int .i64 a),(.int .i64 0),(.string ({ data:=#[] })),(.string ({ data:=#[] }))]⟩))∧(((.int .i64 a):Value)=(.int .i64 a))∧(((.pointer (some ⟨26,1,none⟩)):Value)=(.pointer (some ⟨26,1,none⟩)))∧(((.int .i64 k):Value)=(.int .i64 k))∧(((.pointer (some ⟨26,0,none⟩)):Value)=(.pointer (some ⟨26,0,none⟩)))∧(((.int .i64 a):Value)=(.int .i64 a))∧(((.pointer (some ⟨26,1,none⟩)):Value)=(.pointer (some ⟨26,1,none⟩)))∧(bif a==2 then(((.agg ⟨[(.int .i64 k),(.int .i64 a),(.int .i64 0),(.string ({ data:=#[] })),(.string ({ data:=#[] }))]⟩):Value)=(.agg ⟨[(.int .i64 k),(.int .i64 a),(.int .i64 0),(.string ({ data:=#[] })),(.string ({ data:=#[] }))]⟩))∧(((.int .i64 a):Value)=(.int .i64 a))∧(((.pointer (some ⟨26,1,none⟩)):Value)=(.pointer (some ⟨26,1,none⟩)))∧(((.int .i64 k):Value)=(.int .i64 k))∧(((.pointer (some ⟨26,0,none⟩)):Value)=(.pointer (some ⟨26,0,none⟩)))∧(bif !(k==k&&(a==a&&(0==b&&(ByteArray.toList { data:=#[] }==ByteArray.toList key&&(ByteArray.toList { data:=#[] }==ByteArray.toList val&&true)))))then(Q (.int .i64 2) [])else(Q (.int .i64 0) []))else(bif a==1 then
 (((.agg ⟨[(.int .i64 k),(.int .i64 a),(.int .i64 0),(.string ({ data:=#[] })),(.string ({ data:=#[] }))]⟩):Value)=(.agg ⟨[(.int .i64 k),(.int .i64 a),(.int .i64 0),(.string ({ data:=#[] })),(.string ({ data:=#[] }))]⟩))∧(((.int .i64 a):Value)=(.int .i64 a))∧(((.pointer (some ⟨26,1,none⟩)):Value)=(.pointer (some ⟨26,1,none⟩)))∧(((.int .i64 k):Value)=(.int .i64 k))∧(((.pointer (some ⟨26,0,none⟩)):Value)=(.pointer (some ⟨26,0,none⟩)))∧(bif !(k==k&&(a==a&&(0==b&&(ByteArray.toList { data:=#[] }==ByteArray.toList key&&(ByteArray.toList { data:=#[] }==ByteArray.toList val&&true)))))then(Q (.int .i64 2) [])else(Q (.int .i64 0) []))else(bif a==0 then(((.agg ⟨[(.int .i64 k),(.int .i64 a),(.int .i64 0),(.string ({ data:=#[] })),(.string ({ data:=#[] }))]⟩):Value)=(.agg ⟨[(.int .i64 k),(.int .i64 a),(.int .i64 0),(.string ({ data:=#[] })),(.string ({ data:=#[] }))]⟩))∧(((.int .i64 a):Value)=(.int .i64 a))∧(((.pointer (some ⟨26,1,none⟩)):Value)=(.pointer (some ⟨26,1,none⟩)))∧(((.int .i64 k):Value)=(.int .i64 k))∧(((.pointer (some ⟨26,0,none⟩)):Value)=(.pointer (some ⟨26,0,none⟩)))∧(bif !(k==k&&(a==a&&(0==b&&(ByteArray.toList { data:=#[] }==ByteArray.toList key&&(ByteArray.toList { data:=#[] }==ByteArray.toList val&&true)))))then(Q (.int .i64 2) [])else(Q (.int .i64 0) []))else False)))))else(bif k==5 then(((.agg ⟨[(.int .i64 k),(.int .i64 0),(.int .i64 0),(.string ({ data:=#[] })),(.string ({ data:=#[] }))]⟩):Value)=(.agg ⟨[(.int .i64 k),(.int .i64 0),(.int .i64 0),(.string ({ data:=#[] })),(.string ({ data:=#[] }))]⟩))∧(((.int .i64 k):Value)=(.int .i64 k))∧(((.pointer (some ⟨21,0,none⟩)):Value)=(.pointer (some ⟨21,0,none⟩)))∧(bif !(k==k&&(0==a&&(0==b&&(ByteArray.toList { data:=#[] }==ByteArray.toList key&&(ByteArray.toList { data:=#[] }==ByteArray.toList val&&true)))))then(Q (.int .i64 2) [])else(Q (.int .i64 0) []))else(bif k==4 then(((.agg ⟨[(.int .i64 k),(.int .i64 0),(.int .i64 0),(.string ({ data:=#[] })),(.string ({ data:=#[] }))]⟩):Value)=(.agg ⟨[(.int .i64 k),(.int .i64 0),(.int .i64 0),(.string ({ data:=#[] })),(.string ({ data:=#[] }))]⟩))∧(((.int .i64 k):Value)=(.int .i64 k))∧(((.pointer (some ⟨21,0,none⟩)):Value)=(.pointer (some ⟨21,0,none⟩)))∧(bif !(k==k&&(0==a&&(0==b&&(ByteArray.toList { data:=#[] }==ByteArray.toList key&&(ByteArray.toList { data:=#[] }==ByteArray.toList val&&true)))))then(Q (.int .i64 2) [])else(Q (.int .i64 0) []))else(bif k==3 then(((.agg ⟨[(.int .i64 k),(.int .i64 0),(.int .i64 0),(.string ({ data:=#[] })),(.string ({ data:=#[] }))]⟩):Value)=(.agg ⟨[(.int .i64 k),(.int .i64 0),(.int .i64 0),(.string ({ data:=#[] })),(.string ({ data:=#[] }))]⟩))∧(((.int .i64 k):Value)=(.int .i64 k))∧(((.pointer (some ⟨21,0,none⟩)):Value)=(.pointer (some ⟨21,0,none⟩)))∧(bif Nat.ble (ByteArray.size { data:=#[32] }+ByteArray.size key) 9223372036854775807 then(((.agg ⟨[(.int .i64 k),(.int .i64 0),(.int .i64 0),(.string key),(.string ({ data:=#[] }))]⟩):Value)=(.agg ⟨[(.int .i64 k),(.int .i64 0),(.int .i64 0),(.string key),(.string ({ data:=#[] }))]⟩))∧(((.string key):Value)=(.string key))∧(((.pointer (some ⟨26,3,none⟩)):Value)=(.pointer (some ⟨26,3,none⟩)))∧(((.int .i64 k):Value)=(.int .i64 k))∧
 (((.pointer (some ⟨26,0,none⟩)):Value)=(.pointer (some ⟨26,0,none⟩)))∧(bif Nat.ble (ByteArray.size { data:=#[32] }+ByteArray.size key) 9223372036854775807 then(((.string ({ data:=#[32] }++key)):Value)=(.string ({ data:=#[32] }++key)))∧(((.string key):Value)=(.string key))∧(((.pointer (some ⟨26,3,none⟩)):Value)=(.pointer (some ⟨26,3,none⟩)))∧(bif FB key==0 then(((.bool (FB key==0)):Value)=(.bool true))∧(((.agg ⟨[(.int .i64 k),(.int .i64 0),(.int .i64 0),(.string key),(.string ({ data:=#[] }))]⟩):Value)=(.agg ⟨[(.int .i64 k),(.int .i64 0),(.int .i64 0),(.string key),(.string ({ data:=#[] }))]⟩))∧(((.string key):Value)=(.string key))∧(((.pointer (some ⟨26,3,none⟩)):Value)=(.pointer (some ⟨26,3,none⟩)))∧(((.int .i64 k):Value)=(.int .i64 k))∧(((.pointer (some ⟨26,0,none⟩)):Value)=(.pointer (some ⟨26,0,none⟩)))∧(((.bool (FB key==0)):Value)=(.bool true))∧(bif !(k==k&&(0==a&&(0==b&&(ByteArray.toList key==ByteArray.toList key&&(ByteArray.toList { data:=#[] }==ByteArray.toList val&&true)))))then(Q (.int .i64 2) [])else(bif Nat.ble (ByteArray.size { data:=#[100,101,108,101,116,101] }+ByteArray.size ({ data:=#[32] }++key)) 9223372036854775807 then(Q (.int .i64 0) [])else False))else(((.bool (FB key==0)):Value)=(.bool false))∧(((.agg ⟨[(.int .i64 k),(.int .i64 0),(.int .i64 0),(.string key),(.string ({ data:=#[] }))]⟩):Value)=(.agg ⟨[(.int .i64 k),(.int .i64 0),(.int .i64 0),(.string key),(.string ({ data:=#[] }))]⟩))∧(((.string key):Value)=(.string key))∧(((.pointer (some ⟨26,3,none⟩)):Value)=(.pointer (some ⟨26,3,none⟩)))∧(((.int .i64 k):Value)=(.int .i64 k))∧(((.pointer (some ⟨26,0,none⟩)):Value)=(.pointer (some ⟨26,0,none⟩)))∧(((.bool (FB key==0)):Value)=(.bool false))∧(Q (.int .i64 2) []))else False)else False)else(bif k==2 then(((.agg ⟨[(.int .i64 k),(.int .i64 0),(.int .i64 0),(.string ({ data:=#[] })),(.string ({ data:=#[] }))]⟩):Value)=(.agg ⟨[(.int .i64 k),(.int .i64 0),(.int .i64 0),(.string ({ data:=#[] })),(.string ({ data:=#[] }))]⟩))∧(((.int .i64 k):Value)=(.int .i64 k))∧(((.pointer (some ⟨21,0,none⟩)):Value)=(.pointer (some ⟨21,0,none⟩)))∧(bif Nat.ble (ByteArray.size { data:=#[32] }+ByteArray.size key) 9223372036854775807 then(((.agg ⟨[(.int .i64 k),(.int .i64 0),(.int .i64 0),(.string key),(.string ({ data:=#[] }))]⟩):Value)=(.agg ⟨[(.int .i64 k),(.int .i64 0),(.int .i64 0),(.string key),(.string ({ data:=#[] }))]⟩))∧(((.string key):Value)=(.string key))∧(((.pointer (some ⟨26,3,none⟩)):Value)=(.pointer (some ⟨26,3,none⟩)))∧(((.int .i64 k):Value)=(.int .i64 k))∧(((.pointer (some ⟨26,0,none⟩)):Value)=(.pointer (some ⟨26,0,none⟩)))∧(bif Nat.ble (ByteArray.size { data:=#[32] }+ByteArray.size key) 9223372036854775807 then(((.string ({ data:=#[32] }++key)):Value)=(.string ({ data:=#[32] }++key)))∧(((.string key):Value)=(.string key))∧(((.pointer (some ⟨26,3,none⟩)):Value)=(.pointer (some ⟨26,3,none⟩)))∧(bif FB key==0 then(((.bool (FB key==0)):Value)=(.bool true))∧(((.agg ⟨[(.int .i64 k),(.int .i64 0),(.int .i64 0),(.string key),(.string ({ data:=#[] }))]⟩):Value)=(.agg ⟨[(.int .i64 k),(.int .i64 0),(.int .i64 0),(.string key),(.string ({ data:=#[] }))]⟩))∧(((.string key):Value)=(.string key))∧(((.pointer (some ⟨26,3,none⟩)):Value)=(.pointer (some ⟨26,3,none⟩)))∧(((.int .i64 k):Value)=(.int .i64 k))∧
 (((.pointer (some ⟨26,0,none⟩)):Value)=(.pointer (some ⟨26,0,none⟩)))∧(((.bool (FB key==0)):Value)=(.bool true))∧(bif !(k==k&&(0==a&&(0==b&&(ByteArray.toList key==ByteArray.toList key&&(ByteArray.toList { data:=#[] }==ByteArray.toList val&&true)))))then(Q (.int .i64 2) [])else(bif Nat.ble (ByteArray.size { data:=#[103,101,116] }+ByteArray.size ({ data:=#[32] }++key)) 9223372036854775807 then(Q (.int .i64 0) [])else False))else(((.bool (FB key==0)):Value)=(.bool false))∧(((.agg ⟨[(.int .i64 k),(.int .i64 0),(.int .i64 0),(.string key),(.string ({ data:=#[] }))]⟩):Value)=(.agg ⟨[(.int .i64 k),(.int .i64 0),(.int .i64 0),(.string key),(.string ({ data:=#[] }))]⟩))∧(((.string key):Value)=(.string key))∧(((.pointer (some ⟨26,3,none⟩)):Value)=(.pointer (some ⟨26,3,none⟩)))∧(((.int .i64 k):Value)=(.int .i64 k))∧(((.pointer (some ⟨26,0,none⟩)):Value)=(.pointer (some ⟨26,0,none⟩)))∧(((.bool (FB key==0)):Value)=(.bool false))∧(Q (.int .i64 2) []))else False)else False)else(bif k==1 then(((.agg ⟨[(.int .i64 k),(.int .i64 0),(.int .i64 0),(.string ({ data:=#[] })),(.string ({ data:=#[] }))]⟩):Value)=(.agg ⟨[(.int .i64 k),(.int .i64 0),(.int .i64 0),(.string ({ data:=#[] })),(.string ({ data:=#[] }))]⟩))∧(((.int .i64 k):Value)=(.int .i64 k))∧(((.pointer (some ⟨21,0,none⟩)):Value)=(.pointer (some ⟨21,0,none⟩)))∧(bif Nat.ble (ByteArray.size { data:=#[32] }+ByteArray.size key) 9223372036854775807 then(((.agg ⟨[(.int .i64 k),(.int .i64 0),(.int .i64 0),(.string key),(.string ({ data:=#[] }))]⟩):Value)=(.agg ⟨[(.int .i64 k),(.int .i64 0),(.int .i64 0),(.string key),(.string ({ data:=#[] }))]⟩))∧(((.string key):Value)=(.string key))∧(((.pointer (some ⟨28,3,none⟩)):Value)=(.pointer (some ⟨28,3,none⟩)))∧(((.int .i64 k):Value)=(.int .i64 k))∧(((.pointer (some ⟨28,0,none⟩)):Value)=(.pointer (some ⟨28,0,none⟩)))∧(bif Nat.ble (ByteArray.size { data:=#[32] }+ByteArray.size key) 9223372036854775807 then(((.string ({ data:=#[32] }++key)):Value)=(.string ({ data:=#[32] }++key)))∧(((.string key):Value)=(.string key))∧(((.pointer (some ⟨28,3,none⟩)):Value)=(.pointer (some ⟨28,3,none⟩)))∧(bif FB key==0 then(((.bool (FB key==0)):Value)=(.bool true))∧(((.agg ⟨[(.int .i64 k),(.int .i64 0),(.int .i64 0),(.string key),(.string ({ data:=#[] }))]⟩):Value)=(.agg ⟨[(.int .i64 k),(.int .i64 0),(.int .i64 0),(.string key),(.string ({ data:=#[] }))]⟩))∧(((.string key):Value)=(.string key))∧(((.pointer (some ⟨28,3,none⟩)):Value)=(.pointer (some ⟨28,3,none⟩)))∧(((.int .i64 k):Value)=(.int .i64 k))∧(((.pointer (some ⟨28,0,none⟩)):Value)=(.pointer (some ⟨28,0,none⟩)))∧(((.bool (FB key==0)):Value)=(.bool true))∧(bif Nat.ble (ByteArray.size ({ data:=#[32] }++key)+ByteArray.size { data:=#[32] }) 9223372036854775807 then(bif Nat.ble (ByteArray.size ({ data:=#[32] }++key++{ data:=#[32] })+ByteArray.size (Ms val)) 9223372036854775807 then(bif FN val==0 then(((.bool true):Value)=(.bool true))∧(((.bool (FN val==0)):Value)=(.bool true))∧(((.int .i64 (FN val)):Value)=(.int .i64 (FN val)))∧(((.agg ⟨[(.int .i64 k),(.int .i64 0),(.int .i64 0),(.string key),(.string val)]⟩):Value)=(.agg ⟨[(.int .i64 k),(.int .i64 0),(.int .i64 0),(.string key),(.string val)]⟩))∧(((.bool true):Value)=(.bool true))∧(((.bool (FN val==0)):Value)=(.bool true))∧
 (((.int .i64 (FN val)):Value)=(.int .i64 (FN val)))∧(bif !(k==k&&(0==a&&(0==b&&(ByteArray.toList key==ByteArray.toList key&&(ByteArray.toList val==ByteArray.toList val&&true)))))then(Q (.int .i64 2) [])else(bif Nat.ble (ByteArray.size { data:=#[112,117,116] }+ByteArray.size ({ data:=#[32] }++key++{ data:=#[32] }++Ms val)) 9223372036854775807 then(Q (.int .i64 0) [])else False))else(((.bool false):Value)=(.bool false))∧(((.bool (FN val==0)):Value)=(.bool false))∧(((.int .i64 (FN val)):Value)=(.int .i64 (FN val)))∧(((.agg ⟨[(.int .i64 k),(.int .i64 0),(.int .i64 0),(.string key),(.string val)]⟩):Value)=(.agg ⟨[(.int .i64 k),(.int .i64 0),(.int .i64 0),(.string key),(.string val)]⟩))∧(((.bool false):Value)=(.bool false))∧(((.bool (FN val==0)):Value)=(.bool false))∧(((.int .i64 (FN val)):Value)=(.int .i64 (FN val)))∧(Q (.int .i64 2) []))else False)else False)else(((.bool (FB key==0)):Value)=(.bool false))∧(((.agg ⟨[(.int .i64 k),(.int .i64 0),(.int .i64 0),(.string key),(.string ({ data:=#[] }))]⟩):Value)=(.agg ⟨[(.int .i64 k),(.int .i64 0),(.int .i64 0),(.string key),(.string ({ data:=#[] }))]⟩))∧(((.string key):Value)=(.string key))∧(((.pointer (some ⟨28,3,none⟩)):Value)=(.pointer (some ⟨28,3,none⟩)))∧(((.int .i64 k):Value)=(.int .i64 k))∧(((.pointer (some ⟨28,0,none⟩)):Value)=(.pointer (some ⟨28,0,none⟩)))∧(((.bool (FB key==0)):Value)=(.bool false))∧(bif Nat.ble (ByteArray.size ({ data:=#[32] }++key)+ByteArray.size { data:=#[32] }) 9223372036854775807 then(bif Nat.ble (ByteArray.size ({ data:=#[32] }++key++{ data:=#[32] })+ByteArray.size (Ms val)) 9223372036854775807 then(((.bool false):Value)=(.bool false))∧(((.agg ⟨[(.int .i64 k),(.int .i64 0),(.int .i64 0),(.string key),(.string val)]⟩):Value)=(.agg ⟨[(.int .i64 k),(.int .i64 0),(.int .i64 0),(.string key),(.string val)]⟩))∧(((.bool false):Value)=(.bool false))∧(Q (.int .i64 2) [])else False)else False))else False)else False)else(bif k==0 then(((.agg ⟨[(.int .i64 k),(.int .i64 0),(.int .i64 0),(.string ({ data:=#[] })),(.string ({ data:=#[] }))]⟩):Value)=(.agg ⟨[(.int .i64 k),(.int .i64 0),(.int .i64 0),(.string ({ data:=#[] })),(.string ({ data:=#[] }))]⟩))∧(((.int .i64 k):Value)=(.int .i64 k))∧(((.pointer (some ⟨21,0,none⟩)):Value)=(.pointer (some ⟨21,0,none⟩)))∧(bif !(k==k&&(0==a&&(0==b&&(ByteArray.toList { data:=#[] }==ByteArray.toList key&&(ByteArray.toList { data:=#[] }==ByteArray.toList val&&true)))))then(Q (.int .i64 2) [])else(Q (.int .i64 0) []))else False)))))))))))):=by kernel_rfl
end Go.AD

set_option maxRecDepth 1000000
namespace Go.AD
open Go.Proofs
def Sq (s:ByteArray):Bool:=ByteArray.toList { data:=#[] }==ByteArray.toList s
def Of (b:Int):Int:=IntKind.wrap .i64 ↑(BitVec.toNat (BitVec.ofInt (IntKind.bits IntKind.i64) b &&& BitVec.ofInt (IntKind.bits IntKind.i64) 1))
theorem SS (b:Int):Of b=0∨Of b=1:=by
 unfold Of
 have h:BitVec.toNat (BitVec.ofInt (IntKind.bits IntKind.i64) b &&& BitVec.ofInt (IntKind.bits IntKind.i64) 1)=(BitVec.ofInt 64 b).toNat &&& 1:=by
  rw[BitVec.toNat_and];rfl
 rw[h,Nat.and_one_is_mod]
 rcases Nat.mod_two_eq_zero_or_one (BitVec.ofInt 64 b).toNat with e | e<;>rw[e]
 ·exact .inl (by decide)
 ·exact .inr (by decide)
noncomputable def W4 (a:Int) (val:ByteArray):ByteArray:=BT a++{ data:=#[32] }++{ data:=#[121] }++{ data:=#[32] }++val
noncomputable def YE (a:Int) (val:ByteArray):ByteArray:=BT a++{ data:=#[32] }++{ data:=#[110] }++{ data:=#[32] }++val
noncomputable def LJ (a b:Int) (val:ByteArray):Bool:=bif Of b==1 then Eo (W4 a val)else Eo (YE a val)
def Yy (k:Int) (za zb ek ev kk vv cr bb al ah:Bool):Bool:=
 bif k==8 then za&&zb&&ek&&ev else bif k==7 then cr&&bb&&ek else bif k==6 then !al&& !ah&&zb&&ek&&ev else bif k==5 then za&&zb&&ek&&ev else bif k==4 then za&&zb&&ek&&ev else
 bif k==3 then kk&&za&&zb&&ev else bif k==2 then kk&&za&&zb&&ev else bif k==1 then kk&&vv&&za&&zb else false
noncomputable def Vr (k a b:Int) (key val:ByteArray):Bool:=Yy k (0==a) (0==b) (Sq key) (Sq val) (FB key==0) (FN val==0) (LJ a b val) (Of b==b) (decide (a < 1)) (decide (a > 2))
noncomputable def cX (k a b:Int) (key val:ByteArray):Int:=bif Vr k a b key val then 0 else 2
theorem TU:∀(m n:Nat),n < 10 ^ (m+1)→(Go.Lib.decDigits n).length≤m+1:=by
 intro m
 induction m with
 | zero=>intro n h;rw[Go.Lib.decDigits,dif_pos (by omega)];exact Nat.le_refl _
 | succ m ih=>
  intro n h
  rw[Go.Lib.decDigits]
  split
  ·simp
  ·rw[List.length_append]
   have h2:n / 10 < 10 ^ (m+1):=by rw[Nat.pow_succ]at h;omega
   have:=ih (n / 10) h2
   simp only[List.length_cons,List.length_nil]
   omega
theorem Ug {a:Int} (h:Ok a):(BT a).size≤21:=by
 have h1:=h.lo
 have h2:=h.hi
 show(Go.Lib.itoa a).toArray.size≤21
 rw[List.size_toArray]
 unfold Go.Lib.itoa
 split
 ·have:=TU 18 a.natAbs (by omega)
  simp only[List.length_cons];omega
 ·have:=TU 18 a.toNat (by omega)
  omega
theorem Mg (l:List UInt8):ByteArray.size (ByteArray.mk l.toArray)=l.length:=rfl
theorem N0 {k:Int} (h:k < 1∨k≥9) (za zb ek ev kk vv cr bb al ah:Bool):Yy k za zb ek ev kk vv cr bb al ah=false:=by
 unfold Yy
 rw[beq_false (show k≠8 by omega),beq_false (show k≠7 by omega),beq_false (show k≠6 by omega),beq_false (show k≠5 by omega),beq_false (show k≠4 by omega),beq_false (show k≠3 by omega),beq_false (show k≠2 by omega),beq_false (show k≠1 by omega)]
 rfl
def fC (k:Int) (za zb ek ev kk vv cr bb al ah:Bool) (v:Value) (_:List (Option AJ)):Prop:=v= .int .i64 (bif Yy k za zb ek ev kk vv cr bb al ah then 0 else 2)
set_option maxHeartbeats 4000000 in
theorem Vg {k a b:Int} {key val:ByteArray} (ha:Ok a) (hk:key.size≤1000) (hv:val.size≤1000):Gv bA aJ C5 [] (fun v _=>v= .int .i64 (cX k a b key val)) 2000 (st C5 11 [IX k a b key val] J2):=by
 have hi:=Ug ha
 have hvs:=Uz val
 have hszY:Sz (BT a++{ data:=#[32] }++{ data:=#[121] }++{ data:=#[32] }++val):=⟨by simp only[ByteArray.size_append,Mg,List.length_cons,List.length_nil];omega⟩
 have hszN:Sz (BT a++{ data:=#[32] }++{ data:=#[110] }++{ data:=#[32] }++val):=⟨by simp only[ByteArray.size_append,Mg,List.length_cons,List.length_nil];omega⟩
 have hb:=SS b
 have hkk:(ByteArray.toList key==ByteArray.toList key)=true:=beq_self_eq_true _
 have hvv:(ByteArray.toList val==ByteArray.toList val)=true:=beq_self_eq_true _
 have haa:(a==a)=true:=beq_self_eq_true _
 show Gv bA aJ C5 [] (fC k (0==a) (0==b) (Sq key) (Sq val) (FB key==0) (FN val==0) (LJ a b val) (Of b==b) (decide (a < 1)) (decide (a > 2))) 2000 (st C5 11 [IX k a b key val] J2)
 generalize hQ:fC k (0==a) (0==b) (Sq key) (Sq val) (FB key==0) (FN val==0) (LJ a b val) (Of b==b) (decide (a < 1)) (decide (a > 2))=Q
 rw[eQ]
 have sz1:∀n,n≤9223372036854775807→Nat.ble n 9223372036854775807=true:=fun n h=>Nat.ble_eq_true_of_le h
 rcases(show k < 1∨k≥9∨k=8∨k=7∨k=6∨k=5∨k=4∨k=3∨k=2∨k=1 by omega)with h | h | rfl | rfl | rfl | rfl | rfl | rfl | rfl | rfl
 ·refine AE (decide_eq_true h) ?_
  repeat' refine And.intro rfl ?_
  rw[←hQ]
  unfold fC
  rw[N0 (.inl h)];rfl
 ·refine AW (decide_eq_false (by omega)) (AE (decide_eq_true h) ?_)
  repeat' refine And.intro rfl ?_
  rw[←hQ]
  unfold fC
  rw[N0 (.inr h)];rfl
 ·refine AW rfl (AW rfl (AE rfl ?_))
  repeat' refine And.intro rfl ?_
  subst hQ
  unfold Sq
  generalize ((0:Int)==a)=c1
  generalize ((0:Int)==b)=c2
  generalize (ByteArray.toList { data:=#[] }==ByteArray.toList key)=c3
  generalize (ByteArray.toList { data:=#[] }==ByteArray.toList val)=c4
  cases c1<;>cases c2<;>cases c3<;>cases c4<;>rfl
 ·refine AW rfl (AW rfl (AW rfl (AE rfl ?_)))
  repeat' refine And.intro rfl ?_
  subst hQ
  unfold Sq LJ W4 YE
  have e:∀x,(IntKind.wrap .i64 ↑(BitVec.toNat (BitVec.ofInt (IntKind.bits IntKind.i64) b &&& BitVec.ofInt (IntKind.bits IntKind.i64) 1))=x)=(Of b=x):=fun _=>rfl
  have e2:IntKind.wrap .i64 ↑(BitVec.toNat (BitVec.ofInt (IntKind.bits IntKind.i64) b &&& BitVec.ofInt (IntKind.bits IntKind.i64) 1))=Of b:=rfl
  rw[e2]
  rw[hvv,haa]
  generalize (ByteArray.toList { data:=#[] }==ByteArray.toList key)=c3
  rcases hb with hb | hb
  ·rw[hb]
   generalize ((0:Int)==b)=c2
   generalize (Eo (BT a++{ data:=#[32] }++{ data:=#[110] }++{ data:=#[32] }++val))=c5
   cases c2<;>cases c3<;>cases c5<;>(repeat' first
    | exact rfl
    | refine And.intro ha ?_
    | refine And.intro hszN ?_
    | refine And.intro rfl ?_
    | refine AE rfl ?_
    | refine AW rfl ?_
    | refine AE (sz1 _ (by simp only[ByteArray.size_append,Mg,List.length_cons,List.length_nil];omega)) ?_)
  ·rw[hb]
   generalize ((1:Int)==b)=c2
   generalize (Eo (BT a++{ data:=#[32] }++{ data:=#[121] }++{ data:=#[32] }++val))=c5
   cases c2<;>cases c3<;>cases c5<;>(repeat' first
    | exact rfl
    | refine And.intro ha ?_
    | refine And.intro hszY ?_
    | refine And.intro rfl ?_
    | refine AE rfl ?_
    | refine AW rfl ?_
    | refine AE (sz1 _ (by simp only[ByteArray.size_append,Mg,List.length_cons,List.length_nil];omega)) ?_)
 ·refine AW rfl (AW rfl (AW rfl (AW rfl (AE rfl ?_))))
  repeat' refine And.intro rfl ?_
  subst hQ
  unfold Sq
  rw[haa]
  generalize ((0:Int)==b)=c2
  generalize (ByteArray.toList { data:=#[] }==ByteArray.toList key)=c3
  generalize (ByteArray.toList { data:=#[] }==ByteArray.toList val)=c4
  rcases(show a < 1∨a > 2∨a=1∨a=2 by omega)with h | h | rfl | rfl
  ·refine AE (decide_eq_true h) ?_
   rw[decide_eq_true h];rfl
  ·refine AW (decide_eq_false (by omega)) (AE (decide_eq_true h) ?_)
   rw[decide_eq_true h]
   cases decide (a < 1)<;>rfl
  ·cases c2<;>cases c3<;>cases c4<;>(repeat' first | exact rfl | refine And.intro rfl ?_ | refine AE rfl ?_ | refine AW rfl ?_)
  ·cases c2<;>cases c3<;>cases c4<;>(repeat' first | exact rfl | refine And.intro rfl ?_ | refine AE rfl ?_ | refine AW rfl ?_)
 ·refine AW rfl (AW rfl (AW rfl (AW rfl (AW rfl (AE rfl ?_)))))
  repeat' refine And.intro rfl ?_
  subst hQ
  unfold Sq
  generalize ((0:Int)==a)=c1
  generalize ((0:Int)==b)=c2
  generalize (ByteArray.toList { data:=#[] }==ByteArray.toList key)=c3
  generalize (ByteArray.toList { data:=#[] }==ByteArray.toList val)=c4
  cases c1<;>cases c2<;>cases c3<;>cases c4<;>rfl
 ·refine AW rfl (AW rfl (AW rfl (AW rfl (AW rfl (AW rfl (AE rfl ?_))))))
  repeat' refine And.intro rfl ?_
  subst hQ
  unfold Sq
  generalize ((0:Int)==a)=c1
  generalize ((0:Int)==b)=c2
  generalize (ByteArray.toList { data:=#[] }==ByteArray.toList key)=c3
  generalize (ByteArray.toList { data:=#[] }==ByteArray.toList val)=c4
  cases c1<;>cases c2<;>cases c3<;>cases c4<;>rfl
 ·refine AW rfl (AW rfl (AW rfl (AW rfl (AW rfl (AW rfl (AW rfl (AE rfl ?_)))))))
  repeat' refine And.intro rfl ?_
  subst hQ
  unfold Sq
  rw[hkk]
  generalize ((0:Int)==a)=c1
  generalize ((0:Int)==b)=c2
  generalize (FB key==0)=c3
  generalize (ByteArray.toList { data:=#[] }==ByteArray.toList val)=c4
  cases c1<;>cases c2<;>cases c3<;>cases c4<;>(repeat' first
   | exact rfl
   | refine And.intro rfl ?_
   | refine AE rfl ?_
   | refine AW rfl ?_
   | refine AE (sz1 _ (by simp only[ByteArray.size_append,Mg,List.length_cons,List.length_nil];omega)) ?_)
 ·refine AW rfl (AW rfl (AW rfl (AW rfl (AW rfl (AW rfl (AW rfl (AW rfl (AE rfl ?_))))))))
  repeat' refine And.intro rfl ?_
  subst hQ
  unfold Sq
  rw[hkk]
  generalize ((0:Int)==a)=c1
  generalize ((0:Int)==b)=c2
  generalize (FB key==0)=c3
  generalize (ByteArray.toList { data:=#[] }==ByteArray.toList val)=c4
  cases c1<;>cases c2<;>cases c3<;>cases c4<;>(repeat' first
   | exact rfl
   | refine And.intro rfl ?_
   | refine AE rfl ?_
   | refine AW rfl ?_
   | refine AE (sz1 _ (by simp only[ByteArray.size_append,Mg,List.length_cons,List.length_nil];omega)) ?_)
 ·refine AW rfl (AW rfl (AW rfl (AW rfl (AW rfl (AW rfl (AW rfl (AW rfl (AW rfl (AE rfl ?_)))))))))
  repeat' refine And.intro rfl ?_
  subst hQ
  unfold Sq
  rw[hkk,hvv]
  generalize ((0:Int)==a)=c1
  generalize ((0:Int)==b)=c2
  generalize (FB key==0)=c3
  generalize (FN val==0)=c4
  cases c1<;>cases c2<;>cases c3<;>cases c4<;>(repeat' first
   | exact rfl
   | refine And.intro rfl ?_
   | refine AE rfl ?_
   | refine AW rfl ?_
   | refine AE (sz1 _ (by simp only[ByteArray.size_append,Mg,List.length_cons,List.length_nil];omega)) ?_)
end Go.AD

set_option maxRecDepth 1000000
namespace Go.AD
open Go.Proofs
noncomputable def fW:Value:= .func (.func Ee) ⟨[]⟩ ⟨[]⟩
noncomputable def dW (l:List (EK.C kI)) (n c:Nat) (ln i:Int):Ay:=
 ⟨⟨Cg,Ib [(0,.slice (some ⟨9,0,some 0⟩) n c),(1,fW),(7,.int .i64 ln),(8,.int .i64 i)],19,[.code (Bb Tryz.prog Cg [1,0,1,0,0]),.inLoop (Bb Tryz.prog Cg [1,0,1,0,0]),.inBlock 0,.code (Bb Tryz.prog Cg [1,1])],[],false,.normal,none⟩,
  [⟨At,.leaf,9,[KU (Bb Tryz.prog At [1,0]) 2,.code .ret],[],false,.normal,none⟩],(⟨.leaf,9⟩:AA).alloc (.vec kI l true)⟩
def eT:Stop:=⟨Cg,1,3,10,[9],[0,1,7,8]⟩
def el:List (FuncId × List Nat):=[(At,[])]
theorem b9 (l:List (EK.C kI)) (n c:Nat) (Q:Value→List (Option AJ)→Prop) (R:Ay→Prop):aP X0 Cv At [] eT el Q R 300 (st At 9 [.slice (some ⟨9,0,some 0⟩) n c,fW] ((⟨.leaf,9⟩:AA).alloc (.vec kI l true)))=(
 (R (dW l n c (Int.ofNat n) 0))):=by kernel_rfl
theorem bJ (l:List (EK.C kI)) (n c:Nat) (ln i:Int) (Q:Value→List (Option AJ)→Prop) (R:Ay→Prop):aP X0 Cv At [] eT el Q R 400 (dW l n c ln i)=(
 (bif decide (i < ln)then(bif decide (0≤i)&&Nat.blt (Int.toNat i) n then(bif Nat.blt (0+Int.toNat i) (List.length l)then(bif decide (List.getD l (0+Int.toNat i) (EK.AQ kI)≥0)then(bif decide (List.getD l (0+Int.toNat i) (EK.AQ kI)≤8192)then(R (dW l n c ln (IntKind.wrap .i64 (i+1))))else(bif decide (i≥0)then(Q (.bool true) [])else(Q (.bool false) [])))else(bif decide (i≥0)then(Q (.bool true) [])else(Q (.bool false) [])))else False)else False)else(Q (.bool false) []))):=by kernel_rfl
end Go.AD

set_option maxRecDepth 1000000
namespace Go.AD
open Go.Proofs
theorem getD_at {α:Type} {l:List α} {i:Nat} {d:α} (h:i < l.length):l.getD (0+Int.toNat (i:Int)) d=l[i]:=by
 rw[Int.toNat_natCast,Nat.zero_add,List.getD_eq_getElem?_getD,List.getElem?_eq_getElem h];rfl
theorem Ur {x:Int} {l:List (EK.C kI)}:Jw (x::l)=(!(decide (0≤x)&&decide (x≤8192))||Jw l):=rfl
theorem Zl (l:List (EK.C kI)) (c:Nat) (hs:l.length≤100000):∀(m i:Nat),l.length - i=m→i≤l.length→As X0 10 At (fun v _=>v= .bool (Jw (l.drop i))) (dW l l.length c l.length i):=by
 intro m
 induction m with
 | zero=>
  intro i hm hi
  refine GD (Av X0) (ids:=[]) (S:=eT) (ks:=el) rfl (Q:=fun v _=>v= .bool (Jw (l.drop i))) (R:=fun _=>False) (fun v H h=>h) (fun c h=>h.elim) 400 _ ?_
  rw[bJ]
  refine AT (fun h=>?_) (fun _=>?_)
  ·exfalso;omega
  ·rw[List.drop_eq_nil_of_le (by omega)];rfl
 | succ m ih=>
  intro i hm hi
  have hlt:i < l.length:=by omega
  have hd:l.drop i=l[i]::l.drop (i+1):=List.drop_eq_getElem_cons hlt
  refine GD (Av X0) (ids:=[]) (S:=eT) (ks:=el) rfl (Q:=fun v _=>v= .bool (Jw (l.drop i))) (R:=fun x=>Jw (l.drop i)=Jw (l.drop (i+1))∧x=dW l l.length c l.length (i+1:Nat)) (fun v H h=>h) (fun x h=>by rw[h.1,h.2];exact ih (i+1) (by omega) (by omega)) 400 _ ?_
  rw[bJ]
  refine AT (fun _=>?_) (fun h=>absurd (show(i:Int) < (l.length:Int) by omega) h)
  refine AE (ca hlt) (AE (cb hlt) ?_)
  have hg:List.getD l (0+Int.toNat (i:Int)) (EK.AQ kI)=l[i]:=getD_at hlt
  rw[hg,hd,Ur]
  refine AT (fun h0=>?_) (fun h0=>?_)
  ·refine AT (fun h1=>?_) (fun h1=>?_)
   ·refine⟨?_,?_⟩
    ·rw[decide_eq_true (show(0:Int)≤l[i]from h0),decide_eq_true (show(l[i]:Int)≤8192 from h1)];rfl
    ·rw[wrap64 (by omega) (by omega)];rfl
   ·refine AE (decide_eq_true (by omega)) ?_
    rw[decide_eq_false (show ¬(l[i]:Int)≤8192 from h1),Bool.and_false];rfl
  ·refine AE (decide_eq_true (by omega)) ?_
   rw[decide_eq_false (show ¬(0:Int)≤l[i]from h0),Bool.false_and];rfl
theorem V7:Da Tryz.prog AL At (A3 AL 9 [] fI):=by
 refine Bs (Aw.nil _ _) (by kernel_rfl) (n:=9) (by kernel_rfl) (by kernel_rfl) fun argsc objs x hx hro=>?_
 unfold fI at hx
 split at hx
 ·rename_i n c f l ro
  simp only[GT.run]at hx
  split at hx
  ·rename_i hok
   obtain⟨⟨rfl,rfl⟩,hs⟩:=hok
   cases hx
   refine⟨by simp,?_⟩
   have hE:As X0 10 At (fun v _=>v= .bool (Jw l)) (st At 9 [.slice (some ⟨9,0,some 0⟩) l.length c,fW] ((⟨.leaf,9⟩:AA).alloc (.vec kI l true))):=by
    refine GD (Av X0) (ids:=[]) (S:=eT) (ks:=el) rfl (Q:=fun _ _=>False) (R:=fun x=>x=dW l l.length c l.length 0) (fun v H h=>h.elim) (fun x h=>by rw[h];exact Zl l c hs l.length 0 (by omega) (by omega)) 300 _ ?_
    rw[b9];rfl
   exact hE.Ko.mono fun v H h=>by rw[h];exact E9 rfl
  ·cases hx
 ·cases hx
end Go.AD

set_option maxRecDepth 1000000
namespace Go.AD
open Go.Proofs
theorem L8 {P:Program} {f:FuncId} (h:(entry P f).isSome=true):∃n c,entry P f=some (n,c):=by
 cases he:entry P f with
 | none=>rw[he]at h;cases h
 | some p=>exact⟨p.1,p.2,rfl⟩
theorem Py:Da Tryz.prog AL Cj JC:=Ue Tryz.XE (by kernel_rfl) (L8 (by kernel_rfl)) (g:=2) (by kernel_rfl) (.tail _ (.head _))
theorem Xc:Da Tryz.prog AL Dy Jz:=Uv Tryz.UX (by kernel_rfl) (by kernel_rfl) (L8 (by kernel_rfl))
theorem XC:Da Tryz.prog AL Dz L1:=Tz Tryz.UQ (by kernel_rfl) (L8 (by kernel_rfl))
theorem Xe:Da Tryz.prog AL EN (KC 206):=Ux Tryz.WE (by kernel_rfl) (L8 (by kernel_rfl)) (by kernel_rfl) (g1:=5) (g2:=6) (by kernel_rfl) (by kernel_rfl) (.tail _ (.tail _ (.head _))) (.tail _ (.tail _ (.tail _ (.head _))))
theorem ZT:Da Tryz.prog AL Cq PK:=Xr Tryz.Xg (by kernel_rfl) (L8 (by kernel_rfl))
theorem en:Aw Tryz.prog AL Zc:= .cons Xc (.cons Xe (.cons Py (.cons XC (.cons V7 (Aw.nil _ _)))))
theorem eS:Aw Tryz.prog AL cF:= .cons (Xp (.cons ZT (Aw.nil _ _))) (.cons aM (.cons Py (.cons (Tq en) (Aw.nil _ _))))
theorem Z8:FD bA aJ:=by
 refine An (fun args H K h=>?_) (An (fun args H K h=>?_) (An (fun args H K h=>?_) (An (fun args H K h=>?_) (Av _))))
 ·unfold ar at h
  split at h
  ·exact Co.Vf (q:=S3) (X:=bA) (f:=Bi) rfl _ H K ⟨trivial,h⟩
  ·exact h.elim
 ·unfold ay at h
  split at h
  ·rename_i s
   have hX:bA.FL Bz=some T8:=rfl
   unfold Bp
   simp only[hX]
   exact⟨_,_,rfl,h⟩
  ·exact h.elim
 ·refine NR (X:=bA) (f:=Cj) rfl (H:=H) (K:=K) ?_
  unfold Ou at h
  split at h
  ·exact⟨⟨h.1.lo,h.1.hi⟩,h.2⟩
  ·exact h.elim
 ·exact Ak (X:=bA) (f:=BB) rfl h
end Go.AD

set_option maxRecDepth 1000000
namespace Go.AD
open Go.Proofs
def QJ (s:ByteArray):Prop:=s=⟨#[97]⟩∨s=⟨#[98]⟩∨s=⟨#[99]⟩∨s=⟨#[97,98]⟩∨s=⟨#[107,49]⟩∨s=⟨#[49,50,51,52,53,54,55,56,57]⟩
theorem O6 {s:ByteArray} (h:QJ s):s.size≤9:=by
 rcases h with rfl | rfl | rfl | rfl | rfl | rfl<;>decide
theorem RG {s:ByteArray} (h:QJ s):FB s=0:=by
 rcases h with rfl | rfl | rfl | rfl | rfl | rfl<;>kernel_rfl
inductive EU:Int→Int→Int→ByteArray→ByteArray→Prop where
 | put (key val:ByteArray) (h:QJ key) (hv:val.size≤512):EU 1 0 0 key val
 | get (key:ByteArray) (h:QJ key):EU 2 0 0 key ByteArray.empty
 | del (key:ByteArray) (h:QJ key):EU 3 0 0 key ByteArray.empty
 | sync:EU 4 0 0 ByteArray.empty ByteArray.empty
 | step:EU 5 0 0 ByteArray.empty ByteArray.empty
 | bV:EU 8 0 0 ByteArray.empty ByteArray.empty
 | bp:EU 7 0 0 ByteArray.empty ⟨#[48]⟩
 | cA:EU 7 5 0 ByteArray.empty ⟨#[48]⟩
 | ZV:EU 7 0 0 ByteArray.empty ⟨#[48,44,55]⟩
 | aR:EU 7 9 0 ByteArray.empty ⟨#[48,44,55]⟩
noncomputable def Lj (k a b:Int) (key val:ByteArray):Int:=cX k a b key val
structure Gl (k a b:Int) (key val:ByteArray):Prop where
 a:Ok a
 key:key.size≤1000
 val:val.size≤1000
theorem LI {k a b:Int} {key val:ByteArray} (h:EU k a b key val):Lj k a b key val=0:=by
 cases h with
 | put key val hk hv=>
  have e:FN val=0:=by unfold FN;rw[if_neg (by omega)]
  unfold Lj cX Vr
  rw[RG hk,e];rfl
 | get key hk=>unfold Lj cX Vr;rw[RG hk];kernel_rfl
 | del key hk=>unfold Lj cX Vr;rw[RG hk];kernel_rfl
 | sync=>kernel_rfl
 | step=>kernel_rfl
 | bV=>kernel_rfl
 | bp=>kernel_rfl
 | cA=>kernel_rfl
 | ZV=>kernel_rfl
 | aR=>kernel_rfl
theorem EU.ok {k a b:Int} {key val:ByteArray} (h:EU k a b key val):Gl k a b key val:=by
 cases h with
 | put key val hk hv=>exact⟨⟨by omega,by omega⟩,by have:=O6 hk;omega,by omega⟩
 | get key hk=>exact⟨⟨by omega,by omega⟩,by have:=O6 hk;omega,by decide⟩
 | del key hk=>exact⟨⟨by omega,by omega⟩,by have:=O6 hk;omega,by decide⟩
 | _=>exact⟨⟨by omega,by omega⟩,by decide,by decide⟩
noncomputable def Xy:Co where
 ok:=fun args=>match args with
  | [.agg ⟨[.int .i64 k,.int .i64 a,.int .i64 b,.string key,.string val]⟩]=>Gl k a b key val
  | _=>False
 v:=fun args=>match args with
  | [.agg ⟨[.int .i64 k,.int .i64 a,.int .i64 b,.string key,.string val]⟩]=> .int .i64 (Lj k a b key val)
  | _=>A5
noncomputable def bw:FJ:=fun args H K=>match args with
 | [.agg ⟨[.int .i64 k,.int .i64 a,.int .i64 b,.string key,.string val]⟩]=>Gl k a b key val∧K (.int .i64 (Lj k a b key val)) H
 | _=>False
theorem Zr {X:Ctx} {f:FuncId} (hX:X.FL f=some Xy.F) (args:List Value) (H:AA) (K:Value→AA→Prop) (h:bw args H K):∃v H',Bp X f args .normal H=some (v,H')∧K v H':=by
 unfold bw at h
 split at h
 ·exact Co.Vf (q:=Xy) hX _ H K ⟨h.1,h.2⟩
 ·exact h.elim
theorem Yu:Da Tryz.prog AL C5 Xy.F:=by
 refine HA (n:=11) (by kernel_rfl) fun args h=>?_
 unfold Xy at h
 simp only at h
 split at h
 ·rename_i k a b key val
  refine⟨rfl,by simp,rfl,cF,eS,?_⟩
  exact(B6 Z8 (ids:=[]) (Q:=fun v _=>v= .int .i64 (cX k a b key val)) 2000 _ (Vg h.a h.key h.val)).Gq
 ·exact h.elim
end Go.AD

set_option maxRecDepth 1000000
namespace Go.AD
open Go.Proofs
def gM (objs:List AJ):Option (AB × Nat × Nat):=match objs with
 | [.cells [.int .i64 c0,.int .i64 c1,.int .i64 c2,.int .i64 c3,.int .i64 c4,.int .i64 c5,.int .i64 c6,.int .i64 lim,.pointer (some ⟨10,0,none⟩),.pointer (some ⟨11,0,none⟩),.int .i64 cost,.slice (some ⟨12,0,some 0⟩) n cap,.pointer none,.int .i64 st,.bool pl] 0 _,
  .abs (.pack (.table b)) _,.abs (.pack (.table nw)) _,.vec [.bool,.str,.str] AG _]=>some (⟨[c0,c1,c2,c3,c4,c5,c6],lim,b,nw,cost,AG,st,pl⟩,n,cap)
 | _=>none
theorem bT {objs:List AJ} {m:AB} {n cap:Nat} (h:gM objs=some (m,n,cap)):∃r0 r1 r2 r3,objs=[.cells (BV m 10 11 (.slice (some ⟨12,0,some 0⟩) n cap)) 0 r0,.abs (.pack (.table m.base)) r1,.abs (.pack (.table m.now)) r2,.vec CW m.AG r3]:=by
 unfold gM at h
 split at h
 ·cases h;exact⟨_,_,_,_,rfl⟩
 ·cases h
noncomputable def Jv (g:AB→List Value→GT) (args:List Value) (objs:List AJ):GT:=
 match args with
 | .pointer (some ⟨9,0,none⟩)::rest=>match gM objs with
  | some (m,n,cap)=> .ask (n=m.AG.length∧cap=AF) (g m rest)
  | none=> .fail
 | _=> .fail
abbrev JR:List Bool:=[false,true,true,false]
abbrev PV:List Bool:=[true,true,true,true]
noncomputable def de (m:AB):List AJ:=[.cells (BV m 10 11 (.slice (some ⟨12,0,some 0⟩) m.AG.length AF)) 0 true,.abs (.pack (.table m.base)) false,.abs (.pack (.table m.now)) false,.vec CW m.AG true]
theorem Pb {fs:List (FuncId × Cn)} (hfs:Aw Tryz.prog AL fs) {f:FuncId} {n:Nat} (he:entry Tryz.prog f=some (n,Bb Tryz.prog f [])) {g:AB→List Value→GT}
 (hrun:∀m rest x,(g m rest).run=some x→rest.length+1≤n∧A4 (Cp Tryz.prog AL fs) 13 (fun b=>9≤b∧b < 13) f (fun v H=>Ci AL 9 4 JR x v H) (st f n (p9::rest) (BW ⟨.leaf,9⟩ (de m)))):Da Tryz.prog AL f (A3 AL 9 JR (Jv g)):=by
 refine Bs hfs (by kernel_rfl) he (by kernel_rfl) fun argsc objs x hx hro=>?_
 unfold Jv at hx
 split at hx
 ·rename_i rest
  split at hx
  ·rename_i m k cap hg
   obtain⟨r0,r1,r2,r3,rfl⟩:=bT hg
   simp only[GT.run]at hx
   split at hx
   ·rename_i hok
    obtain⟨rfl,rfl⟩:=hok
    have e1:r1=false:=hro 1 _ rfl rfl
    have e2:r2=false:=hro 2 _ rfl rfl
    subst e1 e2
    obtain⟨g1,g2⟩:=hrun m rest x hx
    exact⟨by simpa using g1,g2⟩
   ·cases hx
  ·cases hx
 ·cases hx
theorem XF {fs:List (FuncId × Cn)} (hfs:Aw Tryz.prog AL fs) {f:FuncId} {n:Nat} (he:entry Tryz.prog f=some (n,Bb Tryz.prog f [])) {g:AB→List Value→GT}
 (hrun:∀m rest x,(g m rest).run=some x→rest.length+1≤n∧A4 (Cp Tryz.prog AL fs) 13 (fun b=>9≤b∧b < 13) f (fun v H=>Ci AL 9 4 PV x v H) (st f n (p9::rest) (BW ⟨.leaf,9⟩ (Mq m)))):Da Tryz.prog AL f (A3 AL 9 PV (Jv g)):=by
 refine Bs hfs (by kernel_rfl) he (by kernel_rfl) fun argsc objs x hx hro=>?_
 unfold Jv at hx
 split at hx
 ·rename_i rest
  split at hx
  ·rename_i m k cap hg
   obtain⟨r0,r1,r2,r3,rfl⟩:=bT hg
   simp only[GT.run]at hx
   split at hx
   ·rename_i hok
    obtain⟨rfl,rfl⟩:=hok
    have e0:r0=false:=hro 0 _ rfl rfl
    have e1:r1=false:=hro 1 _ rfl rfl
    have e2:r2=false:=hro 2 _ rfl rfl
    have e3:r3=false:=hro 3 _ rfl rfl
    subst e0 e1 e2 e3
    obtain⟨g1,g2⟩:=hrun m rest x hx
    exact⟨by simpa using g1,g2⟩
   ·cases hx
  ·cases hx
 ·cases hx
theorem O1 {v v1:Value} {H:AA} {m:AB} {news:List AJ} {ns:List Nat} (hb:H.get 10=some (DP m.base)) (hn:H.get 11=some (DP m.now)) (hns:ns.length=news.length) (hnd:ns.Nodup) (h13:∀b∈ns,13≤b)
 (hv:EG (Ci.F6 AL 9 4 ns) v=some v1) (hnew:∀(j b:Nat) (o:AJ),ns[j]? = some b→news[j]? = some o→∃o1,BR (Ci.F6 AL 9 4 ns) o=some o1∧H.get b=some o1):
 Ci AL 9 4 JR ⟨v,[none,some (DP m.base),some (DP m.now),none],news⟩ v1 H:=by
 refine⟨ns,hnd,h13,hns,hv,hnew,fun j o hj hm ho=>?_⟩
 cases j with
 | zero=>cases ho
 | succ j=>cases j with
  | zero=>cases ho;exact⟨_,rfl,hb⟩
  | succ j=>cases j with
   | zero=>cases ho;exact⟨_,rfl,hn⟩
   | succ j=>cases j with
    | zero=>cases ho
    | succ j=>omega
end Go.AD

set_option maxRecDepth 1000000
namespace Go.AD
open Go.Proofs
theorem Un (m:AB) (del:Bool) (key val:ByteArray) (Q:Value→List (Option AJ)→Prop):Gv XM Vb Bv [10,11] Q 500 (st Bv 40 [p9,.agg ⟨[.bool del,.string key,.string val]⟩] (BW ⟨.leaf,9⟩ (de m)))=(
 (Aj.ok Au (AB.now m) [Value.string key])∧(bif Option.isSome (DA (AB.now m) key)then(((.bool (Option.isSome (DA (AB.now m) key))):Value)=(.bool true))∧(bif del then(Q (.int .i64 (IntKind.wrap .i64 (AB.cost m - IntKind.wrap .i64 (IntKind.wrap .i64 (16+Int.ofNat (ByteArray.size key))+Int.ofNat (ByteArray.size (Option.getD (DA (AB.now m) key) { data:=#[] })))))) [some (.abs (AZ.pack (Pk.table (AB.base m))) false),some (.abs (AZ.pack (Pk.table (Aj.nx Au (AB.now m) [Value.string key]))) false)])else(Q (.int .i64 (IntKind.wrap .i64 (IntKind.wrap .i64 (AB.cost m - IntKind.wrap .i64 (IntKind.wrap .i64 (16+Int.ofNat (ByteArray.size key))+Int.ofNat (ByteArray.size (Option.getD (DA (AB.now m) key) { data:=#[] }))))+IntKind.wrap .i64 (IntKind.wrap .i64 (16+Int.ofNat (ByteArray.size key))+Int.ofNat (ByteArray.size val))))) [some (.abs (AZ.pack (Pk.table (AB.base m))) false),some (.abs (AZ.pack (Pk.table (Aj.nx Au (AB.now m) [Value.string key]))) false)]))else(((.bool (Option.isSome (DA (AB.now m) key))):Value)=(.bool false))∧(bif del then(Q (.int .i64 (AB.cost m)) [some (.abs (AZ.pack (Pk.table (AB.base m))) false),some (.abs (AZ.pack (Pk.table (Aj.nx Au (AB.now m) [Value.string key]))) false)])else(Q (.int .i64 (IntKind.wrap .i64 (AB.cost m+IntKind.wrap .i64 (IntKind.wrap .i64 (16+Int.ofNat (ByteArray.size key))+Int.ofNat (ByteArray.size val))))) [some (.abs (AZ.pack (Pk.table (AB.base m))) false),some (.abs (AZ.pack (Pk.table (Aj.nx Au (AB.now m) [Value.string key]))) false)])))):=by kernel_rfl
end Go.AD

set_option maxRecDepth 1000000
namespace Go.AD
open Go.Proofs
noncomputable def OH (m:AB) (rest:List Value):GT:=
 match rest with
 | [.agg ⟨[.bool del,.string key,.string val]⟩]=> .ask (BE m.now∧m.now.length < 1000000) (.ret ⟨.int .i64 (D3 m del key val),[none,some (DP m.base),some (DP m.now),none],[]⟩)
 | _=> .fail
theorem Ru:Da Tryz.prog AL Bv (A3 AL 9 JR (Jv OH)):=by
 refine Pb allM (by kernel_rfl) (n:=40) fun m rest x hx=>?_
 unfold OH at hx
 split at hx
 ·rename_i del key val
  simp only[GT.run]at hx
  split at hx
  ·rename_i hok
   cases hx
   obtain⟨hs,hn⟩:=hok
   refine⟨by simp,?_⟩
   have hE:As XM 13 Bv (fun v H=>v= .int .i64 (D3 m del key val)∧([10,11]++Af 4 v).map H.get=[some (DP m.base),some (DP m.now)]) (st Bv 40 [p9,.agg ⟨[.bool del,.string key,.string val]⟩] (BW ⟨.leaf,9⟩ (de m))):=by
    refine B8.Gq (B6 Hs (ids:=[10,11]) (Q:=fun v os=>v= .int .i64 (D3 m del key val)∧os=[some (DP m.base),some (DP m.now)]) 500 _ ?_)
    rw[Un]
    unfold D3
    refine⟨⟨hs,by omega,key,rfl⟩,Az (fun h1=>⟨by rw[h1],Az (fun h2=>⟨?_,rfl⟩) (fun h2=>⟨?_,rfl⟩)⟩) (fun h1=>⟨by rw[h1],Az (fun h2=>⟨?_,rfl⟩) (fun h2=>⟨?_,rfl⟩)⟩)⟩
    all_goals (simp only[h1,h2,cond_true,cond_false]<;>rfl)
   refine hE.Ko.mono ?_
   rintro v H ⟨rfl,h⟩
   have h:[H.get 10,H.get 11]=_:=h
   simp only[List.cons.injEq,and_true]at h
   exact O1 (ns:=[]) h.1 h.2 rfl List.nodup_nil (fun b hb=>by cases hb) rfl (fun j b o hj=>by cases hj)
  ·cases hx
 ·cases hx
end Go.AD

set_option maxRecDepth 1000000
namespace Go.AD
open Go.Proofs
noncomputable abbrev eR:List (FuncId × Cn):=(Bv,A3 AL 9 JR (Jv OH))::fF
noncomputable def fK:Ctx:=Cp Tryz.prog AL eR
noncomputable def dA:Pf:=fun g=>bif Nat.beq g Bv then some (B0 AL 9 JR (Jv OH))else Vb g
theorem cZ (m:AB) (k a b:Int) (key val:ByteArray) (Q:Value→List (Option AJ)→Prop):Gv fK dA BP [10,11] Q 2000 (st BP 97 [p9,IX k a b key val] (BW ⟨.leaf,9⟩ (de m)))=(
 (Aj.ok Au (AB.now m) [Value.string key])∧(bif Option.isSome (DA (AB.now m) key)then(((.bool (Option.isSome (DA (AB.now m) key))):Value)=(.bool true))∧(bif decide (Int.ofNat (ByteArray.size key) > List.getD (AB.cfg m) 4 0)then(bif k==3 then(bif k==1 then(Q (.tuple ⟨[(.agg ⟨[(.int .i64 12),(.string ({ data:=#[] }))]⟩),(.pointer none),(.bool false)]⟩) [some (.abs (AZ.pack (Pk.table (AB.base m))) false),some (.abs (AZ.pack (Pk.table (Aj.nx Au (AB.now m) [Value.string key]))) false)])else(bif k==2 then(Q (.tuple ⟨[(.agg ⟨[(.int .i64 12),(.string ({ data:=#[] }))]⟩),(.pointer none),(.bool false)]⟩) [some (.abs (AZ.pack (Pk.table (AB.base m))) false),some (.abs (AZ.pack (Pk.table (Aj.nx Au (AB.now m) [Value.string key]))) false)])else(bif k==3 then(Q (.tuple ⟨[(.agg ⟨[(.int .i64 12),(.string ({ data:=#[] }))]⟩),(.pointer none),(.bool false)]⟩) [some (.abs (AZ.pack (Pk.table (AB.base m))) false),some (.abs (AZ.pack (Pk.table (Aj.nx Au (AB.now m) [Value.string key]))) false)])else(Q (.tuple ⟨[(.agg ⟨[(.int .i64 0),(.string ({ data:=#[] }))]⟩),(.pointer none),(.bool false)]⟩) [some (.abs (AZ.pack (Pk.table (AB.base m))) false),some (.abs (AZ.pack (Pk.table (Aj.nx Au (AB.now m) [Value.string key]))) false)]))))else(bif k==1 then(Q (.tuple ⟨[(.agg ⟨[(.int .i64 12),(.string ({ data:=#[] }))]⟩),(.pointer none),(.bool false)]⟩) [some (.abs (AZ.pack (Pk.table (AB.base m))) false),some (.abs (AZ.pack (Pk.table (Aj.nx Au (AB.now m) [Value.string key]))) false)])else(bif k==2 then(Q (.tuple ⟨[(.agg ⟨[(.int .i64 12),(.string ({ data:=#[] }))]⟩),(.pointer none),(.bool false)]⟩) [some (.abs (AZ.pack (Pk.table (AB.base m))) false),some (.abs (AZ.pack (Pk.table (Aj.nx Au (AB.now m) [Value.string key]))) false)])else(bif k==3 then(Q (.tuple ⟨[(.agg ⟨[(.int .i64 12),(.string ({ data:=#[] }))]⟩),(.pointer none),(.bool false)]⟩) [some (.abs (AZ.pack (Pk.table (AB.base m))) false),some (.abs (AZ.pack (Pk.table (Aj.nx Au (AB.now m) [Value.string key]))) false)])else(Q (.tuple ⟨[(.agg ⟨[(.int .i64 0),(.string ({ data:=#[] }))]⟩),(.pointer none),(.bool false)]⟩) [some (.abs (AZ.pack (Pk.table (AB.base m))) false),some (.abs (AZ.pack (Pk.table (Aj.nx Au (AB.now m) [Value.string key]))) false)])))))else(bif k==3 then(bif k==1 then(bif decide (Int.ofNat (ByteArray.size val) > List.getD (AB.cfg m) 5 0)then(Q (.tuple ⟨[(.agg ⟨[(.int .i64 12),(.string ({ data:=#[] }))]⟩),(.pointer none),(.bool false)]⟩) [some (.abs (AZ.pack (Pk.table (AB.base m))) false),some (.abs (AZ.pack (Pk.table (Aj.nx Au (AB.now m) [Value.string key]))) false)])else(List.length (AB.AG m)=List.length (AB.AG { cfg:=[List.getD (AB.cfg m) 0 0,List.getD (AB.cfg m) 1 0,List.getD (AB.cfg m) 2 0,List.getD (AB.cfg m) 3 0,List.getD (AB.cfg m) 4 0,List.getD (AB.cfg m) 5 0,List.getD (AB.cfg m) 6 0],AS:=AB.AS m,base:=AB.base m,now:=Aj.nx Au (AB.now m) [Value.string key],cost:=AB.cost m,AG:=AB.AG m,state:=AB.state m,AK:=AB.AK m })∧AF=AF)∧
 (BE (AB.now { cfg:=[List.getD (AB.cfg m) 0 0,List.getD (AB.cfg m) 1 0,List.getD (AB.cfg m) 2 0,List.getD (AB.cfg m) 3 0,List.getD (AB.cfg m) 4 0,List.getD (AB.cfg m) 5 0,List.getD (AB.cfg m) 6 0],AS:=AB.AS m,base:=AB.base m,now:=Aj.nx Au (AB.now m) [Value.string key],cost:=AB.cost m,AG:=AB.AG m,state:=AB.state m,AK:=AB.AK m })∧List.length (AB.now { cfg:=[List.getD (AB.cfg m) 0 0,List.getD (AB.cfg m) 1 0,List.getD (AB.cfg m) 2 0,List.getD (AB.cfg m) 3 0,List.getD (AB.cfg m) 4 0,List.getD (AB.cfg m) 5 0,List.getD (AB.cfg m) 6 0],AS:=AB.AS m,base:=AB.base m,now:=Aj.nx Au (AB.now m) [Value.string key],cost:=AB.cost m,AG:=AB.AG m,state:=AB.state m,AK:=AB.AK m }) < 1000000)∧(((.int .i64 (AB.AS m)):Value)=(.int .i64 (AB.AS m)))∧(((.pointer (some ⟨9,7,none⟩)):Value)=(.pointer (some ⟨9,7,none⟩)))∧(((.pointer (some ⟨9,0,none⟩)):Value)=(.pointer (some ⟨9,0,none⟩)))∧(((.pointer (some ⟨9,0,none⟩)):Value)=(.pointer (some ⟨9,0,none⟩)))∧(bif decide (D3 { cfg:=[List.getD (AB.cfg m) 0 0,List.getD (AB.cfg m) 1 0,List.getD (AB.cfg m) 2 0,List.getD (AB.cfg m) 3 0,List.getD (AB.cfg m) 4 0,List.getD (AB.cfg m) 5 0,List.getD (AB.cfg m) 6 0],AS:=AB.AS m,base:=AB.base m,now:=Aj.nx Au (AB.now m) [Value.string key],cost:=AB.cost m,AG:=AB.AG m,state:=AB.state m,AK:=AB.AK m } true key val > AB.AS m)then(Q (.tuple ⟨[(.agg ⟨[(.int .i64 4),(.string ({ data:=#[] }))]⟩),(.pointer none),(.bool false)]⟩) [some (.abs (AZ.pack (Pk.table (AB.base { cfg:=[List.getD (AB.cfg m) 0 0,List.getD (AB.cfg m) 1 0,List.getD (AB.cfg m) 2 0,List.getD (AB.cfg m) 3 0,List.getD (AB.cfg m) 4 0,List.getD (AB.cfg m) 5 0,List.getD (AB.cfg m) 6 0],AS:=AB.AS m,base:=AB.base m,now:=Aj.nx Au (AB.now m) [Value.string key],cost:=AB.cost m,AG:=AB.AG m,state:=AB.state m,AK:=AB.AK m }))) false),some (.abs (AZ.pack (Pk.table (AB.now { cfg:=[List.getD (AB.cfg m) 0 0,List.getD (AB.cfg m) 1 0,List.getD (AB.cfg m) 2 0,List.getD (AB.cfg m) 3 0,List.getD (AB.cfg m) 4 0,List.getD (AB.cfg m) 5 0,List.getD (AB.cfg m) 6 0],AS:=AB.AS m,base:=AB.base m,now:=Aj.nx Au (AB.now m) [Value.string key],cost:=AB.cost m,AG:=AB.AG m,state:=AB.state m,AK:=AB.AK m }))) false)])else(Q (.tuple ⟨[(.agg ⟨[(.int .i64 0),(.string ({ data:=#[] }))]⟩),(.pointer (some ⟨15,0,none⟩)),(.bool true)]⟩) [some (.abs (AZ.pack (Pk.table (AB.base { cfg:=[List.getD (AB.cfg m) 0 0,List.getD (AB.cfg m) 1 0,List.getD (AB.cfg m) 2 0,List.getD (AB.cfg m) 3 0,List.getD (AB.cfg m) 4 0,List.getD (AB.cfg m) 5 0,List.getD (AB.cfg m) 6 0],AS:=AB.AS m,base:=AB.base m,now:=Aj.nx Au (AB.now m) [Value.string key],cost:=AB.cost m,AG:=AB.AG m,state:=AB.state m,AK:=AB.AK m }))) false),some (.abs (AZ.pack (Pk.table (AB.now { cfg:=[List.getD (AB.cfg m) 0 0,List.getD (AB.cfg m) 1 0,List.getD (AB.cfg m) 2 0,List.getD (AB.cfg m) 3 0,List.getD (AB.cfg m) 4 0,List.getD (AB.cfg m) 5 0,List.getD (AB.cfg m) 6 0],AS:=AB.AS m,base:=AB.base m,now:=Aj.nx Au (AB.now m) [Value.string key],cost:=AB.cost m,AG:=AB.AG m,state:=AB.state m,AK:=AB.AK m }))) false),some (.cells [(.bool true),(.string key),(.string val)] 0 false)])))else(bif k==2 then(bif k==3 then(Q (.tuple ⟨[(.agg ⟨[(.int .i64 0),(.string ({ data:=#[] }))]⟩),(.pointer (some ⟨15,0,none⟩)),(.bool true)]⟩) [some (.abs (AZ.pack (Pk.table (AB.base m))) false),some (.abs (AZ.pack (Pk.table (Aj.nx Au (AB.now m) [Value.string key]))) false),some (.cells [(.bool true),(.string key),(.string val)] 0 false)])else
 (bif k==2 then(bif k==2 then(Q (.tuple ⟨[(.agg ⟨[(.int .i64 0),(.string (Option.getD (DA (AB.now m) key) { data:=#[] }))]⟩),(.pointer none),(.bool false)]⟩) [some (.abs (AZ.pack (Pk.table (AB.base m))) false),some (.abs (AZ.pack (Pk.table (Aj.nx Au (AB.now m) [Value.string key]))) false)])else(Q (.tuple ⟨[(.agg ⟨[(.int .i64 0),(.string ({ data:=#[] }))]⟩),(.pointer none),(.bool false)]⟩) [some (.abs (AZ.pack (Pk.table (AB.base m))) false),some (.abs (AZ.pack (Pk.table (Aj.nx Au (AB.now m) [Value.string key]))) false)]))else(bif k==2 then(Q (.tuple ⟨[(.agg ⟨[(.int .i64 0),(.string (Option.getD (DA (AB.now m) key) { data:=#[] }))]⟩),(.pointer none),(.bool false)]⟩) [some (.abs (AZ.pack (Pk.table (AB.base m))) false),some (.abs (AZ.pack (Pk.table (Aj.nx Au (AB.now m) [Value.string key]))) false)])else(Q (.tuple ⟨[(.agg ⟨[(.int .i64 0),(.string ({ data:=#[] }))]⟩),(.pointer none),(.bool false)]⟩) [some (.abs (AZ.pack (Pk.table (AB.base m))) false),some (.abs (AZ.pack (Pk.table (Aj.nx Au (AB.now m) [Value.string key]))) false)]))))else(bif k==3 then(bif k==3 then(Q (.tuple ⟨[(.agg ⟨[(.int .i64 0),(.string ({ data:=#[] }))]⟩),(.pointer (some ⟨15,0,none⟩)),(.bool true)]⟩) [some (.abs (AZ.pack (Pk.table (AB.base m))) false),some (.abs (AZ.pack (Pk.table (Aj.nx Au (AB.now m) [Value.string key]))) false),some (.cells [(.bool true),(.string key),(.string val)] 0 false)])else(bif k==2 then(bif k==2 then(Q (.tuple ⟨[(.agg ⟨[(.int .i64 0),(.string (Option.getD (DA (AB.now m) key) { data:=#[] }))]⟩),(.pointer none),(.bool false)]⟩) [some (.abs (AZ.pack (Pk.table (AB.base m))) false),some (.abs (AZ.pack (Pk.table (Aj.nx Au (AB.now m) [Value.string key]))) false)])else(Q (.tuple ⟨[(.agg ⟨[(.int .i64 0),(.string ({ data:=#[] }))]⟩),(.pointer none),(.bool false)]⟩) [some (.abs (AZ.pack (Pk.table (AB.base m))) false),some (.abs (AZ.pack (Pk.table (Aj.nx Au (AB.now m) [Value.string key]))) false)]))else(bif k==2 then(Q (.tuple ⟨[(.agg ⟨[(.int .i64 0),(.string (Option.getD (DA (AB.now m) key) { data:=#[] }))]⟩),(.pointer none),(.bool false)]⟩) [some (.abs (AZ.pack (Pk.table (AB.base m))) false),some (.abs (AZ.pack (Pk.table (Aj.nx Au (AB.now m) [Value.string key]))) false)])else(Q (.tuple ⟨[(.agg ⟨[(.int .i64 0),(.string ({ data:=#[] }))]⟩),(.pointer none),(.bool false)]⟩) [some (.abs (AZ.pack (Pk.table (AB.base m))) false),some (.abs (AZ.pack (Pk.table (Aj.nx Au (AB.now m) [Value.string key]))) false)]))))else(Q (.tuple ⟨[(.agg ⟨[(.int .i64 0),(.string ({ data:=#[] }))]⟩),(.pointer none),(.bool false)]⟩) [some (.abs (AZ.pack (Pk.table (AB.base m))) false),some (.abs (AZ.pack (Pk.table (Aj.nx Au (AB.now m) [Value.string key]))) false)]))))else(bif k==1 then(bif decide (Int.ofNat (ByteArray.size val) > List.getD (AB.cfg m) 5 0)then(Q (.tuple ⟨[(.agg ⟨[(.int .i64 12),(.string ({ data:=#[] }))]⟩),(.pointer none),(.bool false)]⟩) [some (.abs (AZ.pack (Pk.table (AB.base m))) false),some (.abs (AZ.pack (Pk.table (Aj.nx Au (AB.now m) [Value.string key]))) false)])else(List.length (AB.AG m)=List.length (AB.AG { cfg:=[List.getD (AB.cfg m) 0 0,List.getD (AB.cfg m) 1 0,List.getD (AB.cfg m) 2 0,List.getD (AB.cfg m) 3 0,List.getD (AB.cfg m) 4 0,List.getD (AB.cfg m) 5 0,List.getD (AB.cfg m) 6 0],AS:=AB.AS m,base:=AB.base m,now:=Aj.nx Au (AB.now m) [Value.string key],cost:=AB.cost m,AG:=AB.AG m,state:=AB.state m,AK:=AB.AK m })∧AF=AF)∧
 (BE (AB.now { cfg:=[List.getD (AB.cfg m) 0 0,List.getD (AB.cfg m) 1 0,List.getD (AB.cfg m) 2 0,List.getD (AB.cfg m) 3 0,List.getD (AB.cfg m) 4 0,List.getD (AB.cfg m) 5 0,List.getD (AB.cfg m) 6 0],AS:=AB.AS m,base:=AB.base m,now:=Aj.nx Au (AB.now m) [Value.string key],cost:=AB.cost m,AG:=AB.AG m,state:=AB.state m,AK:=AB.AK m })∧List.length (AB.now { cfg:=[List.getD (AB.cfg m) 0 0,List.getD (AB.cfg m) 1 0,List.getD (AB.cfg m) 2 0,List.getD (AB.cfg m) 3 0,List.getD (AB.cfg m) 4 0,List.getD (AB.cfg m) 5 0,List.getD (AB.cfg m) 6 0],AS:=AB.AS m,base:=AB.base m,now:=Aj.nx Au (AB.now m) [Value.string key],cost:=AB.cost m,AG:=AB.AG m,state:=AB.state m,AK:=AB.AK m }) < 1000000)∧(((.int .i64 (AB.AS m)):Value)=(.int .i64 (AB.AS m)))∧(((.pointer (some ⟨9,7,none⟩)):Value)=(.pointer (some ⟨9,7,none⟩)))∧(((.pointer (some ⟨9,0,none⟩)):Value)=(.pointer (some ⟨9,0,none⟩)))∧(((.pointer (some ⟨9,0,none⟩)):Value)=(.pointer (some ⟨9,0,none⟩)))∧(bif decide (D3 { cfg:=[List.getD (AB.cfg m) 0 0,List.getD (AB.cfg m) 1 0,List.getD (AB.cfg m) 2 0,List.getD (AB.cfg m) 3 0,List.getD (AB.cfg m) 4 0,List.getD (AB.cfg m) 5 0,List.getD (AB.cfg m) 6 0],AS:=AB.AS m,base:=AB.base m,now:=Aj.nx Au (AB.now m) [Value.string key],cost:=AB.cost m,AG:=AB.AG m,state:=AB.state m,AK:=AB.AK m } false key val > AB.AS m)then(Q (.tuple ⟨[(.agg ⟨[(.int .i64 4),(.string ({ data:=#[] }))]⟩),(.pointer none),(.bool false)]⟩) [some (.abs (AZ.pack (Pk.table (AB.base { cfg:=[List.getD (AB.cfg m) 0 0,List.getD (AB.cfg m) 1 0,List.getD (AB.cfg m) 2 0,List.getD (AB.cfg m) 3 0,List.getD (AB.cfg m) 4 0,List.getD (AB.cfg m) 5 0,List.getD (AB.cfg m) 6 0],AS:=AB.AS m,base:=AB.base m,now:=Aj.nx Au (AB.now m) [Value.string key],cost:=AB.cost m,AG:=AB.AG m,state:=AB.state m,AK:=AB.AK m }))) false),some (.abs (AZ.pack (Pk.table (AB.now { cfg:=[List.getD (AB.cfg m) 0 0,List.getD (AB.cfg m) 1 0,List.getD (AB.cfg m) 2 0,List.getD (AB.cfg m) 3 0,List.getD (AB.cfg m) 4 0,List.getD (AB.cfg m) 5 0,List.getD (AB.cfg m) 6 0],AS:=AB.AS m,base:=AB.base m,now:=Aj.nx Au (AB.now m) [Value.string key],cost:=AB.cost m,AG:=AB.AG m,state:=AB.state m,AK:=AB.AK m }))) false)])else(Q (.tuple ⟨[(.agg ⟨[(.int .i64 0),(.string ({ data:=#[] }))]⟩),(.pointer (some ⟨15,0,none⟩)),(.bool true)]⟩) [some (.abs (AZ.pack (Pk.table (AB.base { cfg:=[List.getD (AB.cfg m) 0 0,List.getD (AB.cfg m) 1 0,List.getD (AB.cfg m) 2 0,List.getD (AB.cfg m) 3 0,List.getD (AB.cfg m) 4 0,List.getD (AB.cfg m) 5 0,List.getD (AB.cfg m) 6 0],AS:=AB.AS m,base:=AB.base m,now:=Aj.nx Au (AB.now m) [Value.string key],cost:=AB.cost m,AG:=AB.AG m,state:=AB.state m,AK:=AB.AK m }))) false),some (.abs (AZ.pack (Pk.table (AB.now { cfg:=[List.getD (AB.cfg m) 0 0,List.getD (AB.cfg m) 1 0,List.getD (AB.cfg m) 2 0,List.getD (AB.cfg m) 3 0,List.getD (AB.cfg m) 4 0,List.getD (AB.cfg m) 5 0,List.getD (AB.cfg m) 6 0],AS:=AB.AS m,base:=AB.base m,now:=Aj.nx Au (AB.now m) [Value.string key],cost:=AB.cost m,AG:=AB.AG m,state:=AB.state m,AK:=AB.AK m }))) false),some (.cells [(.bool false),(.string key),(.string val)] 0 false)])))else(bif k==2 then(bif k==3 then(Q (.tuple ⟨[(.agg ⟨[(.int .i64 0),(.string ({ data:=#[] }))]⟩),(.pointer (some ⟨15,0,none⟩)),(.bool true)]⟩) [some (.abs (AZ.pack (Pk.table (AB.base m))) false),some (.abs (AZ.pack (Pk.table (Aj.nx Au (AB.now m) [Value.string key]))) false),some (.cells [(.bool false),(.string key),(.string val)] 0 false)])else
 (bif k==2 then(bif k==2 then(Q (.tuple ⟨[(.agg ⟨[(.int .i64 0),(.string (Option.getD (DA (AB.now m) key) { data:=#[] }))]⟩),(.pointer none),(.bool false)]⟩) [some (.abs (AZ.pack (Pk.table (AB.base m))) false),some (.abs (AZ.pack (Pk.table (Aj.nx Au (AB.now m) [Value.string key]))) false)])else(Q (.tuple ⟨[(.agg ⟨[(.int .i64 0),(.string ({ data:=#[] }))]⟩),(.pointer none),(.bool false)]⟩) [some (.abs (AZ.pack (Pk.table (AB.base m))) false),some (.abs (AZ.pack (Pk.table (Aj.nx Au (AB.now m) [Value.string key]))) false)]))else(bif k==2 then(Q (.tuple ⟨[(.agg ⟨[(.int .i64 0),(.string (Option.getD (DA (AB.now m) key) { data:=#[] }))]⟩),(.pointer none),(.bool false)]⟩) [some (.abs (AZ.pack (Pk.table (AB.base m))) false),some (.abs (AZ.pack (Pk.table (Aj.nx Au (AB.now m) [Value.string key]))) false)])else(Q (.tuple ⟨[(.agg ⟨[(.int .i64 0),(.string ({ data:=#[] }))]⟩),(.pointer none),(.bool false)]⟩) [some (.abs (AZ.pack (Pk.table (AB.base m))) false),some (.abs (AZ.pack (Pk.table (Aj.nx Au (AB.now m) [Value.string key]))) false)]))))else(bif k==3 then(bif k==3 then(Q (.tuple ⟨[(.agg ⟨[(.int .i64 0),(.string ({ data:=#[] }))]⟩),(.pointer (some ⟨15,0,none⟩)),(.bool true)]⟩) [some (.abs (AZ.pack (Pk.table (AB.base m))) false),some (.abs (AZ.pack (Pk.table (Aj.nx Au (AB.now m) [Value.string key]))) false),some (.cells [(.bool false),(.string key),(.string val)] 0 false)])else(bif k==2 then(bif k==2 then(Q (.tuple ⟨[(.agg ⟨[(.int .i64 0),(.string (Option.getD (DA (AB.now m) key) { data:=#[] }))]⟩),(.pointer none),(.bool false)]⟩) [some (.abs (AZ.pack (Pk.table (AB.base m))) false),some (.abs (AZ.pack (Pk.table (Aj.nx Au (AB.now m) [Value.string key]))) false)])else(Q (.tuple ⟨[(.agg ⟨[(.int .i64 0),(.string ({ data:=#[] }))]⟩),(.pointer none),(.bool false)]⟩) [some (.abs (AZ.pack (Pk.table (AB.base m))) false),some (.abs (AZ.pack (Pk.table (Aj.nx Au (AB.now m) [Value.string key]))) false)]))else(bif k==2 then(Q (.tuple ⟨[(.agg ⟨[(.int .i64 0),(.string (Option.getD (DA (AB.now m) key) { data:=#[] }))]⟩),(.pointer none),(.bool false)]⟩) [some (.abs (AZ.pack (Pk.table (AB.base m))) false),some (.abs (AZ.pack (Pk.table (Aj.nx Au (AB.now m) [Value.string key]))) false)])else(Q (.tuple ⟨[(.agg ⟨[(.int .i64 0),(.string ({ data:=#[] }))]⟩),(.pointer none),(.bool false)]⟩) [some (.abs (AZ.pack (Pk.table (AB.base m))) false),some (.abs (AZ.pack (Pk.table (Aj.nx Au (AB.now m) [Value.string key]))) false)]))))else(Q (.tuple ⟨[(.agg ⟨[(.int .i64 0),(.string ({ data:=#[] }))]⟩),(.pointer none),(.bool false)]⟩) [some (.abs (AZ.pack (Pk.table (AB.base m))) false),some (.abs (AZ.pack (Pk.table (Aj.nx Au (AB.now m) [Value.string key]))) false)]))))))else(((.bool (Option.isSome (DA (AB.now m) key))):Value)=(.bool false))∧(bif decide (Int.ofNat (ByteArray.size key) > List.getD (AB.cfg m) 4 0)then(bif k==3 then(bif k==1 then(Q (.tuple ⟨[(.agg ⟨[(.int .i64 12),(.string ({ data:=#[] }))]⟩),(.pointer none),(.bool false)]⟩) [some (.abs (AZ.pack (Pk.table (AB.base m))) false),some (.abs (AZ.pack (Pk.table (Aj.nx Au (AB.now m) [Value.string key]))) false)])else(bif k==2 then(Q (.tuple ⟨[(.agg ⟨[(.int .i64 12),(.string ({ data:=#[] }))]⟩),(.pointer none),(.bool false)]⟩) [some (.abs (AZ.pack (Pk.table (AB.base m))) false),some (.abs (AZ.pack (Pk.table (Aj.nx Au (AB.now m) [Value.string key]))) false)])else(bif k==3 then(Q (.tuple ⟨[(.agg ⟨[(.int .i64 12),(.string ({ data:=#[] }))]⟩),(.pointer none),(.bool false)]⟩) [some (.abs (AZ.pack (Pk.table (AB.base m))) false),some (.abs (AZ.pack (Pk.table (Aj.nx Au (AB.now m) [Value.string key]))) false)])else
 (Q (.tuple ⟨[(.agg ⟨[(.int .i64 0),(.string ({ data:=#[] }))]⟩),(.pointer none),(.bool false)]⟩) [some (.abs (AZ.pack (Pk.table (AB.base m))) false),some (.abs (AZ.pack (Pk.table (Aj.nx Au (AB.now m) [Value.string key]))) false)]))))else(bif k==1 then(Q (.tuple ⟨[(.agg ⟨[(.int .i64 12),(.string ({ data:=#[] }))]⟩),(.pointer none),(.bool false)]⟩) [some (.abs (AZ.pack (Pk.table (AB.base m))) false),some (.abs (AZ.pack (Pk.table (Aj.nx Au (AB.now m) [Value.string key]))) false)])else(bif k==2 then(Q (.tuple ⟨[(.agg ⟨[(.int .i64 12),(.string ({ data:=#[] }))]⟩),(.pointer none),(.bool false)]⟩) [some (.abs (AZ.pack (Pk.table (AB.base m))) false),some (.abs (AZ.pack (Pk.table (Aj.nx Au (AB.now m) [Value.string key]))) false)])else(bif k==3 then(Q (.tuple ⟨[(.agg ⟨[(.int .i64 12),(.string ({ data:=#[] }))]⟩),(.pointer none),(.bool false)]⟩) [some (.abs (AZ.pack (Pk.table (AB.base m))) false),some (.abs (AZ.pack (Pk.table (Aj.nx Au (AB.now m) [Value.string key]))) false)])else(Q (.tuple ⟨[(.agg ⟨[(.int .i64 0),(.string ({ data:=#[] }))]⟩),(.pointer none),(.bool false)]⟩) [some (.abs (AZ.pack (Pk.table (AB.base m))) false),some (.abs (AZ.pack (Pk.table (Aj.nx Au (AB.now m) [Value.string key]))) false)])))))else(bif k==3 then(bif k==1 then(bif decide (Int.ofNat (ByteArray.size val) > List.getD (AB.cfg m) 5 0)then(Q (.tuple ⟨[(.agg ⟨[(.int .i64 12),(.string ({ data:=#[] }))]⟩),(.pointer none),(.bool false)]⟩) [some (.abs (AZ.pack (Pk.table (AB.base m))) false),some (.abs (AZ.pack (Pk.table (Aj.nx Au (AB.now m) [Value.string key]))) false)])else(List.length (AB.AG m)=List.length (AB.AG { cfg:=[List.getD (AB.cfg m) 0 0,List.getD (AB.cfg m) 1 0,List.getD (AB.cfg m) 2 0,List.getD (AB.cfg m) 3 0,List.getD (AB.cfg m) 4 0,List.getD (AB.cfg m) 5 0,List.getD (AB.cfg m) 6 0],AS:=AB.AS m,base:=AB.base m,now:=Aj.nx Au (AB.now m) [Value.string key],cost:=AB.cost m,AG:=AB.AG m,state:=AB.state m,AK:=AB.AK m })∧AF=AF)∧(BE (AB.now { cfg:=[List.getD (AB.cfg m) 0 0,List.getD (AB.cfg m) 1 0,List.getD (AB.cfg m) 2 0,List.getD (AB.cfg m) 3 0,List.getD (AB.cfg m) 4 0,List.getD (AB.cfg m) 5 0,List.getD (AB.cfg m) 6 0],AS:=AB.AS m,base:=AB.base m,now:=Aj.nx Au (AB.now m) [Value.string key],cost:=AB.cost m,AG:=AB.AG m,state:=AB.state m,AK:=AB.AK m })∧List.length (AB.now { cfg:=[List.getD (AB.cfg m) 0 0,List.getD (AB.cfg m) 1 0,List.getD (AB.cfg m) 2 0,List.getD (AB.cfg m) 3 0,List.getD (AB.cfg m) 4 0,List.getD (AB.cfg m) 5 0,List.getD (AB.cfg m) 6 0],AS:=AB.AS m,base:=AB.base m,now:=Aj.nx Au (AB.now m) [Value.string key],cost:=AB.cost m,AG:=AB.AG m,state:=AB.state m,AK:=AB.AK m }) < 1000000)∧(((.int .i64 (AB.AS m)):Value)=(.int .i64 (AB.AS m)))∧(((.pointer (some ⟨9,7,none⟩)):Value)=(.pointer (some ⟨9,7,none⟩)))∧(((.pointer (some ⟨9,0,none⟩)):Value)=(.pointer (some ⟨9,0,none⟩)))∧(((.pointer (some ⟨9,0,none⟩)):Value)=(.pointer (some ⟨9,0,none⟩)))∧(bif decide (D3 { cfg:=[List.getD (AB.cfg m) 0 0,List.getD (AB.cfg m) 1 0,List.getD (AB.cfg m) 2 0,List.getD (AB.cfg m) 3 0,List.getD (AB.cfg m) 4 0,List.getD (AB.cfg m) 5 0,List.getD (AB.cfg m) 6 0],AS:=AB.AS m,base:=AB.base m,now:=Aj.nx Au (AB.now m) [Value.string key],cost:=AB.cost m,AG:=AB.AG m,state:=AB.state m,AK:=AB.AK m } true key val > AB.AS m)then
 (Q (.tuple ⟨[(.agg ⟨[(.int .i64 4),(.string ({ data:=#[] }))]⟩),(.pointer none),(.bool false)]⟩) [some (.abs (AZ.pack (Pk.table (AB.base { cfg:=[List.getD (AB.cfg m) 0 0,List.getD (AB.cfg m) 1 0,List.getD (AB.cfg m) 2 0,List.getD (AB.cfg m) 3 0,List.getD (AB.cfg m) 4 0,List.getD (AB.cfg m) 5 0,List.getD (AB.cfg m) 6 0],AS:=AB.AS m,base:=AB.base m,now:=Aj.nx Au (AB.now m) [Value.string key],cost:=AB.cost m,AG:=AB.AG m,state:=AB.state m,AK:=AB.AK m }))) false),some (.abs (AZ.pack (Pk.table (AB.now { cfg:=[List.getD (AB.cfg m) 0 0,List.getD (AB.cfg m) 1 0,List.getD (AB.cfg m) 2 0,List.getD (AB.cfg m) 3 0,List.getD (AB.cfg m) 4 0,List.getD (AB.cfg m) 5 0,List.getD (AB.cfg m) 6 0],AS:=AB.AS m,base:=AB.base m,now:=Aj.nx Au (AB.now m) [Value.string key],cost:=AB.cost m,AG:=AB.AG m,state:=AB.state m,AK:=AB.AK m }))) false)])else(Q (.tuple ⟨[(.agg ⟨[(.int .i64 0),(.string ({ data:=#[] }))]⟩),(.pointer (some ⟨15,0,none⟩)),(.bool true)]⟩) [some (.abs (AZ.pack (Pk.table (AB.base { cfg:=[List.getD (AB.cfg m) 0 0,List.getD (AB.cfg m) 1 0,List.getD (AB.cfg m) 2 0,List.getD (AB.cfg m) 3 0,List.getD (AB.cfg m) 4 0,List.getD (AB.cfg m) 5 0,List.getD (AB.cfg m) 6 0],AS:=AB.AS m,base:=AB.base m,now:=Aj.nx Au (AB.now m) [Value.string key],cost:=AB.cost m,AG:=AB.AG m,state:=AB.state m,AK:=AB.AK m }))) false),some (.abs (AZ.pack (Pk.table (AB.now { cfg:=[List.getD (AB.cfg m) 0 0,List.getD (AB.cfg m) 1 0,List.getD (AB.cfg m) 2 0,List.getD (AB.cfg m) 3 0,List.getD (AB.cfg m) 4 0,List.getD (AB.cfg m) 5 0,List.getD (AB.cfg m) 6 0],AS:=AB.AS m,base:=AB.base m,now:=Aj.nx Au (AB.now m) [Value.string key],cost:=AB.cost m,AG:=AB.AG m,state:=AB.state m,AK:=AB.AK m }))) false),some (.cells [(.bool true),(.string key),(.string val)] 0 false)])))else(bif k==2 then(bif k==3 then(bif k==2 then(Q (.tuple ⟨[(.agg ⟨[(.int .i64 5),(.string ({ data:=#[] }))]⟩),(.pointer none),(.bool false)]⟩) [some (.abs (AZ.pack (Pk.table (AB.base m))) false),some (.abs (AZ.pack (Pk.table (Aj.nx Au (AB.now m) [Value.string key]))) false)])else(bif k==2 then(Q (.tuple ⟨[(.agg ⟨[(.int .i64 0),(.string (Option.getD (DA (AB.now m) key) { data:=#[] }))]⟩),(.pointer none),(.bool false)]⟩) [some (.abs (AZ.pack (Pk.table (AB.base m))) false),some (.abs (AZ.pack (Pk.table (Aj.nx Au (AB.now m) [Value.string key]))) false)])else(Q (.tuple ⟨[(.agg ⟨[(.int .i64 0),(.string ({ data:=#[] }))]⟩),(.pointer none),(.bool false)]⟩) [some (.abs (AZ.pack (Pk.table (AB.base m))) false),some (.abs (AZ.pack (Pk.table (Aj.nx Au (AB.now m) [Value.string key]))) false)])))else(bif k==2 then(Q (.tuple ⟨[(.agg ⟨[(.int .i64 5),(.string ({ data:=#[] }))]⟩),(.pointer none),(.bool false)]⟩) [some (.abs (AZ.pack (Pk.table (AB.base m))) false),some (.abs (AZ.pack (Pk.table (Aj.nx Au (AB.now m) [Value.string key]))) false)])else(bif k==2 then(Q (.tuple ⟨[(.agg ⟨[(.int .i64 0),(.string (Option.getD (DA (AB.now m) key) { data:=#[] }))]⟩),(.pointer none),(.bool false)]⟩) [some (.abs (AZ.pack (Pk.table (AB.base m))) false),some (.abs (AZ.pack (Pk.table (Aj.nx Au (AB.now m) [Value.string key]))) false)])else(Q (.tuple ⟨[(.agg ⟨[(.int .i64 0),(.string ({ data:=#[] }))]⟩),(.pointer none),(.bool false)]⟩) [some (.abs (AZ.pack (Pk.table (AB.base m))) false),some (.abs (AZ.pack (Pk.table (Aj.nx Au (AB.now m) [Value.string key]))) false)]))))else(bif k==3 then(bif k==3 then(bif k==2 then
 (Q (.tuple ⟨[(.agg ⟨[(.int .i64 5),(.string ({ data:=#[] }))]⟩),(.pointer none),(.bool false)]⟩) [some (.abs (AZ.pack (Pk.table (AB.base m))) false),some (.abs (AZ.pack (Pk.table (Aj.nx Au (AB.now m) [Value.string key]))) false)])else(bif k==2 then(Q (.tuple ⟨[(.agg ⟨[(.int .i64 0),(.string (Option.getD (DA (AB.now m) key) { data:=#[] }))]⟩),(.pointer none),(.bool false)]⟩) [some (.abs (AZ.pack (Pk.table (AB.base m))) false),some (.abs (AZ.pack (Pk.table (Aj.nx Au (AB.now m) [Value.string key]))) false)])else(Q (.tuple ⟨[(.agg ⟨[(.int .i64 0),(.string ({ data:=#[] }))]⟩),(.pointer none),(.bool false)]⟩) [some (.abs (AZ.pack (Pk.table (AB.base m))) false),some (.abs (AZ.pack (Pk.table (Aj.nx Au (AB.now m) [Value.string key]))) false)])))else(bif k==2 then(Q (.tuple ⟨[(.agg ⟨[(.int .i64 5),(.string ({ data:=#[] }))]⟩),(.pointer none),(.bool false)]⟩) [some (.abs (AZ.pack (Pk.table (AB.base m))) false),some (.abs (AZ.pack (Pk.table (Aj.nx Au (AB.now m) [Value.string key]))) false)])else(bif k==2 then(Q (.tuple ⟨[(.agg ⟨[(.int .i64 0),(.string (Option.getD (DA (AB.now m) key) { data:=#[] }))]⟩),(.pointer none),(.bool false)]⟩) [some (.abs (AZ.pack (Pk.table (AB.base m))) false),some (.abs (AZ.pack (Pk.table (Aj.nx Au (AB.now m) [Value.string key]))) false)])else(Q (.tuple ⟨[(.agg ⟨[(.int .i64 0),(.string ({ data:=#[] }))]⟩),(.pointer none),(.bool false)]⟩) [some (.abs (AZ.pack (Pk.table (AB.base m))) false),some (.abs (AZ.pack (Pk.table (Aj.nx Au (AB.now m) [Value.string key]))) false)]))))else(Q (.tuple ⟨[(.agg ⟨[(.int .i64 0),(.string ({ data:=#[] }))]⟩),(.pointer none),(.bool false)]⟩) [some (.abs (AZ.pack (Pk.table (AB.base m))) false),some (.abs (AZ.pack (Pk.table (Aj.nx Au (AB.now m) [Value.string key]))) false)]))))else(bif k==1 then(bif decide (Int.ofNat (ByteArray.size val) > List.getD (AB.cfg m) 5 0)then(Q (.tuple ⟨[(.agg ⟨[(.int .i64 12),(.string ({ data:=#[] }))]⟩),(.pointer none),(.bool false)]⟩) [some (.abs (AZ.pack (Pk.table (AB.base m))) false),some (.abs (AZ.pack (Pk.table (Aj.nx Au (AB.now m) [Value.string key]))) false)])else(List.length (AB.AG m)=List.length (AB.AG { cfg:=[List.getD (AB.cfg m) 0 0,List.getD (AB.cfg m) 1 0,List.getD (AB.cfg m) 2 0,List.getD (AB.cfg m) 3 0,List.getD (AB.cfg m) 4 0,List.getD (AB.cfg m) 5 0,List.getD (AB.cfg m) 6 0],AS:=AB.AS m,base:=AB.base m,now:=Aj.nx Au (AB.now m) [Value.string key],cost:=AB.cost m,AG:=AB.AG m,state:=AB.state m,AK:=AB.AK m })∧AF=AF)∧(BE (AB.now { cfg:=[List.getD (AB.cfg m) 0 0,List.getD (AB.cfg m) 1 0,List.getD (AB.cfg m) 2 0,List.getD (AB.cfg m) 3 0,List.getD (AB.cfg m) 4 0,List.getD (AB.cfg m) 5 0,List.getD (AB.cfg m) 6 0],AS:=AB.AS m,base:=AB.base m,now:=Aj.nx Au (AB.now m) [Value.string key],cost:=AB.cost m,AG:=AB.AG m,state:=AB.state m,AK:=AB.AK m })∧List.length (AB.now { cfg:=[List.getD (AB.cfg m) 0 0,List.getD (AB.cfg m) 1 0,List.getD (AB.cfg m) 2 0,List.getD (AB.cfg m) 3 0,List.getD (AB.cfg m) 4 0,List.getD (AB.cfg m) 5 0,List.getD (AB.cfg m) 6 0],AS:=AB.AS m,base:=AB.base m,now:=Aj.nx Au (AB.now m) [Value.string key],cost:=AB.cost m,AG:=AB.AG m,state:=AB.state m,AK:=AB.AK m }) < 1000000)∧(((.int .i64 (AB.AS m)):Value)=(.int .i64 (AB.AS m)))∧(((.pointer (some ⟨9,7,none⟩)):Value)=(.pointer (some ⟨9,7,none⟩)))∧(((.pointer (some ⟨9,0,none⟩)):Value)=(.pointer (some ⟨9,0,none⟩)))∧(((.pointer (some ⟨9,0,none⟩)):Value)=(.pointer (some ⟨9,0,none⟩)))∧
 (bif decide (D3 { cfg:=[List.getD (AB.cfg m) 0 0,List.getD (AB.cfg m) 1 0,List.getD (AB.cfg m) 2 0,List.getD (AB.cfg m) 3 0,List.getD (AB.cfg m) 4 0,List.getD (AB.cfg m) 5 0,List.getD (AB.cfg m) 6 0],AS:=AB.AS m,base:=AB.base m,now:=Aj.nx Au (AB.now m) [Value.string key],cost:=AB.cost m,AG:=AB.AG m,state:=AB.state m,AK:=AB.AK m } false key val > AB.AS m)then(Q (.tuple ⟨[(.agg ⟨[(.int .i64 4),(.string ({ data:=#[] }))]⟩),(.pointer none),(.bool false)]⟩) [some (.abs (AZ.pack (Pk.table (AB.base { cfg:=[List.getD (AB.cfg m) 0 0,List.getD (AB.cfg m) 1 0,List.getD (AB.cfg m) 2 0,List.getD (AB.cfg m) 3 0,List.getD (AB.cfg m) 4 0,List.getD (AB.cfg m) 5 0,List.getD (AB.cfg m) 6 0],AS:=AB.AS m,base:=AB.base m,now:=Aj.nx Au (AB.now m) [Value.string key],cost:=AB.cost m,AG:=AB.AG m,state:=AB.state m,AK:=AB.AK m }))) false),some (.abs (AZ.pack (Pk.table (AB.now { cfg:=[List.getD (AB.cfg m) 0 0,List.getD (AB.cfg m) 1 0,List.getD (AB.cfg m) 2 0,List.getD (AB.cfg m) 3 0,List.getD (AB.cfg m) 4 0,List.getD (AB.cfg m) 5 0,List.getD (AB.cfg m) 6 0],AS:=AB.AS m,base:=AB.base m,now:=Aj.nx Au (AB.now m) [Value.string key],cost:=AB.cost m,AG:=AB.AG m,state:=AB.state m,AK:=AB.AK m }))) false)])else(Q (.tuple ⟨[(.agg ⟨[(.int .i64 0),(.string ({ data:=#[] }))]⟩),(.pointer (some ⟨15,0,none⟩)),(.bool true)]⟩) [some (.abs (AZ.pack (Pk.table (AB.base { cfg:=[List.getD (AB.cfg m) 0 0,List.getD (AB.cfg m) 1 0,List.getD (AB.cfg m) 2 0,List.getD (AB.cfg m) 3 0,List.getD (AB.cfg m) 4 0,List.getD (AB.cfg m) 5 0,List.getD (AB.cfg m) 6 0],AS:=AB.AS m,base:=AB.base m,now:=Aj.nx Au (AB.now m) [Value.string key],cost:=AB.cost m,AG:=AB.AG m,state:=AB.state m,AK:=AB.AK m }))) false),some (.abs (AZ.pack (Pk.table (AB.now { cfg:=[List.getD (AB.cfg m) 0 0,List.getD (AB.cfg m) 1 0,List.getD (AB.cfg m) 2 0,List.getD (AB.cfg m) 3 0,List.getD (AB.cfg m) 4 0,List.getD (AB.cfg m) 5 0,List.getD (AB.cfg m) 6 0],AS:=AB.AS m,base:=AB.base m,now:=Aj.nx Au (AB.now m) [Value.string key],cost:=AB.cost m,AG:=AB.AG m,state:=AB.state m,AK:=AB.AK m }))) false),some (.cells [(.bool false),(.string key),(.string val)] 0 false)])))else(bif k==2 then(bif k==3 then(bif k==2 then(Q (.tuple ⟨[(.agg ⟨[(.int .i64 5),(.string ({ data:=#[] }))]⟩),(.pointer none),(.bool false)]⟩) [some (.abs (AZ.pack (Pk.table (AB.base m))) false),some (.abs (AZ.pack (Pk.table (Aj.nx Au (AB.now m) [Value.string key]))) false)])else(bif k==2 then(Q (.tuple ⟨[(.agg ⟨[(.int .i64 0),(.string (Option.getD (DA (AB.now m) key) { data:=#[] }))]⟩),(.pointer none),(.bool false)]⟩) [some (.abs (AZ.pack (Pk.table (AB.base m))) false),some (.abs (AZ.pack (Pk.table (Aj.nx Au (AB.now m) [Value.string key]))) false)])else(Q (.tuple ⟨[(.agg ⟨[(.int .i64 0),(.string ({ data:=#[] }))]⟩),(.pointer none),(.bool false)]⟩) [some (.abs (AZ.pack (Pk.table (AB.base m))) false),some (.abs (AZ.pack (Pk.table (Aj.nx Au (AB.now m) [Value.string key]))) false)])))else(bif k==2 then(Q (.tuple ⟨[(.agg ⟨[(.int .i64 5),(.string ({ data:=#[] }))]⟩),(.pointer none),(.bool false)]⟩) [some (.abs (AZ.pack (Pk.table (AB.base m))) false),some (.abs (AZ.pack (Pk.table (Aj.nx Au (AB.now m) [Value.string key]))) false)])else(bif k==2 then(Q (.tuple ⟨[(.agg ⟨[(.int .i64 0),(.string (Option.getD (DA (AB.now m) key) { data:=#[] }))]⟩),(.pointer none),(.bool false)]⟩) [some (.abs (AZ.pack (Pk.table (AB.base m))) false),some (.abs (AZ.pack (Pk.table (Aj.nx Au (AB.now m) [Value.string key]))) false)])else
 (Q (.tuple ⟨[(.agg ⟨[(.int .i64 0),(.string ({ data:=#[] }))]⟩),(.pointer none),(.bool false)]⟩) [some (.abs (AZ.pack (Pk.table (AB.base m))) false),some (.abs (AZ.pack (Pk.table (Aj.nx Au (AB.now m) [Value.string key]))) false)]))))else(bif k==3 then(bif k==3 then(bif k==2 then(Q (.tuple ⟨[(.agg ⟨[(.int .i64 5),(.string ({ data:=#[] }))]⟩),(.pointer none),(.bool false)]⟩) [some (.abs (AZ.pack (Pk.table (AB.base m))) false),some (.abs (AZ.pack (Pk.table (Aj.nx Au (AB.now m) [Value.string key]))) false)])else(bif k==2 then(Q (.tuple ⟨[(.agg ⟨[(.int .i64 0),(.string (Option.getD (DA (AB.now m) key) { data:=#[] }))]⟩),(.pointer none),(.bool false)]⟩) [some (.abs (AZ.pack (Pk.table (AB.base m))) false),some (.abs (AZ.pack (Pk.table (Aj.nx Au (AB.now m) [Value.string key]))) false)])else(Q (.tuple ⟨[(.agg ⟨[(.int .i64 0),(.string ({ data:=#[] }))]⟩),(.pointer none),(.bool false)]⟩) [some (.abs (AZ.pack (Pk.table (AB.base m))) false),some (.abs (AZ.pack (Pk.table (Aj.nx Au (AB.now m) [Value.string key]))) false)])))else(bif k==2 then(Q (.tuple ⟨[(.agg ⟨[(.int .i64 5),(.string ({ data:=#[] }))]⟩),(.pointer none),(.bool false)]⟩) [some (.abs (AZ.pack (Pk.table (AB.base m))) false),some (.abs (AZ.pack (Pk.table (Aj.nx Au (AB.now m) [Value.string key]))) false)])else(bif k==2 then(Q (.tuple ⟨[(.agg ⟨[(.int .i64 0),(.string (Option.getD (DA (AB.now m) key) { data:=#[] }))]⟩),(.pointer none),(.bool false)]⟩) [some (.abs (AZ.pack (Pk.table (AB.base m))) false),some (.abs (AZ.pack (Pk.table (Aj.nx Au (AB.now m) [Value.string key]))) false)])else(Q (.tuple ⟨[(.agg ⟨[(.int .i64 0),(.string ({ data:=#[] }))]⟩),(.pointer none),(.bool false)]⟩) [some (.abs (AZ.pack (Pk.table (AB.base m))) false),some (.abs (AZ.pack (Pk.table (Aj.nx Au (AB.now m) [Value.string key]))) false)]))))else(Q (.tuple ⟨[(.agg ⟨[(.int .i64 0),(.string ({ data:=#[] }))]⟩),(.pointer none),(.bool false)]⟩) [some (.abs (AZ.pack (Pk.table (AB.base m))) false),some (.abs (AZ.pack (Pk.table (Aj.nx Au (AB.now m) [Value.string key]))) false)])))))))):=by kernel_rfl
end Go.AD

set_option maxRecDepth 1000000
namespace Go.AD
open Go.Proofs
theorem Yg:FD fK dA:=An (fun _ _ _ h=>Ak (by kernel_rfl) h) (An (fun _ _ _ h=>Ak (by kernel_rfl) h) (An (fun _ _ _ h=>Ak (by kernel_rfl) h) (An (fun _ _ _ h=>Ak (by kernel_rfl) h) (An (fun _ _ _ h=>Ak (by kernel_rfl) h)
 (An (fun _ _ _ h=>Ak (by kernel_rfl) h) (An (fun _ _ _ h=>Ak (by kernel_rfl) h) (Av _)))))))
theorem eu:Aw Tryz.prog AL eR:=Aw.cons Ru allM
def e0:ByteArray:={ data:=#[] }
def Mu (m:AB) (key:ByteArray):Bool:=decide (Int.ofNat (ByteArray.size key) > List.getD m.cfg 4 0)
def Sc (m:AB) (val:ByteArray):Bool:=decide (Int.ofNat (ByteArray.size val) > List.getD m.cfg 5 0)
noncomputable def Tw (m:AB) (key:ByteArray):Bool:=Option.isSome (DA m.now key)
noncomputable def QI (m:AB) (key val:ByteArray):Bool:=decide (D3 m false key val > m.AS)
noncomputable def BD (m:AB) (k:Int) (key val:ByteArray):Int × ByteArray × Bool:=
 bif k==1 then(bif Mu m key||Sc m val then(12,e0,false)else bif QI m key val then(4,e0,false)else(0,e0,true))
 else bif k==2 then(bif Mu m key then(12,e0,false)else bif Tw m key then(0,(DA m.now key).getD e0,false)else(5,e0,false))
 else bif k==3 then(bif Mu m key then(12,e0,false)else bif Tw m key then(0,e0,true)else(0,e0,false))
 else(0,e0,false)
noncomputable def SL (k:Int) (key val:ByteArray):AJ:= .cells [.bool (k==3),.string key,.string val] 0 false
noncomputable def aF (m:AB) (rest:List Value):GT:=
 match rest with
 | [.agg ⟨[.int .i64 k,.int .i64 _,.int .i64 _,.string key,.string val]⟩]=> .ask (BE m.now∧m.now.length < 1000000)
  (.test (BD m k key val).2.2 (.ret ⟨.tuple ⟨[.agg ⟨[.int .i64 (BD m k key val).1,.string (BD m k key val).2.1]⟩,.pointer (some ⟨13,0,none⟩),.bool true]⟩,[none,some (DP m.base),some (DP m.now),none],[SL k key val]⟩)
   (.ret ⟨.tuple ⟨[.agg ⟨[.int .i64 (BD m k key val).1,.string (BD m k key val).2.1]⟩,.pointer none,.bool false]⟩,[none,some (DP m.base),some (DP m.now),none],[]⟩))
 | _=> .fail
def bq (m:AB) (k:Int) (key val:ByteArray) (v:Value) (os:List (Option AJ)):Prop:=
 ∃e s,((BD m k key val=(e,s,true)∧v= .tuple ⟨[.agg ⟨[.int .i64 e,.string s]⟩,.pointer (some ⟨15,0,none⟩),.bool true]⟩∧os=[some (DP m.base),some (DP m.now),some (SL k key val)])∨
  (BD m k key val=(e,s,false)∧v= .tuple ⟨[.agg ⟨[.int .i64 e,.string s]⟩,.pointer none,.bool false]⟩∧os=[some (DP m.base),some (DP m.now)]))
theorem cQ (m:AB) (k a b:Int) (key val:ByteArray) (hs:BE m.now) (hn:m.now.length < 1000000):
 Gv fK dA BP [10,11] (bq m k key val) 2000 (st BP 97 [p9,IX k a b key val] (BW ⟨.leaf,9⟩ (de m))):=by
 have hok:Aj.ok Au (AB.now m) [Value.string key]:=⟨hs,by omega,key,rfl⟩
 rw[cZ]
 refine⟨hok,?_⟩
 have hc:(k==1)=true∧(k==2)=false∧(k==3)=false∨(k==1)=false∧(k==2)=true∧(k==3)=false∨(k==1)=false∧(k==2)=false∧(k==3)=true∨(k==1)=false∧(k==2)=false∧(k==3)=false:=by
  simp only[beq_iff_eq,beq_eq_false_iff_ne,ne_eq]
  omega
 rcases hc with⟨c1,c2,c3⟩ | ⟨c1,c2,c3⟩ | ⟨c1,c2,c3⟩ | ⟨c1,c2,c3⟩
 all_goals
  simp only[c1,c2,c3,cond_true,cond_false]
  repeat' first
   | exact⟨_,_,.inl ⟨by unfold BD;simp only[*,cond_true,cond_false,Bool.or_true,Bool.or_false,Bool.true_or]<;>rfl,rfl,by unfold SL;simp only[*]<;>rfl⟩⟩
   | exact⟨_,_,.inr ⟨by unfold BD;simp only[*,cond_true,cond_false,Bool.or_true,Bool.or_false,Bool.true_or]<;>rfl,rfl,rfl⟩⟩
   | refine Az (b:=Tw m key) (fun _=>?_) (fun _=>?_)
   | refine Az (b:=Mu m key) (fun _=>?_) (fun _=>?_)
   | refine Az (b:=Sc m val) (fun _=>?_) (fun _=>?_)
   | refine Az (b:=QI m key val) (fun _=>?_) (fun _=>?_)
   | refine⟨by first | exact trivial | exact⟨trivial,trivial⟩ | exact rfl | exact⟨hs,hn⟩ | exact congrArg Value.bool (by assumption),?_⟩
end Go.AD

set_option maxRecDepth 1000000
namespace Go.AD
open Go.Proofs
theorem Vx:Da Tryz.prog AL BP (A3 AL 9 JR (Jv aF)):=by
 refine Pb eu (by kernel_rfl) (n:=97) fun m rest x hx=>?_
 unfold aF at hx
 split at hx
 ·rename_i k a b key val
  simp only[GT.run]at hx
  split at hx
  ·rename_i hok
   obtain⟨hs,hn⟩:=hok
   refine⟨by simp,?_⟩
   have hE:As fK 13 BP (fun v H=>bq m k key val v (([10,11]++Af 4 v).map H.get)) (st BP 97 [p9,IX k a b key val] (BW ⟨.leaf,9⟩ (de m))):=
    B8.Gq (B6 Yg (ids:=[10,11]) (Q:=bq m k key val) 2000 _ (cQ m k a b key val hs hn))
   refine hE.Ko.mono ?_
   rintro v H ⟨e,s,⟨h1,rfl,h⟩ | ⟨h1,rfl,h⟩⟩
   ·rw[h1]at hx
    cases hx
    have h:[H.get 10,H.get 11,H.get 15]=_:=h
    simp only[List.cons.injEq,and_true]at h
    refine O1 (ns:=[15]) h.1 h.2.1 rfl (by simp) (fun b hb=>by simp at hb;omega) rfl (fun j b o hj ho=>?_)
    cases j with
    | zero=>cases hj;cases ho;exact⟨_,rfl,h.2.2⟩
    | succ j=>cases hj
   ·rw[h1]at hx
    cases hx
    have h:[H.get 10,H.get 11]=_:=h
    simp only[List.cons.injEq,and_true]at h
    exact O1 (ns:=[]) h.1 h.2 rfl List.nodup_nil (fun b hb=>by cases hb) rfl (fun j b o hj=>by cases hj)
  ·cases hx
 ·cases hx
noncomputable def aC (m:AB) (rest:List Value):GT:=
 match rest with
 | [.agg ⟨[.bool del,.string key,.string val]⟩]=> .ask (BE m.now∧m.now.length < 1000000∧m.AG.length < 1000000)
  (.ret ⟨.tuple ⟨[]⟩,[some (.cells (BV (Ae m del key val) 10 11 (.slice (some ⟨13,0,some 0⟩) (m.AG.length+1) AF)) 0 false),some (DP m.base),some (DP (Ae m del key val).now),none],[.vec CW (m.AG++[(del,key,val)]) false]⟩)
 | _=> .fail
theorem V2:Da Tryz.prog AL Bk (A3 AL 9 PV (Jv aC)):=by
 refine XF allM (by kernel_rfl) (n:=26) fun m rest x hx=>?_
 unfold aC at hx
 split at hx
 ·rename_i del key val
  simp only[GT.run]at hx
  split at hx
  ·rename_i hok
   obtain⟨hs,hn,hu⟩:=hok
   cases hx
   refine⟨by simp,?_⟩
   refine(W8 m del key val hs hn hu).Ko.mono ?_
   rintro v H ⟨rfl,h⟩
   have h:[H.get 9,H.get 10,H.get 11,H.get 17]=_:=h
   simp only[List.cons.injEq,and_true]at h
   obtain⟨g9,g10,g11,g17⟩:=h
   refine⟨[17],by simp,fun b hb=>by simp at hb;omega,rfl,rfl,fun j b o hj ho=>?_,fun j o hj _ ho=>?_⟩
   ·cases j with
    | zero=>cases hj;cases ho;exact⟨_,rfl,g17⟩
    | succ j=>cases hj
   ·cases j with
    | zero=>cases ho;exact⟨_,rfl,by rw[g9];unfold AF;rfl⟩
    | succ j=>cases j with
     | zero=>cases ho;exact⟨_,rfl,g10⟩
     | succ j=>cases j with
      | zero=>cases ho;exact⟨_,rfl,g11⟩
      | succ j=>cases j with
       | zero=>cases ho
       | succ j=>omega
  ·cases hx
 ·cases hx
end Go.AD

set_option maxRecDepth 1000000
namespace Go.AD
open Go.Proofs
noncomputable abbrev fk:List (FuncId × Cn):=(C5,Xy.F)::(BP,A3 AL 9 JR (Jv aF))::(Bk,A3 AL 9 PV (Jv aC))::fF
noncomputable def XD:Ctx:=Cp Tryz.prog AL fk
noncomputable def fL:Pf:=fun g=>bif Nat.beq g C5 then some bw else(fun g=>bif Nat.beq g BP then some (B0 AL 9 JR (Jv aF))else(fun g=>bif Nat.beq g Bk then some (B0 AL 9 PV (Jv aC))else Vb g) g) g
abbrev mX (c0 c1 c2 c3 c4 c5 c6 lim:Int) (bs nw:List (ByteArray × ByteArray)) (cost:Int) (AG:List (Bool × ByteArray × ByteArray)):AB:=⟨[c0,c1,c2,c3,c4,c5,c6],lim,bs,nw,cost,AG,0,false⟩
noncomputable def fa (c0 c1 c2 c3 c4 c5 c6 lim:Int) (bs nw:List (ByteArray × ByteArray)) (cost:Int) (AG:List (Bool × ByteArray × ByteArray)):List AJ:=
 [.cells [.int .i64 c0,.int .i64 c1,.int .i64 c2,.int .i64 c3,.int .i64 c4,.int .i64 c5,.int .i64 c6,.int .i64 lim,.pointer (some ⟨10,0,none⟩),.pointer (some ⟨11,0,none⟩),.int .i64 cost,.slice (some ⟨12,0,some 0⟩) AG.length AF,.pointer none,.int .i64 0,.bool false] 0 false,
  .abs (.pack (.table bs)) false,.abs (.pack (.table nw)) false,.vec CW AG false]
noncomputable def Uh (e:Int) (s:ByteArray):Value:= .agg ⟨[.int .i64 e,.string s]⟩
abbrev YZ:List Nat:=[9,10,11,12,18,19,20]
theorem dq (c0 c1 c2 c3 c4 c5 c6 lim:Int) (bs nw:List (ByteArray × ByteArray)) (cost:Int) (AG:List (Bool × ByteArray × ByteArray)) (k a b:Int) (key val:ByteArray) (e:Int) (sv:ByteArray) (Q:Value→List (Option AJ)→Prop):Gv XD fL BC YZ Q 2000 (st BC 66 [p9,IX k a b key val,Uh e sv] (BW ⟨.leaf,9⟩ (fa c0 c1 c2 c3 c4 c5 c6 lim bs nw cost AG)))=(
 (Gl k a b key val)∧(bif Lj k a b key val != 0 then(bif e==2&&(ByteArray.toList sv==ByteArray.toList { data:=#[] }&&true)then(Q (.int .i64 0) [some (.cells [(.int .i64 c0),(.int .i64 c1),(.int .i64 c2),(.int .i64 c3),(.int .i64 c4),(.int .i64 c5),(.int .i64 c6),(.int .i64 lim),(.pointer (some ⟨10,0,none⟩)),(.pointer (some ⟨11,0,none⟩)),(.int .i64 cost),(.slice (some ⟨12,0,(some 0)⟩) (List.length AG) 18446744073709551616),(.pointer none),(.int .i64 0),(.bool false)] 0 false),some (.abs (AZ.pack (Pk.table bs)) false),some (.abs (AZ.pack (Pk.table nw)) false),some (.vec CW AG false),none,none,none])else(Q (.int .i64 7) [some (.cells [(.int .i64 c0),(.int .i64 c1),(.int .i64 c2),(.int .i64 c3),(.int .i64 c4),(.int .i64 c5),(.int .i64 c6),(.int .i64 lim),(.pointer (some ⟨10,0,none⟩)),(.pointer (some ⟨11,0,none⟩)),(.int .i64 cost),(.slice (some ⟨12,0,(some 0)⟩) (List.length AG) 18446744073709551616),(.pointer none),(.int .i64 0),(.bool false)] 0 false),some (.abs (AZ.pack (Pk.table bs)) false),some (.abs (AZ.pack (Pk.table nw)) false),some (.vec CW AG false),none,none,none]))else(bif k==7 then(bif e==0&&(ByteArray.toList sv==ByteArray.toList { data:=#[] }&&true)then(bif a==0 then(bif decide (a > 0)then(Q (.int .i64 0) [some (.cells [(.int .i64 c0),(.int .i64 c1),(.int .i64 c2),(.int .i64 c3),(.int .i64 c4),(.int .i64 c5),(.int .i64 c6),(.int .i64 lim),(.pointer (some ⟨10,0,none⟩)),(.pointer (some ⟨11,0,none⟩)),(.int .i64 cost),(.slice (some ⟨12,0,(some 0)⟩) (List.length AG) 18446744073709551616),(.pointer none),(.int .i64 1),(.bool true)] 0 false),some (.abs (AZ.pack (Pk.table bs)) false),some (.abs (AZ.pack (Pk.table nw)) false),some (.vec CW AG false),none,none,none])else(Q (.int .i64 0) [some (.cells [(.int .i64 c0),(.int .i64 c1),(.int .i64 c2),(.int .i64 c3),(.int .i64 c4),(.int .i64 c5),(.int .i64 c6),(.int .i64 lim),(.pointer (some ⟨10,0,none⟩)),(.pointer (some ⟨11,0,none⟩)),(.int .i64 cost),(.slice (some ⟨12,0,(some 0)⟩) (List.length AG) 18446744073709551616),(.pointer none),(.int .i64 1),(.bool false)] 0 false),some (.abs (AZ.pack (Pk.table bs)) false),some (.abs (AZ.pack (Pk.table nw)) false),some (.vec CW AG false),none,none,none]))else(bif decide (a > 0)then(Q (.int .i64 0) [some (.cells [(.int .i64 c0),(.int .i64 c1),(.int .i64 c2),(.int .i64 c3),(.int .i64 c4),(.int .i64 c5),(.int .i64 c6),(.int .i64 lim),(.pointer (some ⟨10,0,none⟩)),(.pointer (some ⟨11,0,none⟩)),(.int .i64 cost),(.slice (some ⟨12,0,(some 0)⟩) (List.length AG) 18446744073709551616),(.pointer none),(.int .i64 0),(.bool true)] 0 false),some (.abs (AZ.pack (Pk.table bs)) false),some (.abs (AZ.pack (Pk.table nw)) false),some (.vec CW AG false),none,none,none])else(Q (.int .i64 0) [some (.cells [(.int .i64 c0),(.int .i64 c1),(.int .i64 c2),(.int .i64 c3),(.int .i64 c4),(.int .i64 c5),(.int .i64 c6),(.int .i64 lim),(.pointer (some ⟨10,0,none⟩)),(.pointer (some ⟨11,0,none⟩)),(.int .i64 cost),(.slice (some ⟨12,0,(some 0)⟩) (List.length AG) 18446744073709551616),(.pointer none),(.int .i64 0),(.bool false)] 0 false),some (.abs (AZ.pack (Pk.table bs)) false),some (.abs (AZ.pack (Pk.table nw)) false),some (.vec CW AG false),none,none,none])))else
 (Q (.int .i64 7) [some (.cells [(.int .i64 c0),(.int .i64 c1),(.int .i64 c2),(.int .i64 c3),(.int .i64 c4),(.int .i64 c5),(.int .i64 c6),(.int .i64 lim),(.pointer (some ⟨10,0,none⟩)),(.pointer (some ⟨11,0,none⟩)),(.int .i64 cost),(.slice (some ⟨12,0,(some 0)⟩) (List.length AG) 18446744073709551616),(.pointer none),(.int .i64 0),(.bool false)] 0 false),some (.abs (AZ.pack (Pk.table bs)) false),some (.abs (AZ.pack (Pk.table nw)) false),some (.vec CW AG false),none,none,none]))else(List.length AG=List.length (AB.AG (mX c0 c1 c2 c3 c4 c5 c6 lim bs nw cost AG))∧AF=AF)∧(BE (AB.now (mX c0 c1 c2 c3 c4 c5 c6 lim bs nw cost AG))∧List.length (AB.now (mX c0 c1 c2 c3 c4 c5 c6 lim bs nw cost AG)) < 1000000)∧(bif Prod.snd (Prod.snd (BD (mX c0 c1 c2 c3 c4 c5 c6 lim bs nw cost AG) k key val))then(bif ByteArray.toList sv==ByteArray.toList { data:=#[] } then(bif e==13 then(bif Prod.fst (BD (mX c0 c1 c2 c3 c4 c5 c6 lim bs nw cost AG) k key val) != 0 then(Q (.int .i64 7) [some (.cells [(.int .i64 c0),(.int .i64 c1),(.int .i64 c2),(.int .i64 c3),(.int .i64 c4),(.int .i64 c5),(.int .i64 c6),(.int .i64 lim),(.pointer (some ⟨10,0,none⟩)),(.pointer (some ⟨11,0,none⟩)),(.int .i64 cost),(.slice (some ⟨12,0,(some 0)⟩) (List.length AG) 18446744073709551616),(.pointer none),(.int .i64 0),(.bool false)] 0 false),some (.abs (AZ.pack (Pk.table (AB.base (mX c0 c1 c2 c3 c4 c5 c6 lim bs nw cost AG)))) false),some (.abs (AZ.pack (Pk.table (AB.now (mX c0 c1 c2 c3 c4 c5 c6 lim bs nw cost AG)))) false),some (.vec CW AG false),some (.cells [(.int .i64 (Prod.fst (BD (mX c0 c1 c2 c3 c4 c5 c6 lim bs nw cost AG) k key val))),(.string (Prod.fst (Prod.snd (BD (mX c0 c1 c2 c3 c4 c5 c6 lim bs nw cost AG) k key val))))] 0 false),none,none])else(bif k==2 then(Q (.int .i64 7) [some (.cells [(.int .i64 c0),(.int .i64 c1),(.int .i64 c2),(.int .i64 c3),(.int .i64 c4),(.int .i64 c5),(.int .i64 c6),(.int .i64 lim),(.pointer (some ⟨10,0,none⟩)),(.pointer (some ⟨11,0,none⟩)),(.int .i64 cost),(.slice (some ⟨12,0,(some 0)⟩) (List.length AG) 18446744073709551616),(.pointer none),(.int .i64 0),(.bool false)] 0 false),some (.abs (AZ.pack (Pk.table (AB.base (mX c0 c1 c2 c3 c4 c5 c6 lim bs nw cost AG)))) false),some (.abs (AZ.pack (Pk.table (AB.now (mX c0 c1 c2 c3 c4 c5 c6 lim bs nw cost AG)))) false),some (.vec CW AG false),some (.cells [(.int .i64 (Prod.fst (BD (mX c0 c1 c2 c3 c4 c5 c6 lim bs nw cost AG) k key val))),(.string (Prod.fst (Prod.snd (BD (mX c0 c1 c2 c3 c4 c5 c6 lim bs nw cost AG) k key val))))] 0 false),none,none])else(Q (.int .i64 7) [some (.cells [(.int .i64 c0),(.int .i64 c1),(.int .i64 c2),(.int .i64 c3),(.int .i64 c4),(.int .i64 c5),(.int .i64 c6),(.int .i64 lim),(.pointer (some ⟨10,0,none⟩)),(.pointer (some ⟨11,0,none⟩)),(.int .i64 cost),(.slice (some ⟨12,0,(some 0)⟩) (List.length AG) 18446744073709551616),(.pointer none),(.int .i64 0),(.bool false)] 0 false),some (.abs (AZ.pack (Pk.table (AB.base (mX c0 c1 c2 c3 c4 c5 c6 lim bs nw cost AG)))) false),some (.abs (AZ.pack (Pk.table (AB.now (mX c0 c1 c2 c3 c4 c5 c6 lim bs nw cost AG)))) false),some (.vec CW AG false),some (.cells [(.int .i64 (Prod.fst (BD (mX c0 c1 c2 c3 c4 c5 c6 lim bs nw cost AG) k key val))),(.string (Prod.fst (Prod.snd (BD (mX c0 c1 c2 c3 c4 c5 c6 lim bs nw cost AG) k key val))))] 0 false),none,none])))else(bif ByteArray.toList sv==ByteArray.toList { data:=#[] } then(bif e==11 then
 (Q (.int .i64 0) [some (.cells [(.int .i64 c0),(.int .i64 c1),(.int .i64 c2),(.int .i64 c3),(.int .i64 c4),(.int .i64 c5),(.int .i64 c6),(.int .i64 lim),(.pointer (some ⟨10,0,none⟩)),(.pointer (some ⟨11,0,none⟩)),(.int .i64 cost),(.slice (some ⟨12,0,(some 0)⟩) (List.length AG) 18446744073709551616),(.pointer none),(.int .i64 0),(.bool false)] 0 false),some (.abs (AZ.pack (Pk.table (AB.base (mX c0 c1 c2 c3 c4 c5 c6 lim bs nw cost AG)))) false),some (.abs (AZ.pack (Pk.table (AB.now (mX c0 c1 c2 c3 c4 c5 c6 lim bs nw cost AG)))) false),some (.vec CW AG false),some (.cells [(.int .i64 (Prod.fst (BD (mX c0 c1 c2 c3 c4 c5 c6 lim bs nw cost AG) k key val))),(.string (Prod.fst (Prod.snd (BD (mX c0 c1 c2 c3 c4 c5 c6 lim bs nw cost AG) k key val))))] 0 false),none,none])else(bif !(e==Prod.fst (BD (mX c0 c1 c2 c3 c4 c5 c6 lim bs nw cost AG) k key val)&&(ByteArray.toList sv==ByteArray.toList (Prod.fst (Prod.snd (BD (mX c0 c1 c2 c3 c4 c5 c6 lim bs nw cost AG) k key val)))&&true))then(Q (.int .i64 7) [some (.cells [(.int .i64 c0),(.int .i64 c1),(.int .i64 c2),(.int .i64 c3),(.int .i64 c4),(.int .i64 c5),(.int .i64 c6),(.int .i64 lim),(.pointer (some ⟨10,0,none⟩)),(.pointer (some ⟨11,0,none⟩)),(.int .i64 cost),(.slice (some ⟨12,0,(some 0)⟩) (List.length AG) 18446744073709551616),(.pointer none),(.int .i64 0),(.bool false)] 0 false),some (.abs (AZ.pack (Pk.table (AB.base (mX c0 c1 c2 c3 c4 c5 c6 lim bs nw cost AG)))) false),some (.abs (AZ.pack (Pk.table (AB.now (mX c0 c1 c2 c3 c4 c5 c6 lim bs nw cost AG)))) false),some (.vec CW AG false),some (.cells [(.int .i64 (Prod.fst (BD (mX c0 c1 c2 c3 c4 c5 c6 lim bs nw cost AG) k key val))),(.string (Prod.fst (Prod.snd (BD (mX c0 c1 c2 c3 c4 c5 c6 lim bs nw cost AG) k key val))))] 0 false),none,none])else(List.length AG=List.length (AB.AG (mX c0 c1 c2 c3 c4 c5 c6 lim bs nw cost AG))∧AF=AF)∧(BE (AB.now (mX c0 c1 c2 c3 c4 c5 c6 lim bs nw cost AG))∧List.length (AB.now (mX c0 c1 c2 c3 c4 c5 c6 lim bs nw cost AG)) < 1000000∧List.length (AB.AG (mX c0 c1 c2 c3 c4 c5 c6 lim bs nw cost AG)) < 1000000)∧(bif k==4 then(List.length (AB.now (Ae (mX c0 c1 c2 c3 c4 c5 c6 lim bs nw cost AG) (k==3) key val)) < 1000000)∧
 (Q (.int .i64 0) [some (.cells [(.int .i64 (List.getD (AB.cfg (Ae (mX c0 c1 c2 c3 c4 c5 c6 lim bs nw cost AG) (k==3) key val)) 0 0)),(.int .i64 (List.getD (AB.cfg (Ae (mX c0 c1 c2 c3 c4 c5 c6 lim bs nw cost AG) (k==3) key val)) 1 0)),(.int .i64 (List.getD (AB.cfg (Ae (mX c0 c1 c2 c3 c4 c5 c6 lim bs nw cost AG) (k==3) key val)) 2 0)),(.int .i64 (List.getD (AB.cfg (Ae (mX c0 c1 c2 c3 c4 c5 c6 lim bs nw cost AG) (k==3) key val)) 3 0)),(.int .i64 (List.getD (AB.cfg (Ae (mX c0 c1 c2 c3 c4 c5 c6 lim bs nw cost AG) (k==3) key val)) 4 0)),(.int .i64 (List.getD (AB.cfg (Ae (mX c0 c1 c2 c3 c4 c5 c6 lim bs nw cost AG) (k==3) key val)) 5 0)),(.int .i64 (List.getD (AB.cfg (Ae (mX c0 c1 c2 c3 c4 c5 c6 lim bs nw cost AG) (k==3) key val)) 6 0)),(.int .i64 (AB.AS (Ae (mX c0 c1 c2 c3 c4 c5 c6 lim bs nw cost AG) (k==3) key val))),(.pointer (some ⟨20,0,none⟩)),(.pointer (some ⟨11,0,none⟩)),(.int .i64 (AB.cost (Ae (mX c0 c1 c2 c3 c4 c5 c6 lim bs nw cost AG) (k==3) key val))),(.slice none 0 0),(.pointer none),(.int .i64 (AB.state (Ae (mX c0 c1 c2 c3 c4 c5 c6 lim bs nw cost AG) (k==3) key val))),(.bool (AB.AK (Ae (mX c0 c1 c2 c3 c4 c5 c6 lim bs nw cost AG) (k==3) key val)))] 0 false),some (.abs (AZ.pack (Pk.table (AB.base (mX c0 c1 c2 c3 c4 c5 c6 lim bs nw cost AG)))) false),some (.abs (AZ.pack (Pk.table (AB.now (Ae (mX c0 c1 c2 c3 c4 c5 c6 lim bs nw cost AG) (k==3) key val)))) false),none,some (.cells [(.int .i64 (Prod.fst (BD (mX c0 c1 c2 c3 c4 c5 c6 lim bs nw cost AG) k key val))),(.string (Prod.fst (Prod.snd (BD (mX c0 c1 c2 c3 c4 c5 c6 lim bs nw cost AG) k key val))))] 0 false),some (.vec ([SK.bool,SK.str,SK.str]) (AB.AG (mX c0 c1 c2 c3 c4 c5 c6 lim bs nw cost AG)++[(k==3,key,val)]) false),some (.abs (AZ.pack (Pk.table (AB.now (Ae (mX c0 c1 c2 c3 c4 c5 c6 lim bs nw cost AG) (k==3) key val)))) false)])else(bif k==8 then(List.length (AB.now (Ae (mX c0 c1 c2 c3 c4 c5 c6 lim bs nw cost AG) (k==3) key val)) < 1000000)∧
 (Q (.int .i64 0) [some (.cells [(.int .i64 (List.getD (AB.cfg (Ae (mX c0 c1 c2 c3 c4 c5 c6 lim bs nw cost AG) (k==3) key val)) 0 0)),(.int .i64 (List.getD (AB.cfg (Ae (mX c0 c1 c2 c3 c4 c5 c6 lim bs nw cost AG) (k==3) key val)) 1 0)),(.int .i64 (List.getD (AB.cfg (Ae (mX c0 c1 c2 c3 c4 c5 c6 lim bs nw cost AG) (k==3) key val)) 2 0)),(.int .i64 (List.getD (AB.cfg (Ae (mX c0 c1 c2 c3 c4 c5 c6 lim bs nw cost AG) (k==3) key val)) 3 0)),(.int .i64 (List.getD (AB.cfg (Ae (mX c0 c1 c2 c3 c4 c5 c6 lim bs nw cost AG) (k==3) key val)) 4 0)),(.int .i64 (List.getD (AB.cfg (Ae (mX c0 c1 c2 c3 c4 c5 c6 lim bs nw cost AG) (k==3) key val)) 5 0)),(.int .i64 (List.getD (AB.cfg (Ae (mX c0 c1 c2 c3 c4 c5 c6 lim bs nw cost AG) (k==3) key val)) 6 0)),(.int .i64 (AB.AS (Ae (mX c0 c1 c2 c3 c4 c5 c6 lim bs nw cost AG) (k==3) key val))),(.pointer (some ⟨20,0,none⟩)),(.pointer (some ⟨11,0,none⟩)),(.int .i64 (AB.cost (Ae (mX c0 c1 c2 c3 c4 c5 c6 lim bs nw cost AG) (k==3) key val))),(.slice none 0 0),(.pointer none),(.int .i64 (AB.state (Ae (mX c0 c1 c2 c3 c4 c5 c6 lim bs nw cost AG) (k==3) key val))),(.bool (AB.AK (Ae (mX c0 c1 c2 c3 c4 c5 c6 lim bs nw cost AG) (k==3) key val)))] 0 false),some (.abs (AZ.pack (Pk.table (AB.base (mX c0 c1 c2 c3 c4 c5 c6 lim bs nw cost AG)))) false),some (.abs (AZ.pack (Pk.table (AB.now (Ae (mX c0 c1 c2 c3 c4 c5 c6 lim bs nw cost AG) (k==3) key val)))) false),none,some (.cells [(.int .i64 (Prod.fst (BD (mX c0 c1 c2 c3 c4 c5 c6 lim bs nw cost AG) k key val))),(.string (Prod.fst (Prod.snd (BD (mX c0 c1 c2 c3 c4 c5 c6 lim bs nw cost AG) k key val))))] 0 false),some (.vec ([SK.bool,SK.str,SK.str]) (AB.AG (mX c0 c1 c2 c3 c4 c5 c6 lim bs nw cost AG)++[(k==3,key,val)]) false),some (.abs (AZ.pack (Pk.table (AB.now (Ae (mX c0 c1 c2 c3 c4 c5 c6 lim bs nw cost AG) (k==3) key val)))) false)])else
 (Q (.int .i64 0) [some (.cells [(.int .i64 (List.getD (AB.cfg (Ae (mX c0 c1 c2 c3 c4 c5 c6 lim bs nw cost AG) (k==3) key val)) 0 0)),(.int .i64 (List.getD (AB.cfg (Ae (mX c0 c1 c2 c3 c4 c5 c6 lim bs nw cost AG) (k==3) key val)) 1 0)),(.int .i64 (List.getD (AB.cfg (Ae (mX c0 c1 c2 c3 c4 c5 c6 lim bs nw cost AG) (k==3) key val)) 2 0)),(.int .i64 (List.getD (AB.cfg (Ae (mX c0 c1 c2 c3 c4 c5 c6 lim bs nw cost AG) (k==3) key val)) 3 0)),(.int .i64 (List.getD (AB.cfg (Ae (mX c0 c1 c2 c3 c4 c5 c6 lim bs nw cost AG) (k==3) key val)) 4 0)),(.int .i64 (List.getD (AB.cfg (Ae (mX c0 c1 c2 c3 c4 c5 c6 lim bs nw cost AG) (k==3) key val)) 5 0)),(.int .i64 (List.getD (AB.cfg (Ae (mX c0 c1 c2 c3 c4 c5 c6 lim bs nw cost AG) (k==3) key val)) 6 0)),(.int .i64 (AB.AS (Ae (mX c0 c1 c2 c3 c4 c5 c6 lim bs nw cost AG) (k==3) key val))),(.pointer (some ⟨10,0,none⟩)),(.pointer (some ⟨11,0,none⟩)),(.int .i64 (AB.cost (Ae (mX c0 c1 c2 c3 c4 c5 c6 lim bs nw cost AG) (k==3) key val))),(.slice (some ⟨19,0,(some 0)⟩) (List.length (AB.AG (mX c0 c1 c2 c3 c4 c5 c6 lim bs nw cost AG))+1) 18446744073709551616),(.pointer none),(.int .i64 (AB.state (Ae (mX c0 c1 c2 c3 c4 c5 c6 lim bs nw cost AG) (k==3) key val))),(.bool (AB.AK (Ae (mX c0 c1 c2 c3 c4 c5 c6 lim bs nw cost AG) (k==3) key val)))] 0 false),some (.abs (AZ.pack (Pk.table (AB.base (mX c0 c1 c2 c3 c4 c5 c6 lim bs nw cost AG)))) false),some (.abs (AZ.pack (Pk.table (AB.now (Ae (mX c0 c1 c2 c3 c4 c5 c6 lim bs nw cost AG) (k==3) key val)))) false),none,some (.cells [(.int .i64 (Prod.fst (BD (mX c0 c1 c2 c3 c4 c5 c6 lim bs nw cost AG) k key val))),(.string (Prod.fst (Prod.snd (BD (mX c0 c1 c2 c3 c4 c5 c6 lim bs nw cost AG) k key val))))] 0 false),some (.vec ([SK.bool,SK.str,SK.str]) (AB.AG (mX c0 c1 c2 c3 c4 c5 c6 lim bs nw cost AG)++[(k==3,key,val)]) false),none])))))else(bif !(e==Prod.fst (BD (mX c0 c1 c2 c3 c4 c5 c6 lim bs nw cost AG) k key val)&&(ByteArray.toList sv==ByteArray.toList (Prod.fst (Prod.snd (BD (mX c0 c1 c2 c3 c4 c5 c6 lim bs nw cost AG) k key val)))&&true))then(Q (.int .i64 7) [some (.cells [(.int .i64 c0),(.int .i64 c1),(.int .i64 c2),(.int .i64 c3),(.int .i64 c4),(.int .i64 c5),(.int .i64 c6),(.int .i64 lim),(.pointer (some ⟨10,0,none⟩)),(.pointer (some ⟨11,0,none⟩)),(.int .i64 cost),(.slice (some ⟨12,0,(some 0)⟩) (List.length AG) 18446744073709551616),(.pointer none),(.int .i64 0),(.bool false)] 0 false),some (.abs (AZ.pack (Pk.table (AB.base (mX c0 c1 c2 c3 c4 c5 c6 lim bs nw cost AG)))) false),some (.abs (AZ.pack (Pk.table (AB.now (mX c0 c1 c2 c3 c4 c5 c6 lim bs nw cost AG)))) false),some (.vec CW AG false),some (.cells [(.int .i64 (Prod.fst (BD (mX c0 c1 c2 c3 c4 c5 c6 lim bs nw cost AG) k key val))),(.string (Prod.fst (Prod.snd (BD (mX c0 c1 c2 c3 c4 c5 c6 lim bs nw cost AG) k key val))))] 0 false),none,none])else(List.length AG=List.length (AB.AG (mX c0 c1 c2 c3 c4 c5 c6 lim bs nw cost AG))∧AF=AF)∧(BE (AB.now (mX c0 c1 c2 c3 c4 c5 c6 lim bs nw cost AG))∧List.length (AB.now (mX c0 c1 c2 c3 c4 c5 c6 lim bs nw cost AG)) < 1000000∧List.length (AB.AG (mX c0 c1 c2 c3 c4 c5 c6 lim bs nw cost AG)) < 1000000)∧(bif k==4 then(List.length (AB.now (Ae (mX c0 c1 c2 c3 c4 c5 c6 lim bs nw cost AG) (k==3) key val)) < 1000000)∧
 (Q (.int .i64 0) [some (.cells [(.int .i64 (List.getD (AB.cfg (Ae (mX c0 c1 c2 c3 c4 c5 c6 lim bs nw cost AG) (k==3) key val)) 0 0)),(.int .i64 (List.getD (AB.cfg (Ae (mX c0 c1 c2 c3 c4 c5 c6 lim bs nw cost AG) (k==3) key val)) 1 0)),(.int .i64 (List.getD (AB.cfg (Ae (mX c0 c1 c2 c3 c4 c5 c6 lim bs nw cost AG) (k==3) key val)) 2 0)),(.int .i64 (List.getD (AB.cfg (Ae (mX c0 c1 c2 c3 c4 c5 c6 lim bs nw cost AG) (k==3) key val)) 3 0)),(.int .i64 (List.getD (AB.cfg (Ae (mX c0 c1 c2 c3 c4 c5 c6 lim bs nw cost AG) (k==3) key val)) 4 0)),(.int .i64 (List.getD (AB.cfg (Ae (mX c0 c1 c2 c3 c4 c5 c6 lim bs nw cost AG) (k==3) key val)) 5 0)),(.int .i64 (List.getD (AB.cfg (Ae (mX c0 c1 c2 c3 c4 c5 c6 lim bs nw cost AG) (k==3) key val)) 6 0)),(.int .i64 (AB.AS (Ae (mX c0 c1 c2 c3 c4 c5 c6 lim bs nw cost AG) (k==3) key val))),(.pointer (some ⟨20,0,none⟩)),(.pointer (some ⟨11,0,none⟩)),(.int .i64 (AB.cost (Ae (mX c0 c1 c2 c3 c4 c5 c6 lim bs nw cost AG) (k==3) key val))),(.slice none 0 0),(.pointer none),(.int .i64 (AB.state (Ae (mX c0 c1 c2 c3 c4 c5 c6 lim bs nw cost AG) (k==3) key val))),(.bool (AB.AK (Ae (mX c0 c1 c2 c3 c4 c5 c6 lim bs nw cost AG) (k==3) key val)))] 0 false),some (.abs (AZ.pack (Pk.table (AB.base (mX c0 c1 c2 c3 c4 c5 c6 lim bs nw cost AG)))) false),some (.abs (AZ.pack (Pk.table (AB.now (Ae (mX c0 c1 c2 c3 c4 c5 c6 lim bs nw cost AG) (k==3) key val)))) false),none,some (.cells [(.int .i64 (Prod.fst (BD (mX c0 c1 c2 c3 c4 c5 c6 lim bs nw cost AG) k key val))),(.string (Prod.fst (Prod.snd (BD (mX c0 c1 c2 c3 c4 c5 c6 lim bs nw cost AG) k key val))))] 0 false),some (.vec ([SK.bool,SK.str,SK.str]) (AB.AG (mX c0 c1 c2 c3 c4 c5 c6 lim bs nw cost AG)++[(k==3,key,val)]) false),some (.abs (AZ.pack (Pk.table (AB.now (Ae (mX c0 c1 c2 c3 c4 c5 c6 lim bs nw cost AG) (k==3) key val)))) false)])else(bif k==8 then(List.length (AB.now (Ae (mX c0 c1 c2 c3 c4 c5 c6 lim bs nw cost AG) (k==3) key val)) < 1000000)∧
 (Q (.int .i64 0) [some (.cells [(.int .i64 (List.getD (AB.cfg (Ae (mX c0 c1 c2 c3 c4 c5 c6 lim bs nw cost AG) (k==3) key val)) 0 0)),(.int .i64 (List.getD (AB.cfg (Ae (mX c0 c1 c2 c3 c4 c5 c6 lim bs nw cost AG) (k==3) key val)) 1 0)),(.int .i64 (List.getD (AB.cfg (Ae (mX c0 c1 c2 c3 c4 c5 c6 lim bs nw cost AG) (k==3) key val)) 2 0)),(.int .i64 (List.getD (AB.cfg (Ae (mX c0 c1 c2 c3 c4 c5 c6 lim bs nw cost AG) (k==3) key val)) 3 0)),(.int .i64 (List.getD (AB.cfg (Ae (mX c0 c1 c2 c3 c4 c5 c6 lim bs nw cost AG) (k==3) key val)) 4 0)),(.int .i64 (List.getD (AB.cfg (Ae (mX c0 c1 c2 c3 c4 c5 c6 lim bs nw cost AG) (k==3) key val)) 5 0)),(.int .i64 (List.getD (AB.cfg (Ae (mX c0 c1 c2 c3 c4 c5 c6 lim bs nw cost AG) (k==3) key val)) 6 0)),(.int .i64 (AB.AS (Ae (mX c0 c1 c2 c3 c4 c5 c6 lim bs nw cost AG) (k==3) key val))),(.pointer (some ⟨20,0,none⟩)),(.pointer (some ⟨11,0,none⟩)),(.int .i64 (AB.cost (Ae (mX c0 c1 c2 c3 c4 c5 c6 lim bs nw cost AG) (k==3) key val))),(.slice none 0 0),(.pointer none),(.int .i64 (AB.state (Ae (mX c0 c1 c2 c3 c4 c5 c6 lim bs nw cost AG) (k==3) key val))),(.bool (AB.AK (Ae (mX c0 c1 c2 c3 c4 c5 c6 lim bs nw cost AG) (k==3) key val)))] 0 false),some (.abs (AZ.pack (Pk.table (AB.base (mX c0 c1 c2 c3 c4 c5 c6 lim bs nw cost AG)))) false),some (.abs (AZ.pack (Pk.table (AB.now (Ae (mX c0 c1 c2 c3 c4 c5 c6 lim bs nw cost AG) (k==3) key val)))) false),none,some (.cells [(.int .i64 (Prod.fst (BD (mX c0 c1 c2 c3 c4 c5 c6 lim bs nw cost AG) k key val))),(.string (Prod.fst (Prod.snd (BD (mX c0 c1 c2 c3 c4 c5 c6 lim bs nw cost AG) k key val))))] 0 false),some (.vec ([SK.bool,SK.str,SK.str]) (AB.AG (mX c0 c1 c2 c3 c4 c5 c6 lim bs nw cost AG)++[(k==3,key,val)]) false),some (.abs (AZ.pack (Pk.table (AB.now (Ae (mX c0 c1 c2 c3 c4 c5 c6 lim bs nw cost AG) (k==3) key val)))) false)])else
 (Q (.int .i64 0) [some (.cells [(.int .i64 (List.getD (AB.cfg (Ae (mX c0 c1 c2 c3 c4 c5 c6 lim bs nw cost AG) (k==3) key val)) 0 0)),(.int .i64 (List.getD (AB.cfg (Ae (mX c0 c1 c2 c3 c4 c5 c6 lim bs nw cost AG) (k==3) key val)) 1 0)),(.int .i64 (List.getD (AB.cfg (Ae (mX c0 c1 c2 c3 c4 c5 c6 lim bs nw cost AG) (k==3) key val)) 2 0)),(.int .i64 (List.getD (AB.cfg (Ae (mX c0 c1 c2 c3 c4 c5 c6 lim bs nw cost AG) (k==3) key val)) 3 0)),(.int .i64 (List.getD (AB.cfg (Ae (mX c0 c1 c2 c3 c4 c5 c6 lim bs nw cost AG) (k==3) key val)) 4 0)),(.int .i64 (List.getD (AB.cfg (Ae (mX c0 c1 c2 c3 c4 c5 c6 lim bs nw cost AG) (k==3) key val)) 5 0)),(.int .i64 (List.getD (AB.cfg (Ae (mX c0 c1 c2 c3 c4 c5 c6 lim bs nw cost AG) (k==3) key val)) 6 0)),(.int .i64 (AB.AS (Ae (mX c0 c1 c2 c3 c4 c5 c6 lim bs nw cost AG) (k==3) key val))),(.pointer (some ⟨10,0,none⟩)),(.pointer (some ⟨11,0,none⟩)),(.int .i64 (AB.cost (Ae (mX c0 c1 c2 c3 c4 c5 c6 lim bs nw cost AG) (k==3) key val))),(.slice (some ⟨19,0,(some 0)⟩) (List.length (AB.AG (mX c0 c1 c2 c3 c4 c5 c6 lim bs nw cost AG))+1) 18446744073709551616),(.pointer none),(.int .i64 (AB.state (Ae (mX c0 c1 c2 c3 c4 c5 c6 lim bs nw cost AG) (k==3) key val))),(.bool (AB.AK (Ae (mX c0 c1 c2 c3 c4 c5 c6 lim bs nw cost AG) (k==3) key val)))] 0 false),some (.abs (AZ.pack (Pk.table (AB.base (mX c0 c1 c2 c3 c4 c5 c6 lim bs nw cost AG)))) false),some (.abs (AZ.pack (Pk.table (AB.now (Ae (mX c0 c1 c2 c3 c4 c5 c6 lim bs nw cost AG) (k==3) key val)))) false),none,some (.cells [(.int .i64 (Prod.fst (BD (mX c0 c1 c2 c3 c4 c5 c6 lim bs nw cost AG) k key val))),(.string (Prod.fst (Prod.snd (BD (mX c0 c1 c2 c3 c4 c5 c6 lim bs nw cost AG) k key val))))] 0 false),some (.vec ([SK.bool,SK.str,SK.str]) (AB.AG (mX c0 c1 c2 c3 c4 c5 c6 lim bs nw cost AG)++[(k==3,key,val)]) false),none]))))))else(bif ByteArray.toList sv==ByteArray.toList { data:=#[] } then(bif e==11 then(Q (.int .i64 0) [some (.cells [(.int .i64 c0),(.int .i64 c1),(.int .i64 c2),(.int .i64 c3),(.int .i64 c4),(.int .i64 c5),(.int .i64 c6),(.int .i64 lim),(.pointer (some ⟨10,0,none⟩)),(.pointer (some ⟨11,0,none⟩)),(.int .i64 cost),(.slice (some ⟨12,0,(some 0)⟩) (List.length AG) 18446744073709551616),(.pointer none),(.int .i64 0),(.bool false)] 0 false),some (.abs (AZ.pack (Pk.table (AB.base (mX c0 c1 c2 c3 c4 c5 c6 lim bs nw cost AG)))) false),some (.abs (AZ.pack (Pk.table (AB.now (mX c0 c1 c2 c3 c4 c5 c6 lim bs nw cost AG)))) false),some (.vec CW AG false),some (.cells [(.int .i64 (Prod.fst (BD (mX c0 c1 c2 c3 c4 c5 c6 lim bs nw cost AG) k key val))),(.string (Prod.fst (Prod.snd (BD (mX c0 c1 c2 c3 c4 c5 c6 lim bs nw cost AG) k key val))))] 0 false),none,none])else(bif !(e==Prod.fst (BD (mX c0 c1 c2 c3 c4 c5 c6 lim bs nw cost AG) k key val)&&(ByteArray.toList sv==ByteArray.toList (Prod.fst (Prod.snd (BD (mX c0 c1 c2 c3 c4 c5 c6 lim bs nw cost AG) k key val)))&&true))then
 (Q (.int .i64 7) [some (.cells [(.int .i64 c0),(.int .i64 c1),(.int .i64 c2),(.int .i64 c3),(.int .i64 c4),(.int .i64 c5),(.int .i64 c6),(.int .i64 lim),(.pointer (some ⟨10,0,none⟩)),(.pointer (some ⟨11,0,none⟩)),(.int .i64 cost),(.slice (some ⟨12,0,(some 0)⟩) (List.length AG) 18446744073709551616),(.pointer none),(.int .i64 0),(.bool false)] 0 false),some (.abs (AZ.pack (Pk.table (AB.base (mX c0 c1 c2 c3 c4 c5 c6 lim bs nw cost AG)))) false),some (.abs (AZ.pack (Pk.table (AB.now (mX c0 c1 c2 c3 c4 c5 c6 lim bs nw cost AG)))) false),some (.vec CW AG false),some (.cells [(.int .i64 (Prod.fst (BD (mX c0 c1 c2 c3 c4 c5 c6 lim bs nw cost AG) k key val))),(.string (Prod.fst (Prod.snd (BD (mX c0 c1 c2 c3 c4 c5 c6 lim bs nw cost AG) k key val))))] 0 false),none,none])else(List.length AG=List.length (AB.AG (mX c0 c1 c2 c3 c4 c5 c6 lim bs nw cost AG))∧AF=AF)∧(BE (AB.now (mX c0 c1 c2 c3 c4 c5 c6 lim bs nw cost AG))∧List.length (AB.now (mX c0 c1 c2 c3 c4 c5 c6 lim bs nw cost AG)) < 1000000∧List.length (AB.AG (mX c0 c1 c2 c3 c4 c5 c6 lim bs nw cost AG)) < 1000000)∧(bif k==4 then(List.length (AB.now (Ae (mX c0 c1 c2 c3 c4 c5 c6 lim bs nw cost AG) (k==3) key val)) < 1000000)∧(Q (.int .i64 0) [some (.cells [(.int .i64 (List.getD (AB.cfg (Ae (mX c0 c1 c2 c3 c4 c5 c6 lim bs nw cost AG) (k==3) key val)) 0 0)),(.int .i64 (List.getD (AB.cfg (Ae (mX c0 c1 c2 c3 c4 c5 c6 lim bs nw cost AG) (k==3) key val)) 1 0)),(.int .i64 (List.getD (AB.cfg (Ae (mX c0 c1 c2 c3 c4 c5 c6 lim bs nw cost AG) (k==3) key val)) 2 0)),(.int .i64 (List.getD (AB.cfg (Ae (mX c0 c1 c2 c3 c4 c5 c6 lim bs nw cost AG) (k==3) key val)) 3 0)),(.int .i64 (List.getD (AB.cfg (Ae (mX c0 c1 c2 c3 c4 c5 c6 lim bs nw cost AG) (k==3) key val)) 4 0)),(.int .i64 (List.getD (AB.cfg (Ae (mX c0 c1 c2 c3 c4 c5 c6 lim bs nw cost AG) (k==3) key val)) 5 0)),(.int .i64 (List.getD (AB.cfg (Ae (mX c0 c1 c2 c3 c4 c5 c6 lim bs nw cost AG) (k==3) key val)) 6 0)),(.int .i64 (AB.AS (Ae (mX c0 c1 c2 c3 c4 c5 c6 lim bs nw cost AG) (k==3) key val))),(.pointer (some ⟨20,0,none⟩)),(.pointer (some ⟨11,0,none⟩)),(.int .i64 (AB.cost (Ae (mX c0 c1 c2 c3 c4 c5 c6 lim bs nw cost AG) (k==3) key val))),(.slice none 0 0),(.pointer none),(.int .i64 (AB.state (Ae (mX c0 c1 c2 c3 c4 c5 c6 lim bs nw cost AG) (k==3) key val))),(.bool (AB.AK (Ae (mX c0 c1 c2 c3 c4 c5 c6 lim bs nw cost AG) (k==3) key val)))] 0 false),some (.abs (AZ.pack (Pk.table (AB.base (mX c0 c1 c2 c3 c4 c5 c6 lim bs nw cost AG)))) false),some (.abs (AZ.pack (Pk.table (AB.now (Ae (mX c0 c1 c2 c3 c4 c5 c6 lim bs nw cost AG) (k==3) key val)))) false),none,some (.cells [(.int .i64 (Prod.fst (BD (mX c0 c1 c2 c3 c4 c5 c6 lim bs nw cost AG) k key val))),(.string (Prod.fst (Prod.snd (BD (mX c0 c1 c2 c3 c4 c5 c6 lim bs nw cost AG) k key val))))] 0 false),some (.vec ([SK.bool,SK.str,SK.str]) (AB.AG (mX c0 c1 c2 c3 c4 c5 c6 lim bs nw cost AG)++[(k==3,key,val)]) false),some (.abs (AZ.pack (Pk.table (AB.now (Ae (mX c0 c1 c2 c3 c4 c5 c6 lim bs nw cost AG) (k==3) key val)))) false)])else(bif k==8 then(List.length (AB.now (Ae (mX c0 c1 c2 c3 c4 c5 c6 lim bs nw cost AG) (k==3) key val)) < 1000000)∧
 (Q (.int .i64 0) [some (.cells [(.int .i64 (List.getD (AB.cfg (Ae (mX c0 c1 c2 c3 c4 c5 c6 lim bs nw cost AG) (k==3) key val)) 0 0)),(.int .i64 (List.getD (AB.cfg (Ae (mX c0 c1 c2 c3 c4 c5 c6 lim bs nw cost AG) (k==3) key val)) 1 0)),(.int .i64 (List.getD (AB.cfg (Ae (mX c0 c1 c2 c3 c4 c5 c6 lim bs nw cost AG) (k==3) key val)) 2 0)),(.int .i64 (List.getD (AB.cfg (Ae (mX c0 c1 c2 c3 c4 c5 c6 lim bs nw cost AG) (k==3) key val)) 3 0)),(.int .i64 (List.getD (AB.cfg (Ae (mX c0 c1 c2 c3 c4 c5 c6 lim bs nw cost AG) (k==3) key val)) 4 0)),(.int .i64 (List.getD (AB.cfg (Ae (mX c0 c1 c2 c3 c4 c5 c6 lim bs nw cost AG) (k==3) key val)) 5 0)),(.int .i64 (List.getD (AB.cfg (Ae (mX c0 c1 c2 c3 c4 c5 c6 lim bs nw cost AG) (k==3) key val)) 6 0)),(.int .i64 (AB.AS (Ae (mX c0 c1 c2 c3 c4 c5 c6 lim bs nw cost AG) (k==3) key val))),(.pointer (some ⟨20,0,none⟩)),(.pointer (some ⟨11,0,none⟩)),(.int .i64 (AB.cost (Ae (mX c0 c1 c2 c3 c4 c5 c6 lim bs nw cost AG) (k==3) key val))),(.slice none 0 0),(.pointer none),(.int .i64 (AB.state (Ae (mX c0 c1 c2 c3 c4 c5 c6 lim bs nw cost AG) (k==3) key val))),(.bool (AB.AK (Ae (mX c0 c1 c2 c3 c4 c5 c6 lim bs nw cost AG) (k==3) key val)))] 0 false),some (.abs (AZ.pack (Pk.table (AB.base (mX c0 c1 c2 c3 c4 c5 c6 lim bs nw cost AG)))) false),some (.abs (AZ.pack (Pk.table (AB.now (Ae (mX c0 c1 c2 c3 c4 c5 c6 lim bs nw cost AG) (k==3) key val)))) false),none,some (.cells [(.int .i64 (Prod.fst (BD (mX c0 c1 c2 c3 c4 c5 c6 lim bs nw cost AG) k key val))),(.string (Prod.fst (Prod.snd (BD (mX c0 c1 c2 c3 c4 c5 c6 lim bs nw cost AG) k key val))))] 0 false),some (.vec ([SK.bool,SK.str,SK.str]) (AB.AG (mX c0 c1 c2 c3 c4 c5 c6 lim bs nw cost AG)++[(k==3,key,val)]) false),some (.abs (AZ.pack (Pk.table (AB.now (Ae (mX c0 c1 c2 c3 c4 c5 c6 lim bs nw cost AG) (k==3) key val)))) false)])else
 (Q (.int .i64 0) [some (.cells [(.int .i64 (List.getD (AB.cfg (Ae (mX c0 c1 c2 c3 c4 c5 c6 lim bs nw cost AG) (k==3) key val)) 0 0)),(.int .i64 (List.getD (AB.cfg (Ae (mX c0 c1 c2 c3 c4 c5 c6 lim bs nw cost AG) (k==3) key val)) 1 0)),(.int .i64 (List.getD (AB.cfg (Ae (mX c0 c1 c2 c3 c4 c5 c6 lim bs nw cost AG) (k==3) key val)) 2 0)),(.int .i64 (List.getD (AB.cfg (Ae (mX c0 c1 c2 c3 c4 c5 c6 lim bs nw cost AG) (k==3) key val)) 3 0)),(.int .i64 (List.getD (AB.cfg (Ae (mX c0 c1 c2 c3 c4 c5 c6 lim bs nw cost AG) (k==3) key val)) 4 0)),(.int .i64 (List.getD (AB.cfg (Ae (mX c0 c1 c2 c3 c4 c5 c6 lim bs nw cost AG) (k==3) key val)) 5 0)),(.int .i64 (List.getD (AB.cfg (Ae (mX c0 c1 c2 c3 c4 c5 c6 lim bs nw cost AG) (k==3) key val)) 6 0)),(.int .i64 (AB.AS (Ae (mX c0 c1 c2 c3 c4 c5 c6 lim bs nw cost AG) (k==3) key val))),(.pointer (some ⟨10,0,none⟩)),(.pointer (some ⟨11,0,none⟩)),(.int .i64 (AB.cost (Ae (mX c0 c1 c2 c3 c4 c5 c6 lim bs nw cost AG) (k==3) key val))),(.slice (some ⟨19,0,(some 0)⟩) (List.length (AB.AG (mX c0 c1 c2 c3 c4 c5 c6 lim bs nw cost AG))+1) 18446744073709551616),(.pointer none),(.int .i64 (AB.state (Ae (mX c0 c1 c2 c3 c4 c5 c6 lim bs nw cost AG) (k==3) key val))),(.bool (AB.AK (Ae (mX c0 c1 c2 c3 c4 c5 c6 lim bs nw cost AG) (k==3) key val)))] 0 false),some (.abs (AZ.pack (Pk.table (AB.base (mX c0 c1 c2 c3 c4 c5 c6 lim bs nw cost AG)))) false),some (.abs (AZ.pack (Pk.table (AB.now (Ae (mX c0 c1 c2 c3 c4 c5 c6 lim bs nw cost AG) (k==3) key val)))) false),none,some (.cells [(.int .i64 (Prod.fst (BD (mX c0 c1 c2 c3 c4 c5 c6 lim bs nw cost AG) k key val))),(.string (Prod.fst (Prod.snd (BD (mX c0 c1 c2 c3 c4 c5 c6 lim bs nw cost AG) k key val))))] 0 false),some (.vec ([SK.bool,SK.str,SK.str]) (AB.AG (mX c0 c1 c2 c3 c4 c5 c6 lim bs nw cost AG)++[(k==3,key,val)]) false),none])))))else(bif !(e==Prod.fst (BD (mX c0 c1 c2 c3 c4 c5 c6 lim bs nw cost AG) k key val)&&(ByteArray.toList sv==ByteArray.toList (Prod.fst (Prod.snd (BD (mX c0 c1 c2 c3 c4 c5 c6 lim bs nw cost AG) k key val)))&&true))then(Q (.int .i64 7) [some (.cells [(.int .i64 c0),(.int .i64 c1),(.int .i64 c2),(.int .i64 c3),(.int .i64 c4),(.int .i64 c5),(.int .i64 c6),(.int .i64 lim),(.pointer (some ⟨10,0,none⟩)),(.pointer (some ⟨11,0,none⟩)),(.int .i64 cost),(.slice (some ⟨12,0,(some 0)⟩) (List.length AG) 18446744073709551616),(.pointer none),(.int .i64 0),(.bool false)] 0 false),some (.abs (AZ.pack (Pk.table (AB.base (mX c0 c1 c2 c3 c4 c5 c6 lim bs nw cost AG)))) false),some (.abs (AZ.pack (Pk.table (AB.now (mX c0 c1 c2 c3 c4 c5 c6 lim bs nw cost AG)))) false),some (.vec CW AG false),some (.cells [(.int .i64 (Prod.fst (BD (mX c0 c1 c2 c3 c4 c5 c6 lim bs nw cost AG) k key val))),(.string (Prod.fst (Prod.snd (BD (mX c0 c1 c2 c3 c4 c5 c6 lim bs nw cost AG) k key val))))] 0 false),none,none])else(List.length AG=List.length (AB.AG (mX c0 c1 c2 c3 c4 c5 c6 lim bs nw cost AG))∧AF=AF)∧(BE (AB.now (mX c0 c1 c2 c3 c4 c5 c6 lim bs nw cost AG))∧List.length (AB.now (mX c0 c1 c2 c3 c4 c5 c6 lim bs nw cost AG)) < 1000000∧List.length (AB.AG (mX c0 c1 c2 c3 c4 c5 c6 lim bs nw cost AG)) < 1000000)∧(bif k==4 then(List.length (AB.now (Ae (mX c0 c1 c2 c3 c4 c5 c6 lim bs nw cost AG) (k==3) key val)) < 1000000)∧
 (Q (.int .i64 0) [some (.cells [(.int .i64 (List.getD (AB.cfg (Ae (mX c0 c1 c2 c3 c4 c5 c6 lim bs nw cost AG) (k==3) key val)) 0 0)),(.int .i64 (List.getD (AB.cfg (Ae (mX c0 c1 c2 c3 c4 c5 c6 lim bs nw cost AG) (k==3) key val)) 1 0)),(.int .i64 (List.getD (AB.cfg (Ae (mX c0 c1 c2 c3 c4 c5 c6 lim bs nw cost AG) (k==3) key val)) 2 0)),(.int .i64 (List.getD (AB.cfg (Ae (mX c0 c1 c2 c3 c4 c5 c6 lim bs nw cost AG) (k==3) key val)) 3 0)),(.int .i64 (List.getD (AB.cfg (Ae (mX c0 c1 c2 c3 c4 c5 c6 lim bs nw cost AG) (k==3) key val)) 4 0)),(.int .i64 (List.getD (AB.cfg (Ae (mX c0 c1 c2 c3 c4 c5 c6 lim bs nw cost AG) (k==3) key val)) 5 0)),(.int .i64 (List.getD (AB.cfg (Ae (mX c0 c1 c2 c3 c4 c5 c6 lim bs nw cost AG) (k==3) key val)) 6 0)),(.int .i64 (AB.AS (Ae (mX c0 c1 c2 c3 c4 c5 c6 lim bs nw cost AG) (k==3) key val))),(.pointer (some ⟨20,0,none⟩)),(.pointer (some ⟨11,0,none⟩)),(.int .i64 (AB.cost (Ae (mX c0 c1 c2 c3 c4 c5 c6 lim bs nw cost AG) (k==3) key val))),(.slice none 0 0),(.pointer none),(.int .i64 (AB.state (Ae (mX c0 c1 c2 c3 c4 c5 c6 lim bs nw cost AG) (k==3) key val))),(.bool (AB.AK (Ae (mX c0 c1 c2 c3 c4 c5 c6 lim bs nw cost AG) (k==3) key val)))] 0 false),some (.abs (AZ.pack (Pk.table (AB.base (mX c0 c1 c2 c3 c4 c5 c6 lim bs nw cost AG)))) false),some (.abs (AZ.pack (Pk.table (AB.now (Ae (mX c0 c1 c2 c3 c4 c5 c6 lim bs nw cost AG) (k==3) key val)))) false),none,some (.cells [(.int .i64 (Prod.fst (BD (mX c0 c1 c2 c3 c4 c5 c6 lim bs nw cost AG) k key val))),(.string (Prod.fst (Prod.snd (BD (mX c0 c1 c2 c3 c4 c5 c6 lim bs nw cost AG) k key val))))] 0 false),some (.vec ([SK.bool,SK.str,SK.str]) (AB.AG (mX c0 c1 c2 c3 c4 c5 c6 lim bs nw cost AG)++[(k==3,key,val)]) false),some (.abs (AZ.pack (Pk.table (AB.now (Ae (mX c0 c1 c2 c3 c4 c5 c6 lim bs nw cost AG) (k==3) key val)))) false)])else(bif k==8 then(List.length (AB.now (Ae (mX c0 c1 c2 c3 c4 c5 c6 lim bs nw cost AG) (k==3) key val)) < 1000000)∧
 (Q (.int .i64 0) [some (.cells [(.int .i64 (List.getD (AB.cfg (Ae (mX c0 c1 c2 c3 c4 c5 c6 lim bs nw cost AG) (k==3) key val)) 0 0)),(.int .i64 (List.getD (AB.cfg (Ae (mX c0 c1 c2 c3 c4 c5 c6 lim bs nw cost AG) (k==3) key val)) 1 0)),(.int .i64 (List.getD (AB.cfg (Ae (mX c0 c1 c2 c3 c4 c5 c6 lim bs nw cost AG) (k==3) key val)) 2 0)),(.int .i64 (List.getD (AB.cfg (Ae (mX c0 c1 c2 c3 c4 c5 c6 lim bs nw cost AG) (k==3) key val)) 3 0)),(.int .i64 (List.getD (AB.cfg (Ae (mX c0 c1 c2 c3 c4 c5 c6 lim bs nw cost AG) (k==3) key val)) 4 0)),(.int .i64 (List.getD (AB.cfg (Ae (mX c0 c1 c2 c3 c4 c5 c6 lim bs nw cost AG) (k==3) key val)) 5 0)),(.int .i64 (List.getD (AB.cfg (Ae (mX c0 c1 c2 c3 c4 c5 c6 lim bs nw cost AG) (k==3) key val)) 6 0)),(.int .i64 (AB.AS (Ae (mX c0 c1 c2 c3 c4 c5 c6 lim bs nw cost AG) (k==3) key val))),(.pointer (some ⟨20,0,none⟩)),(.pointer (some ⟨11,0,none⟩)),(.int .i64 (AB.cost (Ae (mX c0 c1 c2 c3 c4 c5 c6 lim bs nw cost AG) (k==3) key val))),(.slice none 0 0),(.pointer none),(.int .i64 (AB.state (Ae (mX c0 c1 c2 c3 c4 c5 c6 lim bs nw cost AG) (k==3) key val))),(.bool (AB.AK (Ae (mX c0 c1 c2 c3 c4 c5 c6 lim bs nw cost AG) (k==3) key val)))] 0 false),some (.abs (AZ.pack (Pk.table (AB.base (mX c0 c1 c2 c3 c4 c5 c6 lim bs nw cost AG)))) false),some (.abs (AZ.pack (Pk.table (AB.now (Ae (mX c0 c1 c2 c3 c4 c5 c6 lim bs nw cost AG) (k==3) key val)))) false),none,some (.cells [(.int .i64 (Prod.fst (BD (mX c0 c1 c2 c3 c4 c5 c6 lim bs nw cost AG) k key val))),(.string (Prod.fst (Prod.snd (BD (mX c0 c1 c2 c3 c4 c5 c6 lim bs nw cost AG) k key val))))] 0 false),some (.vec ([SK.bool,SK.str,SK.str]) (AB.AG (mX c0 c1 c2 c3 c4 c5 c6 lim bs nw cost AG)++[(k==3,key,val)]) false),some (.abs (AZ.pack (Pk.table (AB.now (Ae (mX c0 c1 c2 c3 c4 c5 c6 lim bs nw cost AG) (k==3) key val)))) false)])else
 (Q (.int .i64 0) [some (.cells [(.int .i64 (List.getD (AB.cfg (Ae (mX c0 c1 c2 c3 c4 c5 c6 lim bs nw cost AG) (k==3) key val)) 0 0)),(.int .i64 (List.getD (AB.cfg (Ae (mX c0 c1 c2 c3 c4 c5 c6 lim bs nw cost AG) (k==3) key val)) 1 0)),(.int .i64 (List.getD (AB.cfg (Ae (mX c0 c1 c2 c3 c4 c5 c6 lim bs nw cost AG) (k==3) key val)) 2 0)),(.int .i64 (List.getD (AB.cfg (Ae (mX c0 c1 c2 c3 c4 c5 c6 lim bs nw cost AG) (k==3) key val)) 3 0)),(.int .i64 (List.getD (AB.cfg (Ae (mX c0 c1 c2 c3 c4 c5 c6 lim bs nw cost AG) (k==3) key val)) 4 0)),(.int .i64 (List.getD (AB.cfg (Ae (mX c0 c1 c2 c3 c4 c5 c6 lim bs nw cost AG) (k==3) key val)) 5 0)),(.int .i64 (List.getD (AB.cfg (Ae (mX c0 c1 c2 c3 c4 c5 c6 lim bs nw cost AG) (k==3) key val)) 6 0)),(.int .i64 (AB.AS (Ae (mX c0 c1 c2 c3 c4 c5 c6 lim bs nw cost AG) (k==3) key val))),(.pointer (some ⟨10,0,none⟩)),(.pointer (some ⟨11,0,none⟩)),(.int .i64 (AB.cost (Ae (mX c0 c1 c2 c3 c4 c5 c6 lim bs nw cost AG) (k==3) key val))),(.slice (some ⟨19,0,(some 0)⟩) (List.length (AB.AG (mX c0 c1 c2 c3 c4 c5 c6 lim bs nw cost AG))+1) 18446744073709551616),(.pointer none),(.int .i64 (AB.state (Ae (mX c0 c1 c2 c3 c4 c5 c6 lim bs nw cost AG) (k==3) key val))),(.bool (AB.AK (Ae (mX c0 c1 c2 c3 c4 c5 c6 lim bs nw cost AG) (k==3) key val)))] 0 false),some (.abs (AZ.pack (Pk.table (AB.base (mX c0 c1 c2 c3 c4 c5 c6 lim bs nw cost AG)))) false),some (.abs (AZ.pack (Pk.table (AB.now (Ae (mX c0 c1 c2 c3 c4 c5 c6 lim bs nw cost AG) (k==3) key val)))) false),none,some (.cells [(.int .i64 (Prod.fst (BD (mX c0 c1 c2 c3 c4 c5 c6 lim bs nw cost AG) k key val))),(.string (Prod.fst (Prod.snd (BD (mX c0 c1 c2 c3 c4 c5 c6 lim bs nw cost AG) k key val))))] 0 false),some (.vec ([SK.bool,SK.str,SK.str]) (AB.AG (mX c0 c1 c2 c3 c4 c5 c6 lim bs nw cost AG)++[(k==3,key,val)]) false),none]))))))else(bif ByteArray.toList sv==ByteArray.toList { data:=#[] } then(bif e==13 then(bif Prod.fst (BD (mX c0 c1 c2 c3 c4 c5 c6 lim bs nw cost AG) k key val) != 0 then(Q (.int .i64 7) [some (.cells [(.int .i64 c0),(.int .i64 c1),(.int .i64 c2),(.int .i64 c3),(.int .i64 c4),(.int .i64 c5),(.int .i64 c6),(.int .i64 lim),(.pointer (some ⟨10,0,none⟩)),(.pointer (some ⟨11,0,none⟩)),(.int .i64 cost),(.slice (some ⟨12,0,(some 0)⟩) (List.length AG) 18446744073709551616),(.pointer none),(.int .i64 0),(.bool false)] 0 false),some (.abs (AZ.pack (Pk.table (AB.base (mX c0 c1 c2 c3 c4 c5 c6 lim bs nw cost AG)))) false),some (.abs (AZ.pack (Pk.table (AB.now (mX c0 c1 c2 c3 c4 c5 c6 lim bs nw cost AG)))) false),some (.vec CW AG false),none,none,none])else(bif k==2 then(Q (.int .i64 7) [some (.cells [(.int .i64 c0),(.int .i64 c1),(.int .i64 c2),(.int .i64 c3),(.int .i64 c4),(.int .i64 c5),(.int .i64 c6),(.int .i64 lim),(.pointer (some ⟨10,0,none⟩)),(.pointer (some ⟨11,0,none⟩)),(.int .i64 cost),(.slice (some ⟨12,0,(some 0)⟩) (List.length AG) 18446744073709551616),(.pointer none),(.int .i64 0),(.bool false)] 0 false),some (.abs (AZ.pack (Pk.table (AB.base (mX c0 c1 c2 c3 c4 c5 c6 lim bs nw cost AG)))) false),some (.abs (AZ.pack (Pk.table (AB.now (mX c0 c1 c2 c3 c4 c5 c6 lim bs nw cost AG)))) false),some (.vec CW AG false),none,none,none])else
 (Q (.int .i64 7) [some (.cells [(.int .i64 c0),(.int .i64 c1),(.int .i64 c2),(.int .i64 c3),(.int .i64 c4),(.int .i64 c5),(.int .i64 c6),(.int .i64 lim),(.pointer (some ⟨10,0,none⟩)),(.pointer (some ⟨11,0,none⟩)),(.int .i64 cost),(.slice (some ⟨12,0,(some 0)⟩) (List.length AG) 18446744073709551616),(.pointer none),(.int .i64 0),(.bool false)] 0 false),some (.abs (AZ.pack (Pk.table (AB.base (mX c0 c1 c2 c3 c4 c5 c6 lim bs nw cost AG)))) false),some (.abs (AZ.pack (Pk.table (AB.now (mX c0 c1 c2 c3 c4 c5 c6 lim bs nw cost AG)))) false),some (.vec CW AG false),none,none,none])))else(bif ByteArray.toList sv==ByteArray.toList { data:=#[] } then(bif e==11 then(Q (.int .i64 7) [some (.cells [(.int .i64 c0),(.int .i64 c1),(.int .i64 c2),(.int .i64 c3),(.int .i64 c4),(.int .i64 c5),(.int .i64 c6),(.int .i64 lim),(.pointer (some ⟨10,0,none⟩)),(.pointer (some ⟨11,0,none⟩)),(.int .i64 cost),(.slice (some ⟨12,0,(some 0)⟩) (List.length AG) 18446744073709551616),(.pointer none),(.int .i64 0),(.bool false)] 0 false),some (.abs (AZ.pack (Pk.table (AB.base (mX c0 c1 c2 c3 c4 c5 c6 lim bs nw cost AG)))) false),some (.abs (AZ.pack (Pk.table (AB.now (mX c0 c1 c2 c3 c4 c5 c6 lim bs nw cost AG)))) false),some (.vec CW AG false),none,none,none])else(bif !(e==Prod.fst (BD (mX c0 c1 c2 c3 c4 c5 c6 lim bs nw cost AG) k key val)&&(ByteArray.toList sv==ByteArray.toList (Prod.fst (Prod.snd (BD (mX c0 c1 c2 c3 c4 c5 c6 lim bs nw cost AG) k key val)))&&true))then(Q (.int .i64 7) [some (.cells [(.int .i64 c0),(.int .i64 c1),(.int .i64 c2),(.int .i64 c3),(.int .i64 c4),(.int .i64 c5),(.int .i64 c6),(.int .i64 lim),(.pointer (some ⟨10,0,none⟩)),(.pointer (some ⟨11,0,none⟩)),(.int .i64 cost),(.slice (some ⟨12,0,(some 0)⟩) (List.length AG) 18446744073709551616),(.pointer none),(.int .i64 0),(.bool false)] 0 false),some (.abs (AZ.pack (Pk.table (AB.base (mX c0 c1 c2 c3 c4 c5 c6 lim bs nw cost AG)))) false),some (.abs (AZ.pack (Pk.table (AB.now (mX c0 c1 c2 c3 c4 c5 c6 lim bs nw cost AG)))) false),some (.vec CW AG false),none,none,none])else(bif k==4 then(List.length (AB.now (mX c0 c1 c2 c3 c4 c5 c6 lim bs nw cost AG)) < 1000000)∧(Q (.int .i64 0) [some (.cells [(.int .i64 c0),(.int .i64 c1),(.int .i64 c2),(.int .i64 c3),(.int .i64 c4),(.int .i64 c5),(.int .i64 c6),(.int .i64 lim),(.pointer (some ⟨18,0,none⟩)),(.pointer (some ⟨11,0,none⟩)),(.int .i64 cost),(.slice none 0 0),(.pointer none),(.int .i64 0),(.bool false)] 0 false),some (.abs (AZ.pack (Pk.table (AB.base (mX c0 c1 c2 c3 c4 c5 c6 lim bs nw cost AG)))) false),some (.abs (AZ.pack (Pk.table (AB.now (mX c0 c1 c2 c3 c4 c5 c6 lim bs nw cost AG)))) false),some (.vec CW AG false),some (.abs (AZ.pack (Pk.table (AB.now (mX c0 c1 c2 c3 c4 c5 c6 lim bs nw cost AG)))) false),none,none])else(bif k==8 then(List.length (AB.now (mX c0 c1 c2 c3 c4 c5 c6 lim bs nw cost AG)) < 1000000)∧
 (Q (.int .i64 0) [some (.cells [(.int .i64 c0),(.int .i64 c1),(.int .i64 c2),(.int .i64 c3),(.int .i64 c4),(.int .i64 c5),(.int .i64 c6),(.int .i64 lim),(.pointer (some ⟨18,0,none⟩)),(.pointer (some ⟨11,0,none⟩)),(.int .i64 cost),(.slice none 0 0),(.pointer none),(.int .i64 0),(.bool false)] 0 false),some (.abs (AZ.pack (Pk.table (AB.base (mX c0 c1 c2 c3 c4 c5 c6 lim bs nw cost AG)))) false),some (.abs (AZ.pack (Pk.table (AB.now (mX c0 c1 c2 c3 c4 c5 c6 lim bs nw cost AG)))) false),some (.vec CW AG false),some (.abs (AZ.pack (Pk.table (AB.now (mX c0 c1 c2 c3 c4 c5 c6 lim bs nw cost AG)))) false),none,none])else(Q (.int .i64 0) [some (.cells [(.int .i64 c0),(.int .i64 c1),(.int .i64 c2),(.int .i64 c3),(.int .i64 c4),(.int .i64 c5),(.int .i64 c6),(.int .i64 lim),(.pointer (some ⟨10,0,none⟩)),(.pointer (some ⟨11,0,none⟩)),(.int .i64 cost),(.slice (some ⟨12,0,(some 0)⟩) (List.length AG) 18446744073709551616),(.pointer none),(.int .i64 0),(.bool false)] 0 false),some (.abs (AZ.pack (Pk.table (AB.base (mX c0 c1 c2 c3 c4 c5 c6 lim bs nw cost AG)))) false),some (.abs (AZ.pack (Pk.table (AB.now (mX c0 c1 c2 c3 c4 c5 c6 lim bs nw cost AG)))) false),some (.vec CW AG false),none,none,none])))))else(bif !(e==Prod.fst (BD (mX c0 c1 c2 c3 c4 c5 c6 lim bs nw cost AG) k key val)&&(ByteArray.toList sv==ByteArray.toList (Prod.fst (Prod.snd (BD (mX c0 c1 c2 c3 c4 c5 c6 lim bs nw cost AG) k key val)))&&true))then(Q (.int .i64 7) [some (.cells [(.int .i64 c0),(.int .i64 c1),(.int .i64 c2),(.int .i64 c3),(.int .i64 c4),(.int .i64 c5),(.int .i64 c6),(.int .i64 lim),(.pointer (some ⟨10,0,none⟩)),(.pointer (some ⟨11,0,none⟩)),(.int .i64 cost),(.slice (some ⟨12,0,(some 0)⟩) (List.length AG) 18446744073709551616),(.pointer none),(.int .i64 0),(.bool false)] 0 false),some (.abs (AZ.pack (Pk.table (AB.base (mX c0 c1 c2 c3 c4 c5 c6 lim bs nw cost AG)))) false),some (.abs (AZ.pack (Pk.table (AB.now (mX c0 c1 c2 c3 c4 c5 c6 lim bs nw cost AG)))) false),some (.vec CW AG false),none,none,none])else(bif k==4 then(List.length (AB.now (mX c0 c1 c2 c3 c4 c5 c6 lim bs nw cost AG)) < 1000000)∧(Q (.int .i64 0) [some (.cells [(.int .i64 c0),(.int .i64 c1),(.int .i64 c2),(.int .i64 c3),(.int .i64 c4),(.int .i64 c5),(.int .i64 c6),(.int .i64 lim),(.pointer (some ⟨18,0,none⟩)),(.pointer (some ⟨11,0,none⟩)),(.int .i64 cost),(.slice none 0 0),(.pointer none),(.int .i64 0),(.bool false)] 0 false),some (.abs (AZ.pack (Pk.table (AB.base (mX c0 c1 c2 c3 c4 c5 c6 lim bs nw cost AG)))) false),some (.abs (AZ.pack (Pk.table (AB.now (mX c0 c1 c2 c3 c4 c5 c6 lim bs nw cost AG)))) false),some (.vec CW AG false),some (.abs (AZ.pack (Pk.table (AB.now (mX c0 c1 c2 c3 c4 c5 c6 lim bs nw cost AG)))) false),none,none])else(bif k==8 then(List.length (AB.now (mX c0 c1 c2 c3 c4 c5 c6 lim bs nw cost AG)) < 1000000)∧
 (Q (.int .i64 0) [some (.cells [(.int .i64 c0),(.int .i64 c1),(.int .i64 c2),(.int .i64 c3),(.int .i64 c4),(.int .i64 c5),(.int .i64 c6),(.int .i64 lim),(.pointer (some ⟨18,0,none⟩)),(.pointer (some ⟨11,0,none⟩)),(.int .i64 cost),(.slice none 0 0),(.pointer none),(.int .i64 0),(.bool false)] 0 false),some (.abs (AZ.pack (Pk.table (AB.base (mX c0 c1 c2 c3 c4 c5 c6 lim bs nw cost AG)))) false),some (.abs (AZ.pack (Pk.table (AB.now (mX c0 c1 c2 c3 c4 c5 c6 lim bs nw cost AG)))) false),some (.vec CW AG false),some (.abs (AZ.pack (Pk.table (AB.now (mX c0 c1 c2 c3 c4 c5 c6 lim bs nw cost AG)))) false),none,none])else(Q (.int .i64 0) [some (.cells [(.int .i64 c0),(.int .i64 c1),(.int .i64 c2),(.int .i64 c3),(.int .i64 c4),(.int .i64 c5),(.int .i64 c6),(.int .i64 lim),(.pointer (some ⟨10,0,none⟩)),(.pointer (some ⟨11,0,none⟩)),(.int .i64 cost),(.slice (some ⟨12,0,(some 0)⟩) (List.length AG) 18446744073709551616),(.pointer none),(.int .i64 0),(.bool false)] 0 false),some (.abs (AZ.pack (Pk.table (AB.base (mX c0 c1 c2 c3 c4 c5 c6 lim bs nw cost AG)))) false),some (.abs (AZ.pack (Pk.table (AB.now (mX c0 c1 c2 c3 c4 c5 c6 lim bs nw cost AG)))) false),some (.vec CW AG false),none,none,none]))))))else(bif ByteArray.toList sv==ByteArray.toList { data:=#[] } then(bif e==11 then(Q (.int .i64 7) [some (.cells [(.int .i64 c0),(.int .i64 c1),(.int .i64 c2),(.int .i64 c3),(.int .i64 c4),(.int .i64 c5),(.int .i64 c6),(.int .i64 lim),(.pointer (some ⟨10,0,none⟩)),(.pointer (some ⟨11,0,none⟩)),(.int .i64 cost),(.slice (some ⟨12,0,(some 0)⟩) (List.length AG) 18446744073709551616),(.pointer none),(.int .i64 0),(.bool false)] 0 false),some (.abs (AZ.pack (Pk.table (AB.base (mX c0 c1 c2 c3 c4 c5 c6 lim bs nw cost AG)))) false),some (.abs (AZ.pack (Pk.table (AB.now (mX c0 c1 c2 c3 c4 c5 c6 lim bs nw cost AG)))) false),some (.vec CW AG false),none,none,none])else(bif !(e==Prod.fst (BD (mX c0 c1 c2 c3 c4 c5 c6 lim bs nw cost AG) k key val)&&(ByteArray.toList sv==ByteArray.toList (Prod.fst (Prod.snd (BD (mX c0 c1 c2 c3 c4 c5 c6 lim bs nw cost AG) k key val)))&&true))then(Q (.int .i64 7) [some (.cells [(.int .i64 c0),(.int .i64 c1),(.int .i64 c2),(.int .i64 c3),(.int .i64 c4),(.int .i64 c5),(.int .i64 c6),(.int .i64 lim),(.pointer (some ⟨10,0,none⟩)),(.pointer (some ⟨11,0,none⟩)),(.int .i64 cost),(.slice (some ⟨12,0,(some 0)⟩) (List.length AG) 18446744073709551616),(.pointer none),(.int .i64 0),(.bool false)] 0 false),some (.abs (AZ.pack (Pk.table (AB.base (mX c0 c1 c2 c3 c4 c5 c6 lim bs nw cost AG)))) false),some (.abs (AZ.pack (Pk.table (AB.now (mX c0 c1 c2 c3 c4 c5 c6 lim bs nw cost AG)))) false),some (.vec CW AG false),none,none,none])else(bif k==4 then(List.length (AB.now (mX c0 c1 c2 c3 c4 c5 c6 lim bs nw cost AG)) < 1000000)∧(Q (.int .i64 0) [some (.cells [(.int .i64 c0),(.int .i64 c1),(.int .i64 c2),(.int .i64 c3),(.int .i64 c4),(.int .i64 c5),(.int .i64 c6),(.int .i64 lim),(.pointer (some ⟨18,0,none⟩)),(.pointer (some ⟨11,0,none⟩)),(.int .i64 cost),(.slice none 0 0),(.pointer none),(.int .i64 0),(.bool false)] 0 false),some (.abs (AZ.pack (Pk.table (AB.base (mX c0 c1 c2 c3 c4 c5 c6 lim bs nw cost AG)))) false),some (.abs (AZ.pack (Pk.table (AB.now (mX c0 c1 c2 c3 c4 c5 c6 lim bs nw cost AG)))) false),some (.vec CW AG false),some (.abs (AZ.pack (Pk.table (AB.now (mX c0 c1 c2 c3 c4 c5 c6 lim bs nw cost AG)))) false),none,none])else(bif k==8 then
 (List.length (AB.now (mX c0 c1 c2 c3 c4 c5 c6 lim bs nw cost AG)) < 1000000)∧(Q (.int .i64 0) [some (.cells [(.int .i64 c0),(.int .i64 c1),(.int .i64 c2),(.int .i64 c3),(.int .i64 c4),(.int .i64 c5),(.int .i64 c6),(.int .i64 lim),(.pointer (some ⟨18,0,none⟩)),(.pointer (some ⟨11,0,none⟩)),(.int .i64 cost),(.slice none 0 0),(.pointer none),(.int .i64 0),(.bool false)] 0 false),some (.abs (AZ.pack (Pk.table (AB.base (mX c0 c1 c2 c3 c4 c5 c6 lim bs nw cost AG)))) false),some (.abs (AZ.pack (Pk.table (AB.now (mX c0 c1 c2 c3 c4 c5 c6 lim bs nw cost AG)))) false),some (.vec CW AG false),some (.abs (AZ.pack (Pk.table (AB.now (mX c0 c1 c2 c3 c4 c5 c6 lim bs nw cost AG)))) false),none,none])else(Q (.int .i64 0) [some (.cells [(.int .i64 c0),(.int .i64 c1),(.int .i64 c2),(.int .i64 c3),(.int .i64 c4),(.int .i64 c5),(.int .i64 c6),(.int .i64 lim),(.pointer (some ⟨10,0,none⟩)),(.pointer (some ⟨11,0,none⟩)),(.int .i64 cost),(.slice (some ⟨12,0,(some 0)⟩) (List.length AG) 18446744073709551616),(.pointer none),(.int .i64 0),(.bool false)] 0 false),some (.abs (AZ.pack (Pk.table (AB.base (mX c0 c1 c2 c3 c4 c5 c6 lim bs nw cost AG)))) false),some (.abs (AZ.pack (Pk.table (AB.now (mX c0 c1 c2 c3 c4 c5 c6 lim bs nw cost AG)))) false),some (.vec CW AG false),none,none,none])))))else(bif !(e==Prod.fst (BD (mX c0 c1 c2 c3 c4 c5 c6 lim bs nw cost AG) k key val)&&(ByteArray.toList sv==ByteArray.toList (Prod.fst (Prod.snd (BD (mX c0 c1 c2 c3 c4 c5 c6 lim bs nw cost AG) k key val)))&&true))then(Q (.int .i64 7) [some (.cells [(.int .i64 c0),(.int .i64 c1),(.int .i64 c2),(.int .i64 c3),(.int .i64 c4),(.int .i64 c5),(.int .i64 c6),(.int .i64 lim),(.pointer (some ⟨10,0,none⟩)),(.pointer (some ⟨11,0,none⟩)),(.int .i64 cost),(.slice (some ⟨12,0,(some 0)⟩) (List.length AG) 18446744073709551616),(.pointer none),(.int .i64 0),(.bool false)] 0 false),some (.abs (AZ.pack (Pk.table (AB.base (mX c0 c1 c2 c3 c4 c5 c6 lim bs nw cost AG)))) false),some (.abs (AZ.pack (Pk.table (AB.now (mX c0 c1 c2 c3 c4 c5 c6 lim bs nw cost AG)))) false),some (.vec CW AG false),none,none,none])else(bif k==4 then(List.length (AB.now (mX c0 c1 c2 c3 c4 c5 c6 lim bs nw cost AG)) < 1000000)∧(Q (.int .i64 0) [some (.cells [(.int .i64 c0),(.int .i64 c1),(.int .i64 c2),(.int .i64 c3),(.int .i64 c4),(.int .i64 c5),(.int .i64 c6),(.int .i64 lim),(.pointer (some ⟨18,0,none⟩)),(.pointer (some ⟨11,0,none⟩)),(.int .i64 cost),(.slice none 0 0),(.pointer none),(.int .i64 0),(.bool false)] 0 false),some (.abs (AZ.pack (Pk.table (AB.base (mX c0 c1 c2 c3 c4 c5 c6 lim bs nw cost AG)))) false),some (.abs (AZ.pack (Pk.table (AB.now (mX c0 c1 c2 c3 c4 c5 c6 lim bs nw cost AG)))) false),some (.vec CW AG false),some (.abs (AZ.pack (Pk.table (AB.now (mX c0 c1 c2 c3 c4 c5 c6 lim bs nw cost AG)))) false),none,none])else(bif k==8 then(List.length (AB.now (mX c0 c1 c2 c3 c4 c5 c6 lim bs nw cost AG)) < 1000000)∧
 (Q (.int .i64 0) [some (.cells [(.int .i64 c0),(.int .i64 c1),(.int .i64 c2),(.int .i64 c3),(.int .i64 c4),(.int .i64 c5),(.int .i64 c6),(.int .i64 lim),(.pointer (some ⟨18,0,none⟩)),(.pointer (some ⟨11,0,none⟩)),(.int .i64 cost),(.slice none 0 0),(.pointer none),(.int .i64 0),(.bool false)] 0 false),some (.abs (AZ.pack (Pk.table (AB.base (mX c0 c1 c2 c3 c4 c5 c6 lim bs nw cost AG)))) false),some (.abs (AZ.pack (Pk.table (AB.now (mX c0 c1 c2 c3 c4 c5 c6 lim bs nw cost AG)))) false),some (.vec CW AG false),some (.abs (AZ.pack (Pk.table (AB.now (mX c0 c1 c2 c3 c4 c5 c6 lim bs nw cost AG)))) false),none,none])else(Q (.int .i64 0) [some (.cells [(.int .i64 c0),(.int .i64 c1),(.int .i64 c2),(.int .i64 c3),(.int .i64 c4),(.int .i64 c5),(.int .i64 c6),(.int .i64 lim),(.pointer (some ⟨10,0,none⟩)),(.pointer (some ⟨11,0,none⟩)),(.int .i64 cost),(.slice (some ⟨12,0,(some 0)⟩) (List.length AG) 18446744073709551616),(.pointer none),(.int .i64 0),(.bool false)] 0 false),some (.abs (AZ.pack (Pk.table (AB.base (mX c0 c1 c2 c3 c4 c5 c6 lim bs nw cost AG)))) false),some (.abs (AZ.pack (Pk.table (AB.now (mX c0 c1 c2 c3 c4 c5 c6 lim bs nw cost AG)))) false),some (.vec CW AG false),none,none,none])))))))))):=by kernel_rfl
end Go.AD

set_option maxRecDepth 1000000
namespace Go.AD
open Go.Proofs
theorem dK:FD XD fL:=An (Zr (by kernel_rfl)) (An (fun _ _ _ h=>Ak (by kernel_rfl) h) (An (fun _ _ _ h=>Ak (by kernel_rfl) h) (An (fun _ _ _ h=>Ak (by kernel_rfl) h) (An (fun _ _ _ h=>Ak (by kernel_rfl) h)
 (An (fun _ _ _ h=>Ak (by kernel_rfl) h) (An (fun _ _ _ h=>Ak (by kernel_rfl) h) (An (fun _ _ _ h=>Ak (by kernel_rfl) h) (An (fun _ _ _ h=>Ak (by kernel_rfl) h) (Av _)))))))))
theorem fV:Aw Tryz.prog AL fk:=Aw.cons Yu (Aw.cons Vx (Aw.cons V2 allM))
def Mp (s:ByteArray):Bool:=ByteArray.toList s==ByteArray.toList { data:=#[] }
def XY (m:AB):AB:={ m with base:=m.now,AG:=[] }
def Ju (k:Int) (m:AB):AB:=bif k==4 then XY m else bif k==8 then XY m else m
noncomputable def I3 (m:AB) (k a b:Int) (key val:ByteArray) (e:Int) (sv:ByteArray):Option AB:=
 bif Lj k a b key val != 0 then(bif e==2&&(Mp sv&&true)then some m else none)
 else bif k==7 then none
 else bif (BD m k key val).2.2 then
  (bif Mp sv&&e==13 then none else bif Mp sv&&e==11 then some m else bif !(e==(BD m k key val).1&&(ByteArray.toList sv==ByteArray.toList (BD m k key val).2.1&&true))then none else some (Ju k (Ae m (k==3) key val)))
 else(bif Mp sv&&e==13 then none else bif Mp sv&&e==11 then none else bif !(e==(BD m k key val).1&&(ByteArray.toList sv==ByteArray.toList (BD m k key val).2.1&&true))then none else some (Ju k m))
inductive aj (m:AB):List (Option AJ)→Prop where
 | same (a b c:Option AJ):aj m [some (.cells (BV m 10 11 (.slice (some ⟨12,0,some 0⟩) m.AG.length 18446744073709551616)) 0 false),some (DP m.base),some (DP m.now),some (.vec CW m.AG false),a,b,c]
 | acc (a b c:Option AJ) (n:Nat) (h:n=m.AG.length):aj m [some (.cells (BV m 10 11 (.slice (some ⟨19,0,some 0⟩) n 18446744073709551616)) 0 false),some (DP m.base),some (DP m.now),a,b,some (.vec CW m.AG false),c]
 | bF (a b c d:Option AJ) (h:m.AG=[]):aj m [some (.cells (BV m 20 11 (.slice none 0 0)) 0 false),a,some (DP m.now),b,c,d,some (DP m.base)]
 | bO (a b c d:Option AJ) (h:m.AG=[]):aj m [some (.cells (BV m 18 11 (.slice none 0 0)) 0 false),a,some (DP m.now),b,some (DP m.base),c,d]
def fB (m:AB) (r:Option AB) (v:Value) (os:List (Option AJ)):Prop:=(r=none∧v= .int .i64 7∧aj m os)∨∃m',r=some m'∧v= .int .i64 0∧aj m' os
theorem fR {m:AB} {r:Option AB} {os:List (Option AJ)} (h:r=none) (hd:aj m os):fB m r (.int .i64 7) os:= .inl ⟨h,rfl,hd⟩
theorem eo {m:AB} {r:Option AB} {os:List (Option AJ)} (m':AB) (h:r=some m') (hd:aj m' os):fB m r (.int .i64 0) os:= .inr ⟨m',h,rfl,hd⟩
theorem Zs (m:AB) (del:Bool) (key val:ByteArray) (h:m.now.length < 900000):(Ae m del key val).now.length < 1000000:=by
 have h1:(EY m.now key val).length≤m.now.length+1:=by
  unfold EY
  split
  ·rw[List.length_set];omega
  ·simp only[List.length_append,List.length_take,List.length_drop,List.length_cons,List.length_nil];omega
 have h2:(Et m.now key).length≤m.now.length:=by
  unfold Et
  split
  ·simp only[List.length_append,List.length_take,List.length_drop];omega
  ·exact Nat.le_refl _
 cases del
 ·show(EY m.now key val).length < _;omega
 ·show(Et m.now key).length < _;omega
theorem eV (c0 c1 c2 c3 c4 c5 c6 lim:Int) (bs nw:List (ByteArray × ByteArray)) (cost:Int) (AG:List (Bool × ByteArray × ByteArray)) (k a b:Int) (key val:ByteArray) (e:Int) (sv:ByteArray)
 (hck:Gl k a b key val) (hs:BE nw) (hn:nw.length < 900000) (hu:AG.length < 1000000) (hcr:(k==7)=true→(e==0&&(ByteArray.toList sv==ByteArray.toList { data:=#[] }&&true))=false):
 Gv XD fL BC YZ (fB (mX c0 c1 c2 c3 c4 c5 c6 lim bs nw cost AG) (I3 (mX c0 c1 c2 c3 c4 c5 c6 lim bs nw cost AG) k a b key val e sv)) 2000 (st BC 66 [p9,IX k a b key val,Uh e sv] (BW ⟨.leaf,9⟩ (fa c0 c1 c2 c3 c4 c5 c6 lim bs nw cost AG))):=by
 have hn1:nw.length < 1000000:=by omega
 rw[dq]
 refine⟨hck,?_⟩
 refine Az (fun _=>Az (fun _=>?_) (fun _=>?_)) (fun _=>Az (fun h7=>?_) (fun _=>?_))
 ·exact eo _ (by unfold I3 Ju Mp;simp only[*,cond_true]<;>rfl) (.same _ _ _)
 ·exact fR (by unfold I3 Ju Mp;simp only[*,cond_true,cond_false]<;>rfl) (.same _ _ _)
 ·have h7e:=hcr h7
  rw[h7e]
  exact fR (by unfold I3 Ju Mp;simp only[*,cond_true,cond_false]<;>rfl) (.same _ _ _)
 ·refine⟨⟨rfl,rfl⟩,⟨hs,hn1⟩,?_⟩
  refine Az (fun _=>?_) (fun _=>?_)
  all_goals
   repeat' first
    | exact fR (by unfold I3 Ju Mp;simp only[*,cond_true,cond_false]<;>rfl) (.same _ _ _)
    | exact eo (mX c0 c1 c2 c3 c4 c5 c6 lim bs nw cost AG) (by unfold I3 Ju Mp;simp only[*,cond_true,cond_false]<;>rfl) (.same _ _ _)
    | exact eo (Ae (mX c0 c1 c2 c3 c4 c5 c6 lim bs nw cost AG) (k==3) key val) (by unfold I3 Ju Mp;simp only[*,cond_true,cond_false]<;>rfl) (.acc _ _ _ _ (by simp[Ae]))
    | exact eo (XY (mX c0 c1 c2 c3 c4 c5 c6 lim bs nw cost AG)) (by unfold I3 Ju Mp;simp only[*,cond_true,cond_false]<;>rfl) (.bO _ _ _ _ rfl)
    | exact eo (XY (Ae (mX c0 c1 c2 c3 c4 c5 c6 lim bs nw cost AG) (k==3) key val)) (by unfold I3 Ju Mp;simp only[*,cond_true,cond_false]<;>rfl) (.bF _ _ _ _ rfl)
    | (exfalso;simp_all only[Bool.true_eq_false,Bool.false_eq_true];done)
    | refine Az (fun _=>?_) (fun _=>?_)
    | apply And.intro (by first | exact rfl | exact⟨rfl,rfl⟩ | exact⟨hs,hn1⟩ | exact⟨hs,hn1,hu⟩ | exact hn1 | exact Zs _ _ _ _ hn)
end Go.AD

set_option maxRecDepth 1000000
namespace Go.AD
open Go.Proofs
theorem E4:(18446744073709551616:Nat)=AF:=by unfold AF;rfl
noncomputable def fZ:IV:=
 ⟨fun m rest=>∃k a b key val e sv,rest=[IX k a b key val,Uh e sv]∧m.cfg.length=7∧m.state=0∧m.AK=false∧Gl k a b key val∧BE m.now∧m.now.length < 900000∧m.AG.length < 1000000∧((k==7)=true→(e==0&&(ByteArray.toList sv==ByteArray.toList { data:=#[] }&&true))=false),
  fun m rest=>match rest with
  | [.agg ⟨[.int .i64 k,.int .i64 a,.int .i64 b,.string key,.string val]⟩,.agg ⟨[.int .i64 e,.string sv]⟩]=> .int .i64 (bif (I3 m k a b key val e sv).isSome then 0 else 7)
  | _=>A5,
  fun m rest=>match rest with
  | [.agg ⟨[.int .i64 k,.int .i64 a,.int .i64 b,.string key,.string val]⟩,.agg ⟨[.int .i64 e,.string sv]⟩]=>(I3 m k a b key val e sv).getD m
  | _=>m⟩
theorem fQ {l:List Int} (h:l.length=7):∃c0 c1 c2 c3 c4 c5 c6,l=[c0,c1,c2,c3,c4,c5,c6]:=by
 match l,h with
 | [c0,c1,c2,c3,c4,c5,c6],_=>exact⟨c0,c1,c2,c3,c4,c5,c6,rfl⟩
theorem Ve {D:Nat→Prop} {v:Value} {H:AA} {m:AB} (hD:D 9) (h:aj m [H.get 9,H.get 10,H.get 11,H.get 12,H.get 18,H.get 19,H.get 20]):
 ∃v2 H2,(∀(base:Env) (W0:World) (μ:Ah) (W:World) (v':Value),(∀b,D b→∃T,μ b=some T)→AH μ v v'→AP base W0 μ H W→∃μ2,μ.le μ2∧AP base W0 μ2 H2 W∧AH μ2 v2 v')∧v2=v∧HU H2 m:=by
 generalize hos:[H.get 9,H.get 10,H.get 11,H.get 12,H.get 18,H.get 19,H.get 20]=os at h
 cases h with
 | same a b c=>
  simp only[List.cons.injEq,and_true]at hos
  obtain⟨g9,g10,g11,g12,_⟩:=hos
  exact⟨v,H,fun base W0 μ W v' _ hv hH=>⟨μ,Ah.le_refl _,hH,hv⟩,rfl,10,11,12,by decide,by decide,by decide,by decide,by decide,by decide,g10,g11,by rw[g9,E4],g12⟩
 | acc a b c n hn=>
  subst hn
  simp only[List.cons.injEq,and_true]at hos
  obtain⟨g9,g10,g11,_,_,g19,_⟩:=hos
  exact⟨v,H,fun base W0 μ W v' _ hv hH=>⟨μ,Ah.le_refl _,hH,hv⟩,rfl,10,11,19,by decide,by decide,by decide,by decide,by decide,by decide,g10,g11,by rw[g9,E4],g19⟩
 | bF a b c d hu=>
  simp only[List.cons.injEq,and_true]at hos
  obtain⟨g9,_,g11,_,_,_,g20⟩:=hos
  exact Sy hu (b:=20) (n:=11) (by decide) (by decide) (by decide) (by decide) (by decide) g9 g20 g11 hD
 | bO a b c d hu=>
  simp only[List.cons.injEq,and_true]at hos
  obtain⟨g9,_,g11,_,g18,_,_⟩:=hos
  exact Sy hu (b:=18) (n:=11) (by decide) (by decide) (by decide) (by decide) (by decide) g9 g18 g11 hD
theorem bj:Da Tryz.prog AL BC (A3 AL 9 [true] fZ.G):=by
 refine Pm fV (by kernel_rfl) (n:=66) ?_
 rintro m rest ⟨k,a,b,key,val,e,sv,rfl,hc,hst,hpl,hck,hs,hn,hu,hcr⟩
 refine⟨by simp,rfl,?_⟩
 obtain⟨cfg,lim,bs,nw,cost,AG,st0,pl⟩:=m
 simp only at hc hst hpl hs hn hu
 subst hst hpl
 obtain⟨c0,c1,c2,c3,c4,c5,c6,rfl⟩:=fQ hc
 have hE:As XD 10 BC (fun v H=>fB (mX c0 c1 c2 c3 c4 c5 c6 lim bs nw cost AG) (I3 (mX c0 c1 c2 c3 c4 c5 c6 lim bs nw cost AG) k a b key val e sv) v ((YZ++Af 4 v).map H.get)) (st BC 66 [p9,IX k a b key val,Uh e sv] (BW ⟨.leaf,9⟩ (fa c0 c1 c2 c3 c4 c5 c6 lim bs nw cost AG))):=
  B8.Gq (B6 dK (ids:=YZ) 2000 _ (eV c0 c1 c2 c3 c4 c5 c6 lim bs nw cost AG k a b key val e sv hck hs hn hu hcr))
 refine A4.tell hE.Ko ?_
 rintro v H (⟨hr,rfl,h⟩ | ⟨m',hr,rfl,h⟩)
 ·obtain⟨v2,H2,k1,rfl,k2⟩:=Ve (D:=fun b=>9≤b∧b < 10) (v:= .int .i64 7) ⟨Nat.le_refl 9,Nat.lt_succ_self 9⟩ h
  refine⟨_,H2,k1,?_,?_⟩
  ·show _=Value.int .i64 (bif (I3 _ k a b key val e sv).isSome then 0 else 7)
   rw[hr];rfl
  ·show HU H2 ((I3 _ k a b key val e sv).getD _)
   rw[hr];exact k2
 ·obtain⟨v2,H2,k1,rfl,k2⟩:=Ve (D:=fun b=>9≤b∧b < 10) (v:= .int .i64 0) ⟨Nat.le_refl 9,Nat.lt_succ_self 9⟩ h
  refine⟨_,H2,k1,?_,?_⟩
  ·show _=Value.int .i64 (bif (I3 _ k a b key val e sv).isSome then 0 else 7)
   rw[hr];rfl
  ·show HU H2 ((I3 _ k a b key val e sv).getD _)
   rw[hr];exact k2
end Go.AD

namespace Go.AD
noncomputable def aN (X:Ctx) (c:Ay):Option (Bool × Ay × Ay):=
 match c with
 | ⟨⟨fn,t,n,.G0 ops (o::l)::k,ds,false,kd,rd⟩,cs,H⟩=>
  match o.op with
  | .binOp .eql ty x y _=>match Bc X t x,Bc X t y,X.P.underlying ty with
   | .slice (some ⟨_,_,some _⟩) m _,.slice none _ _,some (.slice _)=>match CS ops o t,Bg ⟨fn,t,n,.G0 ops (o::l)::k,ds,false,kd,rd⟩ (.bool true),Bg ⟨fn,t,n,.G0 ops (o::l)::k,ds,false,kd,rd⟩ (.bool false)with
    | some true,some ft,some ff=>some (Nat.blt 0 m,⟨ft,cs,H⟩,⟨ff,cs,H⟩)
    | _,_,_=>none
   | _,_,_=>none
  | _=>none
 | _=>none
theorem Yv {P:Program} {s:Sem Value} {v:Value} {W:World} (h:s.run P W= .ok v W):(do pure (Next.value (←s)):Sem Next).run P W= .ok (.value v) W:=by simp[h]
theorem Lu {X:Ctx} {c ct cf:Ay} {b:Bool} {Φ:Ay→Prop} (h:aN X c=some (b,ct,cf)) (ht:b=false→Φ ct) (hf:Φ cf):Reach X c Φ:=by
 unfold aN at h
 split at h
 rotate_left
 ·cases h
 rename_i fn t n ops o l k ds kd rd cs H
 split at h
 rotate_left
 ·cases h
 rename_i ty x y yt ho
 split at h
 rotate_left
 ·cases h
 rename_i bb off j m cap nl nc e hx hy hu
 split at h
 rotate_left
 ·cases h
 rename_i ft ff hw hft hff
 cases h
 intro base W0 hok hplan cs0 μ fr cs' W hm
 obtain⟨hH,hlaid,g,gs,hfr,hcs,hnd⟩:=hm
 cases hfr with
 | plain fn t n tm todo todo' ds ds' r kd rd rd' htm hi hd hrd=>
  cases hi with
  | @cons it it' k1 k1' h1 hk=>
   cases h1 with
   | G0 ops l1 idx hidx=>
    cases idx with
    | nil=>simp at hidx
    | cons i idx=>
     simp only[List.map_cons,List.cons.injEq]at hidx
     have hev:∀x,AH μ (Bc X t x) (Frame.eval ⟨fn,tm,.inRegion ops (i::idx)::k1',ds',.run,kd,rd'⟩ x):=fun x=>HY hlaid htm x
     have hx':=hev x
     have hy':=hev y
     rw[hx]at hx'
     rw[hy]at hy'
     have key:∃bv:Bool,(Nat.blt 0 m=true→bv=false)∧(execOp (Frame.eval ⟨fn,tm,.inRegion ops (i::idx)::k1',ds',.run,kd,rd'⟩) o).run X.P W= .ok (.value (.bool bv)) W:=by
      have he:execOp (Frame.eval ⟨fn,tm,.inRegion ops (i::idx)::k1',ds',.run,kd,rd'⟩) o=(do pure (.value (←(do eqGuard .eql ty x y (Frame.eval ⟨fn,tm,.inRegion ops (i::idx)::k1',ds',.run,kd,rd'⟩ x) (Frame.eval ⟨fn,tm,.inRegion ops (i::idx)::k1',ds',.run,kd,rd'⟩ y);binOp .eql ty (Frame.eval ⟨fn,tm,.inRegion ops (i::idx)::k1',ds',.run,kd,rd'⟩ x) (Frame.eval ⟨fn,tm,.inRegion ops (i::idx)::k1',ds',.run,kd,rd'⟩ y))))):=by simp only[execOp,ho]
      have go:∀bv:Bool,Ft X.P .eql ty (Frame.eval ⟨fn,tm,.inRegion ops (i::idx)::k1',ds',.run,kd,rd'⟩ x) (Frame.eval ⟨fn,tm,.inRegion ops (i::idx)::k1',ds',.run,kd,rd'⟩ y)=some (.bool bv)→
       (execOp (Frame.eval ⟨fn,tm,.inRegion ops (i::idx)::k1',ds',.run,kd,rd'⟩) o).run X.P W= .ok (.value (.bool bv)) W:=by
       intro bv hq
       rw[he]
       exact Yv (J7 (x:=x) (y:=y) hq W)
      generalize Frame.eval ⟨fn,tm,.inRegion ops (i::idx)::k1',ds',.run,kd,rd'⟩ x=vx at hx' go
      generalize Frame.eval ⟨fn,tm,.inRegion ops (i::idx)::k1',ds',.run,kd,rd'⟩ y=vy at hy' go
      cases hy'
      cases hx' with
      | Bt=>exact⟨false,fun _=>rfl,go false (by simp[Ft,EO,BX,hu])⟩
      | Cl=>exact⟨false,fun _=>rfl,go false (by simp[Ft,EO,BX,hu])⟩
      | DC _ _ _ T a _ _=>
       cases a with
       | none=>exact⟨true,fun h=>absurd (Nat.le_of_ble_eq_true h) (by omega),go true (by simp[Ft,EO,BX,hu])⟩
       | some p=>exact⟨false,fun _=>rfl,go false (by simp[Ft,EO,BX,hu])⟩
      | Fe _ _ _ T a _ _=>
       cases a with
       | none=>exact⟨true,fun h=>absurd (Nat.le_of_ble_eq_true h) (by omega),go true (by simp[Ft,EO,BX,hu])⟩
       | some p=>exact⟨false,fun _=>rfl,go false (by simp[Ft,EO,BX,hu])⟩
     obtain⟨bv,hb,hrun⟩:=key
     have hst:=X9 (cs:=cs'++cs0) hidx.1 (I7 htm hw) (fun c e=>by rw[ho]at e;cases e) hrun (.inl rfl)
     have hfr:FH X μ H [] ⟨fn,t,n,.G0 ops (o::l)::k,ds,false,kd,rd⟩ ⟨fn,tm,.inRegion ops (i::idx)::k1',ds',.run,kd,rd'⟩:=
      .plain fn t n tm _ _ ds ds' false kd rd rd' htm (.cons (.G0 ops (o::l) (i::idx) (by simp[hidx.1,hidx.2])) hk) hd hrd
     cases bv with
     | true=>
      refine⟨_,ht ?_,μ,_,cs',W,.one hst,hH,hlaid,[],gs,Ce hfr (.bool true) hft,hcs,hnd⟩
      cases hq:Nat.blt 0 m
      ·rfl
      ·have:=hb hq;cases this
     | false=>exact⟨_,hf,μ,_,cs',W,.one hst,hH,hlaid,[],gs,Ce hfr (.bool false) hff,hcs,hnd⟩
noncomputable def bI (X:Ctx) (pf:Pf) (f:FuncId) (ids:List Nat) (Q:Value→List (Option AJ)→Prop) (n:Nat):Ay→Prop:=
 Nat.rec (motive:=fun _=>Ay→Prop) (fun _=>False) (fun _ ih c=>match EX X f c with
  | some (v,H)=>Q v ((ids++Af 4 v).map H.get)
  | none=>match aN X c with
   | some (b,ct,cf)=>bif b then ih cf else(ih ct∧ih cf)
   | none=>Gi X pf c ih) n
theorem dH {X:Ctx} {pf:Pf} (hpf:FD X pf) {f:FuncId} {ids:List Nat} {Q:Value→List (Option AJ)→Prop}:∀(n:Nat) (c:Ay),bI X pf f ids Q n c→B8 X f (fun v H=>Q v ((ids++Af 4 v).map H.get)) c:=by
 intro n
 induction n with
 | zero=>intro c h;cases h
 | succ n ih=>
  intro c h
  have h:(match EX X f c with
   | some (v,H)=>Q v ((ids++Af 4 v).map H.get)
   | none=>match aN X c with
    | some (b,ct,cf)=>bif b then bI X pf f ids Q n cf else(bI X pf f ids Q n ct∧bI X pf f ids Q n cf)
    | none=>Gi X pf c (bI X pf f ids Q n)):=h
  split at h
  ·rename_i v H e;exact Reach.here ⟨v,H,e,h⟩
  ·split at h
   ·rename_i b ct cf hq
    cases hb:b
    ·simp only[hb,cond_false]at h
     exact Reach.bind (Lu (Φ:=fun c'=>bI X pf f ids Q n c') hq (fun _=>h.1) h.2) ih
    ·simp only[hb,cond_true]at h
     exact Reach.bind (Lu (Φ:=fun c'=>bI X pf f ids Q n c') hq (fun e=>by rw[hb]at e;cases e) h) ih
   ·exact Reach.bind (Hl hpf h) ih
end Go.AD
