/-
  Part of the proof: the machine that runs a program by fixed orders, and that each of its runs is a run of the model; or a run of it in parts. No conditions.
-/
import Derived.Test.YtbojbpalkegahaaGreatDoorIdSim5
import Derived.Test.YtbojbpalkegahaaGreatDoorIdVec
import Derived.Test.YtbojbpalkegahaaGreatDoorChecked
import Derived.Test.YtbojbpalkegahaaGreatDoorIdIop
noncomputable section
set_option maxRecDepth 1000000
namespace Go.AI
section
variable {X:Ctx} {base:Env} {W0:World} {μ:Ai} {H:AA} {W:World}
theorem Rq {o:Oper} {fr:Ah} {cs:List Ah} {c':A8} (hc:B0 X.P o≠2) (h:Jp X o fr cs H=some c'):∃v H' fr1,Jw X.P (Bs X fr.tmps) o H=some (v,H')/\B2 fr v=some fr1/\c'=⟨fr1,cs,H'⟩:=by
 have key:(match Jw X.P (Bs X fr.tmps) o H with
  | some (v,H')=>match B2 fr v with
   | some fr'=>some (⟨fr',cs,H'⟩:A8)
   | none=>none
  | none=>none)=some c'->∃v H' fr1,Jw X.P (Bs X fr.tmps) o H=some (v,H')/\B2 fr v=some fr1/\c'=⟨fr1,cs,H'⟩:=by
  intro hm;split at hm
  ·rename_i v H' hio;split at hm
   ·rename_i fr1 hfin;cases hm
    exact⟨v,H',fr1,hio,hfin,rfl⟩
   ·cases hm
  ·cases hm
 unfold Jp at h;split at h
 ·rename_i c hop;split at h
  ·rename_i b hcal;cases hb:isRec b
   ·simp only[hb,cond_false]at h;exact key h
   ·exfalso;apply hc
    unfold B0;rw[hop];simp only[hcal];cases b<;>first | rfl | cases hb
  ·rename_i f hcal;exfalso;apply hc
   unfold B0;rw[hop];simp only[hcal]
  ·cases h
 ·rename_i c hop;exact absurd hop (O0 hc c)
 ·exact key h
theorem Ey.ahead {ops:Array Oper} {t:Tr Value} {n i d:Nat} {tm:Array Value} {D:List Nat} {rest:List PE} {idx:List Nat} {G G':List (Nat × Nat)} {o:Oper} {v:Value} {H':AA} (ho:ops[i]? = some o) (hd:o.dst=some d) (hdn:d < n) (hcls:B0 X.P o≠2)
 (h:Ey X μ H ops t n tm D (.op i o::rest) idx G (Dm X H t (.op i o::rest))) (hext:KA H H') (hn:H.next<=H'.next)
 (hG:∀p∈G,p∈G') (hnew:K4 X μ H' ops (t.put d (some v)) G' (Dm X H' (t.put d (some v)) rest) i o) (hgnd:(G'.map Prod.snd).Nodup) (hglt:∀b∈G'.map Prod.snd,b < H'.next):
 Ey X μ H' ops (t.put d (some v)) n tm (i::D) rest idx G' (Dm X H' (t.put d (some v)) rest):=by
 obtain⟨hiD,hdeps,hok,_⟩:=GC h.Wl;refine⟨h.stat,fun e he=>h.wf e (by simp[he]),hok,h.LK,?_,?_,h.sz,?_,?_,?_,hgnd,hglt⟩
 ·intro j oj hj hnj;obtain⟨h1,h2⟩:=h.WQ j oj hj hnj;exact⟨by simp[h1],h2⟩
 ·intro j oj hj hjD q hq;rcases List.mem_cons.1 hjD with rfl | hjD
  ·rw[ho]at hj;cases hj;simp[hdeps q hq]
  ·simp[h.bB j oj hj hjD q hq]
 ·intro u hu;have hui:i∈idx:=by
   rcases Classical.em (i∈idx)with q | q
   ·exact q
   ·exact absurd (h.WQ i o ho q).1 hiD
  have hne:u≠d:=by rintro rfl;exact hu i o ho (by simp) hui hd
  rw[Dw _ _ hne];exact h.tmp u fun j oj hj hjD hji=>hu j oj hj (by simp[hjD]) hji
 ·intro j oj hj hjD hji;rcases List.mem_cons.1 hjD with rfl | hjD
  ·rw[ho]at hj;cases hj;exact hnew
  ·have hap:=h.apart ho hiD hd hj hjD (fun q=>absurd q hcls);have hlook:∀u,u≠d->look (t.put d (some v)) u=look t u:=fun u hu=>Dw _ _ hu
   have hr:∀u∈Dj ops oj,look (t.put d (some v)) u=look t u:=fun u hu=>hlook u (by rintro rfl;exact hap.1 hu)
   have hdj:∀q,oj.dst=some q->look (t.put d (some v)) q=look t q:=fun q hq=>hlook q (by rintro rfl;exact hap.2 hq)
   have hp:K4 X μ H ops (t.put d (some v)) G (Dm X H' (t.put d (some v)) rest) j oj:=by
    refine(h.Zi j oj hj hjD hji).congr hr hdj fun q hq _ hc0 hf=>?_
    rcases hf with hf | ⟨H1,hf⟩
    ·simp[lead]at hf
    ·refine .inr ⟨H',?_⟩;rw[Kg hr,hdj q hq];exact(Nb hc0 hf).2 H' hext
   obtain⟨q,h1,h0,h2⟩:=hp;refine⟨q,h1,h0,?_⟩;rcases h2 with h2 | h2 | ⟨a,b,c,hc,obj,mk,e1,e2,e3,e4,e5⟩
   ·exact .inl h2
   ·exact .inr (.inl h2)
   ·exact .inr (.inr ⟨a,b,c,hG _ hc,obj,mk,e1,e2,Nat.lt_of_lt_of_le e3 hn,e4,hext _ _ e5⟩)
 ·intro j oj q hj hjD hq;rcases List.mem_cons.1 hjD with rfl | hjD
  ·rw[ho]at hj;cases hj
   rw[hd]at hq;cases hq;exact hdn
  ·exact h.bC j oj q hj hjD hq
theorem Vc (hok:EA X base W0) {fn:FuncId} {t:Tr Value} {n:Nat} {tm:Array Value} {ops:Array Oper} {Bu:List PE} {idx D:List Nat} {G:List (Nat × Nat)} {k:List CN} {k':List Item} {ds ds':List Deferred} {kd:CallKind} {rd rd':Option Nat}
 {cs:List Ah} {cs' cs0:List Frame} {gs:List Nat} {c':A8} (hH:AT base W0 μ H W) (hlaid:Bp X μ) (hD:Ey X μ H ops t n tm D Bu idx G (Dm X H t Bu)) (hk:DM μ k k') (hd:CQ μ ds ds') (hr:Fx μ rd rd')
 (hcs:Dh X μ H gs cs cs') (hnd:(G.map Prod.snd++gs).Nodup) (h:D8 X ⟨⟨fn,t,n,.Dp ops Bu::k,ds,false,kd,rd⟩,cs,H⟩=some c'):
 Ck X base W0 cs0 c' (lone ⟨fn,tm,.inRegion ops idx::k',ds',.run,kd,rd'⟩ (cs'++cs0) W):=by
 unfold D8 at h;simp only[cond_false]at h;cases Bu with
 | nil=>
  simp only[Option.some.injEq]at h;subst h;have hall:∀j∈idx,j∈D:=by
   intro j hj;have hlt:∀(l:List Nat),TU ops l->∀j∈l,j < ops.size:=by
    intro l;induction l with
    | nil=>intro _ j hj;cases hj
    | cons a l ih=>
     intro ht j hj;obtain⟨⟨o,ho,_⟩,_,h3⟩:=ht;rcases List.mem_cons.1 hj with rfl | hj
     ·exact(Array.getElem?_eq_some_iff.1 ho).1
     ·exact ih h3 j hj
   have hok:=hD.Wl;unfold Dq at hok;exact EI.1 (List.all_eq_true.1 hok j (by simpa using hlt idx hD.LK j hj))
  obtain⟨μ1,W1,tm1,G1,q1,q2,q3,q4⟩:=ZM (fn:=fn) (k':=k') (ds':=ds') (kd:=kd) (rd':=rd') (cs:=cs'++cs0) (gs:=gs) rfl idx μ W tm G hH hlaid hD hall hnd;refine⟨μ1,_,cs',W1,q1.trans (.one Lg),q2,hlaid.mono q4.le,[],gs,.plain fn t n tm1 k k' ds ds' false kd rd rd' ⟨q3.sz,fun u=>q3.tmp u fun _ _ _ _ hm=>by cases hm⟩ (hk.mono q4.le) (hd.mono q4.le) (hr.mono q4.le),hcs.mono q4,(List.nodup_append.1 hnd).2.1⟩
 | cons e rest=>
  cases e with
  | Ni j o=>
   simp only at h;have hoj:ops[j]? = some o:=hD.wf (.Ni j o) (by simp);have hokp:=hD.Wl;unfold Dq at hokp;simp only[Bool.and_eq_true]at hokp;have hwf:Gs ops rest:=fun e he=>hD.wf e (by simp[he])
   have fin:(∀d,o.dst=some d->Cj ops o t=some true->B0 X.P o=0->∃H1,Jw X.P (Bs X t) o H=some (look t d,H1))->c'=⟨⟨fn,t,n,.Dp ops rest::k,ds,false,kd,rd⟩,cs,H⟩->
    Ck X base W0 cs0 c' (lone ⟨fn,tm,.inRegion ops idx::k',ds',.run,kd,rd'⟩ (cs'++cs0) W):=by
    rintro hfact rfl;refine⟨μ,_,cs',W,.refl _ _,hH,hlaid,G.map Prod.snd,gs,.drawn fn t n tm ops rest idx D G k k' ds ds' kd rd rd' ⟨hD.stat,hwf,hokp.2,hD.LK,hD.WQ,hD.bB,hD.sz,hD.tmp,fun i oi hi hiD hii=>?_,hD.bC,hD.Wn,hD.Wj⟩ hk hd hr,hcs,hnd⟩;refine(hD.Zi i oi hi hiD hii).congr (fun _ _=>rfl) (fun _ _=>rfl) fun d hdd hw hc0 hf=>?_
    rcases hf with hf | hf
    ·simp only[lead,List.mem_cons]at hf;rcases hf with rfl | hf
     ·rw[hoj]at hi;cases hi
      exact .inr (hfact d hdd hw hc0)
     ·exact .inl hf
    ·exact .inr hf
   split at h
   ·rename_i hw;split at h
    ·rename_i d v H1 hdd hio;cases hs:IF 8 v (look t d)
     ·simp[hs]at h
     ·simp only[hs,cond_true,Option.some.injEq]at h;refine fin (fun d2 hd2 _ _=>?_) h.symm;rw[hdd]at hd2;cases hd2
      exact⟨H1,by rw[hio,R5 8 _ _ hs]⟩
    ·cases h
   ·rename_i hw;simp only[Option.some.injEq]at h;exact fin (fun d _ hw2 _=>by rw[hw]at hw2;cases hw2) h.symm
   ·cases h
  | op i o=>
   simp only at h;have hoi:ops[i]? = some o:=hD.wf (.op i o) (by simp);obtain⟨hiD,hdeps,hokr,hX⟩:=GC hD.Wl;have hii:i∈idx:=by
    rcases Classical.em (i∈idx)with q | q
    ·exact q
    ·exact absurd (hD.WQ i o hoi q).1 hiD
   by_cases hcls:B0 X.P o=2
   ·
    obtain⟨μ1,W1,tm1,G1,idx1,q1,q2,q3,q4,q5⟩:=aL (fn:=fn) (k':=k') (ds':=ds') (kd:=kd) (rd':=rd') (cs:=cs'++cs0) (gs:=gs) hcls idx μ W tm G hH hlaid hD hii hnd;have hlaid1:=hlaid.mono q4.le;have hcs1:=hcs.mono q4;have hnd1:(G1.map Prod.snd++gs).Nodup:=hnd.sublist (q5.append (List.Sublist.refl _));have hsus:=q3.suspend hcls hoi;have hfr:∀ds1 ds1',CQ μ1 ds1 ds1'->HR X μ1 H (G1.map Prod.snd) ⟨fn,t,n,.Dp ops (.op i o::rest)::k,ds1,false,kd,rd⟩ ⟨fn,tm1,.inRegion ops (i::idx1)::k',ds1',.run,kd,rd'⟩:=fun ds1 ds1' hd1=>
     .Mq fn t n tm1 ops i o rest idx1 D G1 k k' ds1 ds1' kd rd rd' hoi hsus (hk.mono q4.le) hd1 (hr.mono q4.le)
    have hreads:=q3.reads hoi;have hwant:∀b,Cj ops o t=some b->Region.wanted o (yielded ops tm1)=b:=fun b hb=>IP (fun q w u hg hu=>hreads u (Ik hg hu)) hb
    have after:∀{m:Machine},Ck X base W0 cs0 c' m->Steps X.P (lone ⟨fn,tm,.inRegion ops idx::k',ds',.run,kd,rd'⟩ (cs'++cs0) W) m->Ck X base W0 cs0 c' (lone ⟨fn,tm,.inRegion ops idx::k',ds',.run,kd,rd'⟩ (cs'++cs0) W):=by
     rintro m ⟨a1,a2,a3,a4,a5,a6⟩ hs;exact⟨a1,a2,a3,a4,hs.trans a5,a6⟩
    split at h
    ·rename_i hw;refine after (RW hok q2 hlaid1 hoi (hd.mono q4.le) (hr.mono q4.le) hcs1 hnd1 hfr (fun x hx=>LC hlaid1 x fun u hu=>hreads u (K9 (by rw[<-hu];exact hx))) (hwant true hw) h) q1
    ·rename_i hw;split at h
     ·rename_i fr1 hfin;cases h
      refine after ⟨μ1,_,cs',W1,.one (Mx hoi (hwant false hw)),q2,hlaid1,G1.map Prod.snd,gs,C6 (hfr ds ds' (hd.mono q4.le)) (AM.undef μ1) hfin,hcs1,hnd1⟩ q1
     ·cases h
    ·cases h
   ·
    obtain⟨d,hdd⟩:=Yk hD.stat hoi hcls;have hcl01:B0 X.P o=0∨B0 X.P o=1:=by
     have:B0 X.P o<=2:=by
      unfold B0;split<;>first | omega | (cases (QS X.P _).isSome<;>decide) | (cases GZ X.P _<;>decide) | (split<;>first | omega | (split<;>omega))
     omega
    have hself:∀u∈Dj ops o,u≠d:=fun u hu e=>(Jr hD.stat hoi hoi hu (by rw[e];exact hdd)).elim (fun q=>hiD (hdeps i q)) fun q=>hcls q.1
    have hrd:∀v:Value,∀u∈Dj ops o,look (t.put d (some v)) u=look t u:=fun v u hu=>Dw _ _ (hself u hu)
    have hfinI:∀v fr1,B2 ⟨fn,t,n,.Dp ops (.op i o::rest)::k,ds,false,kd,rd⟩ v=some fr1->d < n/\fr1=⟨fn,t.put d (some v),n,.Dp ops rest::k,ds,false,kd,rd⟩:=by
     intro v fr1 hf;unfold B2 at hf;rw[I6]at hf;simp only[hdd]at hf;cases hlt:Nat.blt d n
     ·simp[hlt]at hf
     ·simp only[hlt,cond_true,Option.some.injEq]at hf;exact⟨Nat.le_of_ble_eq_true hlt,hf.symm⟩
    split at h
    ·rename_i hw;obtain⟨v,H',fr1,hio,hfin,rfl⟩:=Rq hcls h;obtain⟨hdn,rfl⟩:=hfinI v fr1 hfin;have hio0:Jw X.P (Bs X t) o H=some (v,H'):=hio;rcases hcl01 with hc | hc
     ·obtain⟨rfl,_⟩:=Nb hc hio0;refine⟨μ,_,cs',W,.refl _ _,hH,hlaid,G.map Prod.snd,gs,.drawn fn _ n tm ops rest idx (i::D) G k k' ds ds' kd rd rd' (hD.ahead hoi hdd hdn hcls (fun _ _ hb=>hb) (Nat.le_refl _) (fun _ hp=>hp) ⟨d,hdd,hcls,.inr (.inl ⟨by rw[FN (hrd v)];exact hw,hc,.inr ⟨H',?_⟩⟩)⟩ hD.Wn hD.Wj) hk hd hr,hcs,hnd⟩;rw[Kg (hrd v),Db];exact hio0
     ·obtain⟨obj,mk,rfl,rfl,h3,h4,_⟩:=Uu hc hio0;have hfresh:=hH.fresh H.next (Nat.le_refl _);have hnG:H.next∉G.map Prod.snd:=fun hm=>Nat.lt_irrefl _ (hD.Wj _ hm)
      have hngs:H.next∉gs:=fun hm=>Nat.lt_irrefl _ (hcs.lt _ hm)
      have hext:=KA.alloc hH obj;have hkeep:EJ gs μ H μ (H.alloc obj):=⟨Ai.le_refl _,by simp[AA.alloc],fun b _ hb hm=>⟨hm,by rw[AA.AW,if_neg (by omega)]⟩⟩;refine⟨μ,_,cs',W,.refl _ _,hH.ghost obj,hlaid,((i,H.next)::G).map Prod.snd,gs,.drawn fn _ n tm ops rest idx (i::D) ((i,H.next)::G) k k' ds ds' kd rd rd' (hD.ahead hoi hdd hdn hcls hext (by simp[AA.alloc]) (fun _ hp=>by simp[hp])
       ⟨d,hdd,hcls,.inr (.inr ⟨by rw[FN (hrd _)];exact hw,hc,H.next,by simp,obj,mk,Db _ _ _,fun H2=>by rw[Kg (hrd _)];exact h3 H2,by simp[AA.alloc],hfresh.2,by rw[AA.AW,if_pos rfl]⟩)⟩
       (by simp only[List.map_cons,List.nodup_cons];exact⟨hnG,hD.Wn⟩) ?_) hk hd hr,hcs.mono hkeep,?_⟩
      ·intro b hb;simp only[List.map_cons,List.mem_cons]at hb;rcases hb with rfl | hb
       ·simp[AA.alloc]
       ·have:=hD.Wj b hb;simp only[AA.alloc];omega
      ·simp only[List.map_cons,List.cons_append,List.nodup_cons];exact⟨fun hm=>(List.mem_append.1 hm).elim hnG hngs,hnd⟩
    ·rename_i hw;split at h
     ·rename_i fr1 hfin;cases h
      obtain⟨hdn,rfl⟩:=hfinI _ fr1 hfin;exact⟨μ,_,cs',W,.refl _ _,hH,hlaid,G.map Prod.snd,gs,.drawn fn _ n tm ops rest idx (i::D) G k k' ds ds' kd rd rd' (hD.ahead hoi hdd hdn hcls (fun _ _ hb=>hb) (Nat.le_refl _) (fun _ hp=>hp) ⟨d,hdd,hcls,.inl ⟨by rw[FN (hrd _)];exact hw,Db _ _ _⟩⟩ hD.Wn hD.Wj) hk hd hr,hcs,hnd⟩
     ·cases h
    ·cases h
end
section
variable {X:Ctx} {base:Env} {W0:World} {μ:Ai} {H:AA} {W:World}
theorem SI (hok:EA X base W0) (hplan:Fo X) {c c':A8} {fr:Frame} {cs' cs0:List Frame} (hm:Il X base W0 μ c fr cs' W) (h:D8 X c=some c'):
 Ck X base W0 cs0 c' (lone fr (cs'++cs0) W):=by
 obtain⟨hH,hlaid,g,gs,hfr,hcs,hnd⟩:=hm;obtain⟨f0,cs,H⟩:=c;simp only at hH hfr hcs;cases hfr with
 | drawn fn t n tm ops Bu idx D G k k' ds ds' kd rd rd' hD hk hd hr=>exact Vc hok hH hlaid hD hk hd hr hcs hnd h
 | plain fn t n tm todo todo' ds ds' r kd rd rd' ht hi hd hrd=>
  unfold D8 at h;simp only at h;cases r with
  | true=>
   simp only[cond_true]at h;exact RH hH hlaid ht hi hd hrd hcs hnd h
  | false=>
   simp only[cond_false]at h;have fin:∀(k2:List CN) (k2':List Item) ,DM μ k2 k2'->step X.P (lone ⟨fn,tm,todo',ds',.run,kd,rd'⟩ (cs'++cs0) W)= .next (lone ⟨fn,tm,k2',ds',.run,kd,rd'⟩ (cs'++cs0) W)->
    c'=⟨⟨fn,t,n,k2,ds,false,kd,rd⟩,cs,H⟩->Ck X base W0 cs0 c' (lone ⟨fn,tm,todo',ds',QT false,kd,rd'⟩ (cs'++cs0) W):=by
    rintro k2 k2' hk2 hs rfl;exact⟨μ,_,cs',W,.one hs,hH,hlaid,[],gs,.plain fn t n tm k2 k2' ds ds' false kd rd rd' ht hk2 hd hrd,hcs,hnd⟩
   cases hi with
   | nil=>exact J6 hH hlaid ht .nil hd hrd hcs hnd (.inl ⟨rfl,rfl⟩) h
   | @cons it it' k k' h1 hk=>
    simp only at h;cases h1 with
    | JX ops l idx hidx=>
     simp only at h;split at h
     ·cases idx with
      | nil=>exact fin k k' hk Lg (by cases h;rfl)
      | cons i idx=>simp at hidx
     ·rename_i o rest;cases idx with
      | nil=>simp at hidx
      | cons i idx=>
       simp only[List.map_cons,List.cons.injEq]at hidx;split at h
       ·rename_i hw;refine RW hok hH hlaid hidx.1 hd hrd hcs hnd (fun ds1 ds1' hd1=> .plain fn t n tm _ _ ds1 ds1' false kd rd rd' ht (.cons (.JX ops _ _ (by simp[hidx.1,hidx.2])) hk) hd1 hrd) (fun x _=>Ki hlaid ht x) (KB ht hw) h
       ·rename_i hw;split at h
        ·rename_i fr1 hfin;cases h
         refine⟨μ,_,cs',W,.one (Mx hidx.1 (KB ht hw)),hH,hlaid,[],gs,?_,hcs,hnd⟩;exact C6 (.plain fn t n tm _ _ ds ds' false kd rd rd' ht (.cons (.JX ops (o::rest) (i::idx) (by simp[hidx.1,hidx.2])) hk) hd hrd) (AM.undef μ) hfin
        ·cases h
       ·cases h
    | code c=>
     simp only at h;split at h
     ·rename_i a b;exact fin _ _ (.cons (.code a) (.cons (.code b) hk)) ib (by cases h;rfl)
     ·rename_i id ops;exact fin _ _ (.cons (.JX ops ops.toList _ (VO ops)) hk) YD (by cases h;rfl)
     ·rename_i id ops;split at h
      ·rename_i p hp;cases h
       obtain⟨hmix,hpl⟩:=hplan;obtain⟨q1,q2,q3⟩:=hpl ops p hp;obtain⟨s1,s2⟩:=Yu q2 q3 (W.tape W.drawn (.order fn id));have hdr:=fD (P:=X.P) (W:=W) (fn:=fn) (tm:=tm) (k:=k') (ds:=ds') (kd:=kd) (rd:=rd') (cs:=cs'++cs0) (id:=id) (ops:=ops);rw[hmix]at hdr;refine⟨μ,_,cs',_,.one hdr,hH.drawn _,hlaid,[],gs,?_,hcs,hnd⟩;refine .drawn fn t n tm ops p _ [] [] k k' ds ds' kd rd rd' ⟨q1,q2,q3,s1,fun i o ho hni=>absurd (s2 i (Array.getElem?_eq_some_iff.1 ho).1) hni,(fun _ _ _ h=>by cases h),ht.1,fun u _=>ht.2 u,(fun _ _ _ h=>by cases h),(fun _ _ _ _ h=>by cases h),by simp,fun b hb=>by simp at hb⟩ hk hd hrd
      ·cases h
     ·rename_i cnd a b;have hev:=Ki (fr:=⟨fn,tm,.code (.cond cnd a b)::k',ds',.run,kd,rd'⟩) hlaid ht cnd;split at h
      ·rename_i x hx;rw[hx]at hev;have hev':Frame.eval ⟨fn,tm,.code (.cond cnd a b)::k',ds',.run,kd,rd'⟩ cnd= .bool x:=by
        generalize Frame.eval ⟨fn,tm,.code (.cond cnd a b)::k',ds',.run,kd,rd'⟩ cnd=q at hev;cases hev;rfl
       exact fin _ _ (.cons (.code _) hk) (fy hev') (by cases h;rfl)
      ·cases h
     ·exact fin _ _ hk eQ (by cases h;rfl)
     ·exact fin _ _ hk bU (by cases h;rfl)
     ·rename_i id b;exact fin _ _ (.cons (.code b) (.cons (.inBlock id) hk)) Zx (by cases h;rfl)
     ·rename_i b;exact fin _ _ (.cons (.code b) (.cons (.inLoop b) hk)) ec (by cases h;rfl)
     ·rename_i b;exact fin _ _ (.cons (.code b) (.cons (.inScope b) hk)) aj (by cases h;rfl)
     ·rename_i id;have hex:=Sc (id:=id) hk;split at h
      ·rename_i k2 hq;obtain⟨k2',q1,q2⟩:=hex.1 k2 hq;exact fin _ _ q2 (eY q1) (by cases h;rfl)
      ·rename_i hq;exact J6 hH hlaid ht (.cons (.code _) hk) hd hrd hcs hnd (.inr (.inr ⟨id,k',rfl,hex.2 hq,rfl⟩)) h
     ·exact J6 hH hlaid ht (.cons (.code _) hk) hd hrd hcs hnd (.inr (.inl ⟨k',rfl,rfl⟩)) h
     ·rename_i f ps a b;split at h
      ·rename_i l;cases hrd with
       | some _ T hT=>
        split at h
        ·rename_i q hget;obtain⟨o',ho',hor⟩:=hH.obj l _ hget T hT;cases hor with
         | loop _ aa R hta hda=>
          have hal:=hH.alloc (T:=⟨W.heap.size,0,0,0⟩) (o:= .loop ⟨.ready,none,fn,t,n,ps,a,b,q.defers⟩) rfl (.loop ⟨W.heap.size,0,0,0⟩ ⟨.ready,none,fn,t,n,ps,a,b,q.defers⟩ tm R ht hda);obtain⟨g1,g2⟩:=hal;refine Jf hok (mark:=[]) (T:=⟨W.heap.size,0,0,0⟩) g1 (hlaid.mono g2.le) (ht.mono g2.le) (hk.mono g2.le) (hd.mono g2.le) (.some l T (g2.le _ _ hT)) (hcs.mono (g2.keeps gs)) hnd (Ai.Av _ _ _) (N9 ho') h
        ·cases h
      ·cases hrd
       have hal1:=hH.alloc (T:=⟨W.heap.size,0,0,0⟩) (o:= .deferred (some [])) (o':= .deferred (some [])) rfl (.deferred _ [] [] .nil);obtain⟨g1,g2⟩:=hal1;have hal2:=g1.alloc (T:=⟨W.heap.size+1,0,0,0⟩) (o:= .loop ⟨.ready,none,fn,t,n,ps,a,b,H.next⟩) (by simp) (.loop ⟨W.heap.size+1,0,0,0⟩ ⟨.ready,none,fn,t,n,ps,a,b,H.next⟩ tm ⟨W.heap.size,0,0,0⟩ (ht.mono g2.le) (Ai.Av _ _ _));obtain⟨g3,g4⟩:=hal2;have g5:=g2.trans g4;refine Jf hok (mark:=[{ target:= .collected W.heap.size,args:=#[] }]) (T:=⟨W.heap.size+1,0,0,0⟩) g3 (hlaid.mono g5.le) (ht.mono g5.le) (hk.mono g5.le) ?_ .none (hcs.mono (g5.keeps gs)) hnd (Ai.Av _ _ _) N7 h;exact .cons ⟨.collected H.next ⟨W.heap.size,0,0,0⟩ (g4.le _ _ (Ai.Av _ _ _)),.nil⟩ (hd.mono g5.le)
     ·cases h
    | inBlock id=>exact fin _ _ hk We (by cases h;rfl)
    | inScope b=>exact fin _ _ hk Vs (by cases h;rfl)
    | inLoop b=>exact fin _ _ (.cons (.code b) (.cons (.inLoop b) hk)) Y8 (by cases h;rfl)
    | inRangeFunc l T hT=>cases h
    | beginRound=>
     simp only at h;split at h
     ·rename_i l;cases hrd with
      | some _ T hT=>
       split at h
       ·rename_i q hget;split at h
        ·rename_i hst;cases h
         obtain⟨r,hr,hst',hpe,hput⟩:=NJ hH hget hT;obtain⟨p1,p2⟩:=hput .busy q.pending;refine⟨μ,_,cs',_,.one (PS hr (by rw[hst',hst])),?_,hlaid,[],gs,.plain fn t n tm k k' ds ds' false kd (some l) (some T.c) ht hk hd (.some l T hT),hcs.mono (p2.keeps gs),hnd⟩;have e1:({ r with state:=LoopState.busy }:Loop)={ r with state:= .busy,pending:=q.pending }:=by rw[<-hpe]
         rw[e1];exact p1
        ·cases h
       ·cases h
     ·cases h
    | endRangeFunc l T hT=>
     simp only at h;split at h
     ·rename_i q hget;obtain⟨r,hr,hst',hpe,hput⟩:=NJ hH hget hT;obtain⟨p1,p2⟩:=hput .exhausted q.pending;have p1':AT base W0 μ (H.put l (.loop { q with state:= .exhausted })) { W with heap:=W.heap.setIfInBounds T.c (.loop { r with state:= .exhausted }) }:=by
       have e1:({ r with state:=LoopState.exhausted }:Loop)={ r with state:= .exhausted,pending:=q.pending }:=by rw[<-hpe]
       rw[e1];exact p1
      split at h
      ·cases h
      ·rename_i hnb;have hs:r.state≠ .busy:=by rw[hst'];exact hnb
       have hce:=VM (P:=X.P) (fn:=fn) (tm:=tm) (k:=k') (ds:=ds') (kd:=kd) (rd:=rd') (cs:=cs'++cs0) hr hs;split at h
       ·rename_i hp;cases h
        have htd:(r.pending.map Item.code).toList++k'=k':=by rw[hpe,hp];rfl
        rw[htd]at hce;exact⟨μ,_,cs',_,.one hce,p1',hlaid,[],gs,.plain fn t n tm k k' ds ds' false kd rd rd' ht hk hd hrd,hcs.mono (p2.keeps gs),hnd⟩
       ·rename_i j hp;cases h
        have htd:(r.pending.map Item.code).toList++k'= .code j::k':=by rw[hpe,hp];rfl
        rw[htd]at hce;exact⟨μ,_,cs',_,.one hce,p1',hlaid,[],gs,.plain fn t n tm _ _ ds ds' false kd rd rd' ht (.cons (.code j) hk) hd hrd,hcs.mono (p2.keeps gs),hnd⟩
     ·cases h
end
section
variable {X:Ctx} {base:Env} {W0:World} {μ:Ai} {H:AA} {W:World}
theorem Vj (n:Nat) (c:A8):Zg X (n+1) c=match D8 X c with
 | some c'=>Zg X n c'
 | none=>none:=rfl
theorem cT (hok:EA X base W0) (hplan:Fo X) {cs0:List Frame}:∀(n:Nat) (c c':A8) (μ:Ai) (fr:Frame) (cs:List Frame) (W:World),Zg X n c=some c'->Il X base W0 μ c fr cs W->
 ∃μ' fr1 cs1 W1,Steps X.P (lone fr (cs++cs0) W) (lone fr1 (cs1++cs0) W1)/\Il X base W0 μ' c' fr1 cs1 W1:=by
 intro n;induction n with
 | zero=>intro c c' μ fr cs W h hm;cases h;exact⟨μ,fr,cs,W,.refl _ _,hm⟩
 | succ n ih=>
  intro c c' μ fr cs W h hm;rw[Vj]at h;split at h
  ·rename_i c1 hs;obtain⟨μ1,fr1,cs1,W1,s1,m1⟩:=SI (cs0:=cs0) hok hplan hm hs;obtain⟨μ2,fr2,cs2,W2,s2,m2⟩:=ih c1 c' μ1 fr1 cs1 W1 h m1;exact⟨μ2,fr2,cs2,W2,s1.trans s2,m2⟩
  ·cases h
def DX (X:Ctx) (f:FuncId) (c:A8):Option (Value × AA):=
 match c with
 | ⟨⟨fn,t,_,todo,ds,r,kd,_⟩,cs,H⟩=>
  match cs,ds,r,kd,todo with
  | [],[],true,.normal,_=>bif Nat.beq fn f then
   match Ig X fn t H with
   | some v=>some (v,H)
   | none=>none
   else none
  | _,_,_,_,_=>none
def G3 (f:FuncId) (t:Tr Value) (n:Nat) (code:Code) (H:AA):A8:=⟨⟨f,t,n,[.code code],[],false,.normal,none⟩,[],H⟩
theorem GB (hH:AT base W0 μ H W) (hlaid:Bp X μ) {f:FuncId} {n:Nat} {code:Code} (he:entry X.P f=some (n,code)) {args:List Value} {args':Array Value} (ha:BD μ args args'.toList) (hn:args.length<=n):
 Il X base W0 μ (G3 f (Cb 0 args .leaf) n code H) (Frame.enter X.P f args' .normal) [] W:=by
 refine⟨hH,hlaid,[],[],?_,.nil,by simp⟩;rw[NN he];exact .plain f _ n _ _ _ [] [] false .normal none none (Lc ha hn) (.cons (.code code) .nil) .nil .none
theorem HA {f:FuncId} {c:A8} {fr:Frame} {cs:List Frame} {v:Value} {H':AA} (hm:Il X base W0 μ c fr cs W) (hd:DX X f c=some (v,H')):
 cs=[]/\fr.fn=f/\∃v',fr.leaving X.P W (.returned v')/\AT base W0 μ H' W/\AM μ v v':=by
 obtain⟨hH,hlaid,g,gs,hfr,hcs,hnd⟩:=hm;unfold DX at hd;obtain⟨⟨fn,t,n,todo,ds,r,kd,rd⟩,cs1,H1⟩:=c;simp only at hd hfr hcs hH;split at hd
 ·rename_i x1 x2 x3 x4 x5;cases hcs
  cases hb:Nat.beq fn f
  ·simp[hb]at hd
  ·simp only[hb,cond_true]at hd;have hf:=Nat.eq_of_beq_eq_true hb;split at hd
   ·rename_i v0 hres;cases hd
    cases hfr with
    | plain _ _ _ tm _ todo' _ ds' _ _ _ rd' ht hi hdd hr=>
     cases hdd
     obtain⟨fn',v',h1,h2,h3⟩:=Lk hH ht hres;exact⟨rfl,hf,v',⟨rfl,rfl,rfl,fn',h1,h2⟩,hH,h3⟩
   ·cases hd
 ·cases hd
def Gi:List (Nat × List Value)->Nat->AA
 | [],n=>⟨.leaf,n⟩
 | (g,cs)::r,n=>(Gi r n).put g (.cells cs 0 true)
inductive Ox:List Value->List Value->Prop where
 | plain (l:List Value) (h:l.all flat=true):Ox l l
 | iface (te:TypeId) (pe:Value):Ox [Bn] [.iface te pe]
def Ds (X:Ctx) (base:Env) (W0:World):Prop:=(X.laid.map Prod.fst).Nodup/\∀p∈X.laid,base.K p.1/\∃a t fz,W0.heap[p.1]? = some (.cells a t fz)/\Ox p.2 a.toList
def NF (l:List (Nat × List Value)):Ai:=fun b=>match l.find? (fun p=>Nat.beq b p.1)with
 | some p=>some ⟨p.1,0,p.2.length,0⟩
 | none=>none
theorem Hm (l:List (Nat × List Value)) (n:Nat):(Gi l n).next=n:=by
 induction l with
 | nil=>rfl
 | cons p l ih=>exact ih
theorem HZ:∀(l:List (Nat × List Value)) (n b:Nat) (o:AK),(l.map Prod.fst).Nodup->(Gi l n).get b=some o->∃cs,(b,cs)∈l/\o= .cells cs 0 true:=by
 intro l;induction l with
 | nil=>intro n b o _ h;simp[Gi,AA.get,Tr.M0]at h
 | cons p l ih=>
  intro n b o hnd h;obtain⟨g,cs⟩:=p;simp only[Gi]at h;rw[AA.AQ]at h;simp only[List.map_cons,List.nodup_cons]at hnd
  by_cases e:b=g
  ·subst e;rw[if_pos rfl]at h;cases h;exact⟨cs,by simp,rfl⟩
  ·rw[if_neg e]at h;obtain⟨cs',h1,h2⟩:=ih n b o hnd.2 h;exact⟨cs',by simp[h1],h2⟩
theorem JQ {l:List (Nat × List Value)} (_hnd:(l.map Prod.fst).Nodup) {b:Nat} {T:B7} (h:NF l b=some T):∃cs,(b,cs)∈l/\T=⟨b,0,cs.length,0⟩:=by
 unfold NF at h;split at h
 ·rename_i p hp;cases h
  have h1:=List.find?_some hp;have h2:=List.mem_of_find?_eq_some hp;have e:=Nat.eq_of_beq_eq_true h1;obtain⟨g,cs⟩:=p;simp only at e;subst e;exact⟨cs,h2,rfl⟩
 ·cases h
theorem mem_unique {l:List (Nat × List Value)} (hnd:(l.map Prod.fst).Nodup) {b:Nat} {x y:List Value} (h1:(b,x)∈l) (h2:(b,y)∈l):x=y:=by
 induction l with
 | nil=>cases h1
 | cons p l ih=>
  simp only[List.map_cons,List.nodup_cons]at hnd;rcases List.mem_cons.1 h1 with e1 | h1'<;>rcases List.mem_cons.1 h2 with e2 | h2'
  ·rw[<-e1]at e2;cases e2;rfl
  ·exact absurd (List.mem_map.2 ⟨_,h2',rfl⟩) (by rw[<-e1]at hnd;exact hnd.1)
  ·exact absurd (List.mem_map.2 ⟨_,h1',rfl⟩) (by rw[<-e2]at hnd;exact hnd.1)
  ·exact ih hnd.2 h1' h2'
theorem ES:∀(l:List Value),l.all flat=true->BD μ l l
 | [],_=> .nil
 | a::l,h=>by
  simp only[List.all_cons,Bool.and_eq_true]at h;exact .cons (Cp h.1) (ES l h.2)
theorem Ox.rel {l l':List Value} (h:Ox l l') (μ:Ai):BD μ l l':=by
 cases h with
 | plain _ hf=>exact ES _ hf
 | iface te pe=>exact .cons (.Bn _) .nil
theorem NT (hW:Ds X base W0) (hmu:base.dF.le (NF X.laid)) (hsz:∀i,base.K i->i < W0.heap.size) {n:Nat} (hn:∀p∈X.laid,p.1 < n):AT base W0 (NF X.laid) (Gi X.laid n) W0/\Bp X (NF X.laid):=by
 obtain⟨hnd,hall⟩:=hW;refine⟨⟨?_,?_,?_,?_,?_,hsz,fun _ _=>rfl,rfl,rfl,?_,hmu,Nat.le_refl _⟩,?_⟩
 ·intro b o hb T hT;obtain⟨cs,h1,rfl⟩:=HZ _ _ _ _ hnd hb;obtain⟨cs',h2,rfl⟩:=JQ hnd hT;obtain rfl:=mem_unique hnd h1 h2;obtain⟨_,a,t,fz,ha,hl⟩:=hall _ h1;have hrel:=hl.rel (NF X.laid);have hlen:=hrel.length;have hlen:cs.length=a.toList.length:=hlen;refine⟨_,ha,.cells _ _ _ true a t fz.1 fz.2 rfl ?_ ?_ (fun e=>by cases e)⟩
  ·show BD _ cs (List.take cs.length (List.drop 0 a.toList));rw[List.drop_zero,hlen,List.take_length];exact hrel
  ·have hlen:cs.length=a.toList.length:=hlen;have e:a.toList.length=a.size:=rfl;show a.size=0+cs.length;omega
 ·intro b o hb hr T hT;obtain⟨cs,h1,rfl⟩:=HZ _ _ _ _ hnd hb;cases hr
 ·intro b1 b2 o1 o2 _ _ T1 T2 h1 h2 _ _ hc;obtain⟨_,_,rfl⟩:=JQ hnd h1;obtain⟨_,_,rfl⟩:=JQ hnd h2;exact fun _=>hc
 ·intro b hb;rw[Hm]at hb;refine⟨?_,?_⟩
  ·cases hg:(Gi X.laid n).get b with
   | none=>rfl
   | some o=>
    obtain⟨cs,h1,_⟩:=HZ _ _ _ _ hnd hg;have:=hn _ h1;simp only at this;omega
  ·cases hg:NF X.laid b with
   | none=>rfl
   | some T=>
    obtain⟨cs,h1,_⟩:=JQ hnd hg;have:=hn _ h1;simp only at this;omega
 ·intro b T hT;obtain⟨cs,h1,rfl⟩:=JQ hnd hT;exact hsz _ (hall _ h1).1
 ·refine⟨fun _ _=>False,?_,?_⟩
  ·intro b a ro T hb;obtain⟨cs,h1,e⟩:=HZ _ _ _ _ hnd hb;cases e
  ·intro b a ro T hb;obtain⟨cs,h1,e⟩:=HZ _ _ _ _ hnd hb;cases e
 ·intro g hg;obtain⟨p,hp,he⟩:=List.any_eq_true.1 hg;have e:=Nat.eq_of_beq_eq_true he;cases hm:NF X.laid g with
  | none=>
   unfold NF at hm;split at hm
   ·cases hm
   ·rename_i hf;rw[List.find?_eq_none]at hf;exact absurd he (hf p hp)
  | some T=>
   obtain⟨cs,h1,rfl⟩:=JQ hnd hm;exact⟨_,rfl,rfl,rfl⟩
def Env.at (base:Env) (W:World):Env:={ base with K:=fun i=>i < W.heap.size,dF:=fun _=>none }
theorem none_le (μ:Ai):Ai.le (fun _=>none) μ:=fun _ _ h=>by cases h
theorem AT.carry {W':World} (h:AT base W0 μ H W) (hs:W.heap.size<=W'.heap.size) (hold:∀i,i < W.heap.size->W'.heap[i]? = W.heap[i]?) (ho:W'.output=W.output) (hos:W'.os=W.os):AT base W0 μ H W':=
 ⟨fun b o hb T hT=>let ⟨o',h1,h2⟩:=h.obj b o hb T hT;⟨o',by rw[hold _ (h.bound b T hT)];exact h1,h2⟩,h.own,h.inj,h.fresh,fun b T hT=>Nat.lt_of_lt_of_le (h.bound b T hT) hs,fun i hi=>Nat.lt_of_lt_of_le (h.size i hi) hs,
  fun i hi=>by rw[hold i (h.size i hi)];exact h.below i hi,by rw[ho];exact h.out,by rw[hos];exact h.os,
  let ⟨φ,q⟩:=h.abs;⟨φ,fun b a ro T h1 h2=>let ⟨r1,r2⟩:=q.rep b a ro T h1 h2;⟨DH.loc _ _ _ _ _ hs r1 (fun i hi=>hold i ((DH.Gf _ _ _ _ r1).2 i hi)),r2⟩,q.ER⟩,h.le,Nat.le_trans h.grow hs⟩
theorem Ds.carry (hW:Ds X base W0) (h:AT base W0 μ H W):Ds X (base.at W) W:=by
 refine⟨hW.1,fun p hp=>?_⟩;obtain⟨h1,a,t,fz,h3,h4⟩:=hW.2 p hp;exact⟨h.size _ h1,a,t,fz,by rw[h.below _ h1];exact h3,h4⟩
theorem F0 {b0:Env} {W W':World} {μ':Ai} {H':AA} (h:AT (b0.at W) W μ' H' W'):W.heap.size<=W'.heap.size:=h.grow
end
theorem cr {P:Program} {ops:Array Oper} {done:List Nat} {x:Oper}:Gs ops (TN P ops.toList done x):=by
 intro e he;unfold TN at he;obtain⟨j,_,hj⟩:=List.mem_filterMap.1 he;split at hj
 ·rename_i o ho;cases hb:(Nat.beq (B0 P o) 0&& !((Jq ops.toList x).any (Nat.beq j)))
  ·rw[hb]at hj;cases hj
  ·rw[hb]at hj;cases hj
   show ops[j]? = some o;rw[<-Array.getElem?_toList];exact ho
 ·cases hj
theorem VN {P:Program} {ops:Array Oper}:∀(f:Nat) (done:List Nat) (p:List PE),LV P ops.toList f done=some p->Gs ops p:=by
 have key:∀{q:Oper × Nat->Bool} {o:Oper} {i:Nat},ops.toList.zipIdx.find? q=some (o,i)->ops[i]? = some o:=by
  intro q o i h;have:=List.mem_of_find?_eq_some h;have:=List.mem_zipIdx_iff_getElem?.1 this;rw[<-Array.getElem?_toList];exact this
 intro f;induction f with
 | zero=>
  intro done p h;unfold LV at h;cases hb:Nat.beq done.length ops.toList.length
  ·rw[hb]at h;cases h
  ·rw[hb]at h;cases h;intro e he;cases he
 | succ f ih=>
  intro done p h;unfold LV at h;split at h
  ·rename_i o i hf;rw[Option.map_eq_some_iff]at h;obtain⟨r,hr,rfl⟩:=h;intro e he;rcases List.mem_cons.1 he with rfl | he
   ·exact key hf
   ·exact ih _ _ hr e he
  ·split at h
   ·rename_i o i hf;rw[Option.map_eq_some_iff]at h;obtain⟨r,hr,rfl⟩:=h;intro e he;rcases List.mem_cons.1 he with rfl | he
    ·exact key hf
    ·rcases List.mem_append.1 he with he | he
     ·exact cr e he
     ·exact ih _ _ hr e he
   ·cases h
theorem GA {X:Ctx} (hm:X.P.follows .mixedOrders=true) (hp:X.Bu=J4 X.P):Fo X:=by
 refine⟨hm,fun ops p h=>?_⟩;rw[hp]at h;unfold J4 at h;split at h
 ·rename_i p' hg;cases hb:(Jx X.P ops&&Dq X.P ops [] p')
  ·rw[hb]at h;cases h
  ·rw[hb]at h;cases h
   rw[Bool.and_eq_true]at hb;exact⟨hb.1,VN _ _ _ hg,hb.2⟩
 ·cases h
def Jl (m:Tr AK):List Nat->Tr AK
 | []=> .leaf
 | i::r=>(Jl m r).put i (m.get i)
def Ld:List CN->Bool
 | .Dp _ _::_=>false
 | _=>true
def PY:Value->Option Nat
 | .pointer (some ⟨b,_,_⟩)=>some b
 | .slice (some ⟨b,_,_⟩) _ _=>some b
 | _=>none
def Hu (P:Program) (ids:List Nat) (f:Ah):Bool:=
 match f.todo with
 | .Dp ops _::_=>ops.toList.all fun o=> !(Nat.beq (B0 P o) 1)||(match o.dst with
  | some d=>match PY (look f.tmps d)with
   | some b=>ids.any (Nat.beq b)
   | none=>true
  | none=>true)
 | _=>true
def Np (P:Program) (ids:List Nat) (c:A8):Bool:=Ld c.fr.todo&&c.cs.all fun f=>Hu P ids f
def shrink (P:Program) (ids:List Nat) (c:A8):Option A8:=
 match c with
 | ⟨fr,cs,H⟩=>bif Np P ids ⟨fr,cs,H⟩then some ⟨fr,cs,⟨Jl H.m ids,H.next⟩⟩else none
def TJ (X:Ctx) (n:Nat) (ids:List Nat) (c:A8):Option A8:=
 match Zg X n c with
 | some c'=>shrink X.P ids c'
 | none=>none
def MF:List Nat->Tr Value->Tr Value
 | [],t=>t
 | i::r,t=>(MF r t).put i (some Bn)
def forget (l:List Nat) (c:A8):Option A8:=
 match c with
 | ⟨⟨fn,t,n,todo,ds,r,kd,rd⟩,cs,H⟩=>bif Ld todo then some ⟨⟨fn,MF l t,n,todo,ds,r,kd,rd⟩,cs,H⟩else none
inductive Iw (X:Ctx):A8->A8->Prop where
 | run {c c':A8} (n:Nat) (h:Zg X n c=some c'):Iw X c c'
 | shrink {c c':A8} (ids:List Nat) (h:Go.AI.shrink X.P ids c=some c'):Iw X c c'
 | forget {c c':A8} (l:List Nat) (h:Go.AI.forget l c=some c'):Iw X c c'
 | trans {c c1 c2:A8} (h:Iw X c c1) (h':Iw X c1 c2):Iw X c c2
theorem Iw.TJ {X:Ctx} {c c':A8} {n:Nat} {ids:List Nat} (h:TJ X n ids c=some c'):Iw X c c':=by
 unfold AI.TJ at h;split at h
 ·rename_i c1 h1;exact .trans (.run n h1) (.shrink ids h)
 ·cases h
theorem Vl (m:Tr AK):∀(ids:List Nat) (b:Nat) (o:AK),(Jl m ids).get b=some o->m.get b=some o:=by
 intro ids;induction ids with
 | nil=>intro b o h;simp[Jl,Tr.M0]at h
 | cons i r ih=>
  intro b o h;simp only[Jl]at h;rw[Tr.AQ]at h
  by_cases e:b=i
  ·subst e;rw[if_pos rfl]at h;exact h
  ·rw[if_neg e]at h;exact ih b o h
section
variable {X:Ctx} {base:Env} {W0:World} {μ:Ai} {H:AA} {W:World}
theorem AT.sub {H':AA} (h:AT base W0 μ H W) (hs:∀b o,H'.get b=some o->H.get b=some o) (hn:H'.next=H.next):AT base W0 μ H' W:=
 ⟨fun b o hb=>h.obj b o (hs b o hb),fun b o hb=>h.own b o (hs b o hb),fun b1 b2 o1 o2 h1 h2=>h.inj b1 b2 o1 o2 (hs _ _ h1) (hs _ _ h2),
  fun b hb=>(by
   have hb':H.next<=b:=by rw[<-hn];exact hb
   refine⟨?_,(h.fresh b hb').2⟩;cases hg:H'.get b with
   | none=>rfl
   | some o=>
    have:=(h.fresh b hb').1;rw[hs _ _ hg]at this;cases this),
  h.bound,h.size,h.below,h.out,h.os,
  let ⟨φ,q⟩:=h.abs;⟨φ,fun b' a ro T' h1 h2=>q.rep b' a ro T' (hs _ _ h1) h2,fun b' a ro T' h1 h2 b2 o2 T2 h3 h4 h5=>q.ER b' a ro T' (hs _ _ h1) h2 b2 o2 T2 (hs _ _ h3) h4 h5⟩,h.le,h.grow⟩
theorem ZO (m:Tr AK):∀(ids:List Nat) (b:Nat),b∈ids->(Jl m ids).get b=m.get b:=by
 intro ids;induction ids with
 | nil=>intro b h;cases h
 | cons i r ih=>
  intro b h;simp only[Jl,Tr.AQ]
  by_cases e:b=i
  ·rw[if_pos e,e]
  ·rw[if_neg e];rcases List.mem_cons.1 h with h | h
   ·exact absurd h e
   ·exact ih b h
theorem Sd {P:Program} {ρ:Operand->Value} {o:Oper} {H H':AA} {v:Value} (hc:B0 P o=1) (hi:Jw P ρ o H=some (v,H')):PY v=some H.next:=by
 have hv:=UP (ρ:=ρ) hc H;unfold Jw at hi;rw[hv]at hi;simp only at hi;cases ho:o.op<;>simp only[B0,ho]at hc<;>try (first | (cases hc;done) | (split at hc<;>cases hc;done))
 all_goals simp only[MA,ho]at hi
 ·split at hi
  ·cases hi;rfl
  ·cases hi
 ·rename_i t x;cases hn:DO (ρ x)
  ·simp[hn]at hi
  ·simp only[hn,cond_true,Option.some.injEq,Prod.mk.injEq]at hi;obtain⟨rfl,_⟩:=hi;rfl
 ·rename_i t len parts;cases hn:(Nat.blt len AF&&parts.toList.all (fun p=>DO (ρ p.2)))
  ·simp only[hn,cond_false]at hi;cases hi
  ·simp only[hn,cond_true,Ff]at hi;cases hu:P.underlying t with
   | none=>simp[hu]at hi
   | some d=>
    cases d<;>simp only[hu]at hi<;>try (cases hi;done)
    rename_i e;cases hs:DK P e with
    | none=>simp[hs]at hi
    | some n=>
     cases hz:GO P e with
     | none=>simp[hs,hz]at hi
     | some z=>
      simp only[hs,hz]at hi;cases hq:Nat.beq (len * n) 0
      ·simp only[hq,cond_false]at hi;cases hb:Nat.ble (len * n) 16777216
       ·simp only[hb,cond_false]at hi;cases hi
       ·simp only[hb,cond_true,Option.map_eq_some_iff]at hi;obtain⟨l,_,he⟩:=hi;cases he;rfl
      ·simp only[hq,cond_true]at hi;split at hi
       ·cases hi;rfl
       ·cases hi
 ·simp only[Ga]at hi;split at hi
  ·split at hi
   ·rename_i i z _ _;rename_i l c _ _;revert hi;generalize (Nat.ble _ _&&Nat.ble _ _&&Nat.blt _ _)=q;cases q
    ·intro hi;cases hi
    ·intro hi;cases hi;rfl
   ·cases hi
  ·cases hi
theorem HR.kept {ids:List Nat} {g:List Nat} {f:Ah} {f':Frame} (h:HR X μ H g f f') (hg:Hu X.P ids f=true):HR X μ ⟨Jl H.m ids,H.next⟩ g f f':=by
 cases h with
 | plain fn t n tm todo todo' ds ds' r kd rd rd' ht hi hd hr=>exact .plain fn t n tm todo todo' ds ds' r kd rd rd' ht hi hd hr
 | Mq fn t n tm ops x o rest idx D G k k' ds ds' kd rd rd' ho hD hkk hd hr=>
  simp only[Hu,List.all_eq_true]at hg;refine .Mq fn t n tm ops x o rest idx D G k k' ds ds' kd rd rd' ho ⟨hD.stat,hD.wf,hD.Wl,hD.LK,hD.WQ,hD.bB,hD.sz,hD.tmp,?_,hD.bC,hD.Wn,hD.Wj⟩ hkk hd hr;intro i o' ho' h1 h2;obtain⟨d,e1,e0,e2⟩:=hD.Zi i o' ho' h1 h2;refine⟨d,e1,e0,?_⟩;rcases e2 with e2 | e2 | ⟨e2,e3,b,hb,obj,mk,a1,a2,a3,a4,a5⟩
  ·exact .inl e2
  ·exact .inr (.inl e2)
  ·refine .inr (.inr ⟨e2,e3,b,hb,obj,mk,a1,a2,a3,a4,?_⟩);have hm:o'∈ops.toList:=by
    rw[<-Array.getElem?_toList]at ho';exact List.mem_of_getElem? ho'
   have hk:=hg o' hm;have hbl:PY (look t d)=some b:=by
    rw[a1];exact Sd e3 (a2 ⟨.leaf,b⟩)
   simp only[e3,e1,hbl,Nat.beq_refl,Bool.not_true,Bool.false_or,List.any_eq_true]at hk;obtain⟨b',hb',hbb⟩:=hk;have hbe:=Nat.eq_of_beq_eq_true hbb;subst hbe;show(Jl H.m ids).get b=some obj;rw[ZO _ _ _ hb'];exact a5
theorem Dh.kept {ids:List Nat} {gs:List Nat} {l:List Ah} {l':List Frame} (h:Dh X μ H gs l l') (hg:l.all (fun f=>Hu X.P ids f)=true):Dh X μ ⟨Jl H.m ids,H.next⟩ gs l l':=by
 induction h with
 | nil=>exact .nil
 | cons h _ ih=>
  simp only[List.all_cons,Bool.and_eq_true]at hg;exact .cons (h.kept hg.1) (ih hg.2)
theorem S7 {ids:List Nat} {c c':A8} {fr:Frame} {cs:List Frame} (h:shrink X.P ids c=some c') (hm:Il X base W0 μ c fr cs W):Il X base W0 μ c' fr cs W:=by
 obtain⟨f,l,H⟩:=c;unfold shrink at h;cases hb:Np X.P ids ⟨f,l,H⟩
 ·simp only[hb,cond_false]at h;cases h
 ·simp only[hb,cond_true]at h;cases h
  simp only[Np,Bool.and_eq_true]at hb;obtain⟨h1,h2,g,gs,h3,h4,h5⟩:=hm;refine⟨h1.sub (fun b o=>Vl H.m ids b o) rfl,h2,g,gs,?_,h4.kept hb.2,h5⟩;simp only at h3 hb;cases h3 with
  | plain fn t n tm todo todo' ds ds' r kd rd rd' ht hi hd hr=>exact .plain fn t n tm todo todo' ds ds' r kd rd rd' ht hi hd hr
  | drawn fn t n tm ops Bu idx D G k k' ds ds' kd rd rd' hD hk hd hr=>have:=hb.1;cases this
theorem Q4 {n:Nat} {tm:Array Value}:∀(l:List Nat) {t:Tr Value},FJ μ t n tm->FJ μ (MF l t) n tm:=by
 intro l;induction l with
 | nil=>intro t h;exact h
 | cons i r ih=>
  intro t h;have h1:=ih h;refine⟨h1.1,fun u=>?_⟩;simp only[MF]
  by_cases e:u=i
  ·subst e;rw[Db];exact .Bn _
  ·rw[Dw _ _ e];exact h1.2 u
theorem TX {l:List Nat} {c c':A8} {fr:Frame} {cs:List Frame} (h:forget l c=some c') (hm:Il X base W0 μ c fr cs W):Il X base W0 μ c' fr cs W:=by
 obtain⟨⟨fn,t,n,todo,ds,r,kd,rd⟩,l1,H⟩:=c;unfold forget at h;simp only at h;cases hb:Ld todo
 ·simp only[hb,cond_false]at h;cases h
 ·simp only[hb,cond_true]at h;cases h
  obtain⟨h1,h2,g,gs,h3,h4,h5⟩:=hm;refine⟨h1,h2,g,gs,?_,h4,h5⟩;simp only at h3;cases h3 with
  | plain _ _ _ tm _ todo' _ ds' _ _ _ rd' ht hi hd hr=>exact .plain fn _ n tm todo todo' ds ds' r kd rd rd' (Q4 l ht) hi hd hr
  | drawn _ _ _ tm ops Bu idx D G k k' _ ds' _ _ rd' hD hk hd hr=>cases hb
theorem Ra (hok:EA X base W0) (hplan:Fo X) {cs0:List Frame} {c c':A8} (hg:Iw X c c'):∀(μ:Ai) (fr:Frame) (cs:List Frame) (W:World),Il X base W0 μ c fr cs W->
 ∃μ' fr1 cs1 W1,Steps X.P (lone fr (cs++cs0) W) (lone fr1 (cs1++cs0) W1)/\Il X base W0 μ' c' fr1 cs1 W1:=by
 induction hg with
 | run n h=>intro μ fr cs W hm;exact cT hok hplan n _ _ μ fr cs W h hm
 | shrink ids h=>intro μ fr cs W hm;exact⟨μ,fr,cs,W,.refl _ _,S7 h hm⟩
 | forget l h=>intro μ fr cs W hm;exact⟨μ,fr,cs,W,.refl _ _,TX h hm⟩
 | trans _ _ ih1 ih2=>
  intro μ fr cs W hm;obtain⟨μ1,fr1,cs1,W1,s1,m1⟩:=ih1 μ fr cs W hm;obtain⟨μ2,fr2,cs2,W2,s2,m2⟩:=ih2 μ1 fr1 cs1 W1 m1;exact⟨μ2,fr2,cs2,W2,s1.trans s2,m2⟩
theorem T5 (hok:EA X base W0) (hplan:Fo X) (hH:AT base W0 μ H W) (hlaid:Bp X μ) {f:FuncId} {n:Nat} {code:Code} (he:entry X.P f=some (n,code)) {args:List Value} {args':Array Value} (ha:BD μ args args'.toList) (hn:args.length<=n)
 {c':A8} {v:Value} {H':AA} (hrun:Iw X (G3 f (Cb 0 args .leaf) n code H) c') (hd:DX X f c'=some (v,H')):
 Calls X.P f args' W fun e W'=>∃v' μ',e= .returned v'/\AT base W0 μ' H' W'/\AM μ' v v':=by
 intro cs;obtain⟨μ',fr,cs1,W1,hs,hm⟩:=Ra (cs0:=cs) hok hplan hrun μ _ [] W (GB hH hlaid he ha hn);obtain⟨rfl,hf,v',h1,h2,h3⟩:=HA hm hd;have hs':Steps X.P (lone (Frame.enter X.P f args' .normal) cs W) (lone fr cs W1):=by simpa using hs
 exact⟨.returned v',W1,fr,⟨v',μ',rfl,h2,h3⟩,hs',hf,h1⟩
theorem Vr (Y:Ctx) (hP:Y.P=X.P) (hL:Y.laid=X.laid) (hW:Ds X base W0) (hok:∀base W0,Ds Y base W0->EA Y base W0) (hplan:Fo Y) {f:FuncId} {n N:Nat} {code:Code} (he:entry Y.P f=some (n,code)) {args:List Value} (hfl:args.all flat=true)
 (hn:args.length<=n) (hN:∀p∈Y.laid,p.1 < N) {c':A8} {v:Value} {H1:AA} (hrun:Iw Y (G3 f (Cb 0 args .leaf) n code (Gi Y.laid N)) c') (hd:DX Y f c'=some (v,H1)) (hv:flat v=true)
 (hH:AT base W0 μ H W) {args':Array Value} (ha:BD μ args args'.toList):Calls X.P f args' W fun e W'=>∃v' μ',e= .returned v'/\AT base W0 μ' H W'/\AM μ' v v'/\Ak μ H μ' H:=by
 have hW1:Ds Y (base.at W) W:=by
  have:=hW.carry hH;unfold Ds at this ⊢;rw[hL];exact this
 obtain⟨s1,s2⟩:=NT (X:=Y) hW1 (none_le _) (fun _ hi=>hi) hN;have hargs:args'.toList=args:=G9 args _ hfl ha;have hc:=T5 (args':=args') (hok _ _ hW1) hplan s1 s2 he (by rw[hargs];exact ES args hfl) hn hrun hd;rw[hP]at hc;refine hc.mono fun e W' ⟨v',μ',h1,h2,h3⟩=>⟨v',μ,h1,hH.carry (F0 h2) h2.below h2.out h2.os,?_,Ak.refl _ _⟩
 rw[FL hv h3];exact Cp hv
end
structure Ow where
 f:FuncId
 args:List Value
 v:Value
def Tz (k:Ow):Cn:=fun args H=>bif Is (IF 8) args k.args then some (k.v,H)else none
def JL (P:Program) (laid:List (Nat × List Value)) (k:Ow):Prop:=
 (∃n c,entry P k.f=some (n,c))/\∀base W0 μ H W (args':Array Value),Ds ⟨P,laid,fun _=>none,J4 P⟩ base W0->AT base W0 μ H W->BD μ k.args args'.toList->
  Calls P k.f args' W fun e W'=>∃v' μ',e= .returned v'/\AT base W0 μ' H W'/\AM μ' k.v v'/\Ak μ H μ' H
def Gr:List (Nat × Value)->Tr Value
 | []=> .leaf
 | (i,v)::r=>(Gr r).put i (some v)
def jk:List (Nat × AK)->Tr AK
 | []=> .leaf
 | (i,v)::r=>(jk r).put i (some v)
def L4:Code->List Nat->Code
 | c,[]=>c
 | .seq a b,i::r=>bif Nat.beq i 0 then L4 a r else L4 b r
 | .cond _ a b,i::r=>bif Nat.beq i 0 then L4 a r else L4 b r
 | .block _ b,_::r=>L4 b r
 | .loop b,_::r=>L4 b r
 | .scope b,_::r=>L4 b r
 | .rangeFunc _ _ a b,i::r=>bif Nat.beq i 0 then L4 a r else L4 b r
 | c,_::_=>c
def BI (P:Program) (f:FuncId) (l:List Nat):Code:=match entry P f with
 | some (_,c)=>L4 c l
 | none=> .skip
def opsOf:Code->Array Oper
 | .region _ ops _=>ops
 | _=>#[]
def IG (c:Code) (k:Nat):CN:= .JX (opsOf c) ((opsOf c).toList.drop k)
def eH (P:Program) (c:Code) (k:Nat):CN:= .Dp (opsOf c) (match J4 P (opsOf c)with
 | some p=>p.drop k
 | none=>[])
def Y2 (k:IntKind) (w:Nat):Nat->Nat->List Value
 | 0,_=>[]
 | n+1,m=> .int k (Int.ofNat (m % w))::Y2 k w n (m / w)
def gY (l:List Nat):ByteArray:=⟨⟨l.map UInt8.ofNat⟩⟩
def pt (b o:Nat):Value:= .pointer (some ⟨b,o,none⟩)
def sl (b o l c:Nat):Value:= .slice (some ⟨b,o,none⟩) l c
def i5 (n m:Nat):List Value:=Y2 .u64 18446744073709551616 n m
theorem OD {laid:List (Nat × List Value)} {N:Nat} (h:laid.all (fun p=>Nat.blt p.1 N)=true):∀p∈laid,p.1 < N:=fun p hp=>Nat.le_of_ble_eq_true (List.all_eq_true.1 h p hp)
theorem Xv {P:Program} {f:FuncId} {n:Nat} {c:Code} (h:entry P f=some (n,c)):entry P f=some (n,BI P f []):=by
 have hc:L4 c []=c:=by cases c<;>rfl
 unfold BI;rw[h];show _=some (n,L4 c []);rw[hc]
def Ut (P:Program) (laid:List (Nat × List Value)) (k:Ow) (n N:Nat):Bool:=
 P.follows .mixedOrders&&k.args.all flat&&Nat.ble k.args.length n&&laid.all (fun p=>Nat.blt p.1 N)&&flat k.v&&(match entry P k.f with
  | some (m,_)=>Nat.beq m n
  | none=>false)
section
variable {X:Ctx} {base:Env} {W0:World} {μ:Ai} {H:AA} {W:World}
def Mj (X:Ctx) (c c':A8):Prop:=∀(base:Env) (W0:World),EA X base W0->Fo X->∀(cs0:List Frame) (μ:Ai) (fr:Frame) (cs:List Frame) (W:World),Il X base W0 μ c fr cs W->Ck X base W0 cs0 c' (lone fr (cs++cs0) W)
theorem Mj.refl (X:Ctx) (c:A8):Mj X c c:=fun _ _ _ _ _ μ fr cs W hm=>⟨μ,fr,cs,W,.refl _ _,hm⟩
theorem Mj.trans {c c1 c2:A8} (h:Mj X c c1) (h':Mj X c1 c2):Mj X c c2:=by
 intro base W0 hok hplan cs0 μ fr cs W hm;obtain⟨μ1,fr1,cs1,W1,s1,m1⟩:=h base W0 hok hplan cs0 μ fr cs W hm;obtain⟨μ2,fr2,cs2,W2,s2,m2⟩:=h' base W0 hok hplan cs0 μ1 fr1 cs1 W1 m1;exact⟨μ2,fr2,cs2,W2,s1.trans s2,m2⟩
theorem Mj.step {c c':A8} (h:D8 X c=some c'):Mj X c c':=fun _ _ hok hplan _ _ _ _ _ hm=>SI hok hplan hm h
theorem Mj.ke {c c':A8} (h:Iw X c c'):Mj X c c':=fun _ _ hok hplan _ μ fr cs W hm=>Ra hok hplan h μ fr cs W hm
def Reach (X:Ctx) (c:A8) (Φ:A8->Prop):Prop:=∀(base:Env) (W0:World),EA X base W0->Fo X->∀(cs0:List Frame) (μ:Ai) (fr:Frame) (cs:List Frame) (W:World),Il X base W0 μ c fr cs W->∃c',Φ c'/\Ck X base W0 cs0 c' (lone fr (cs++cs0) W)
theorem Reach.here {c:A8} {Φ:A8->Prop} (h:Φ c):Reach X c Φ:=fun _ _ hok hplan cs0 μ fr cs W hm=>⟨c,h,Mj.refl X c _ _ hok hplan cs0 μ fr cs W hm⟩
theorem Mj.reach {c c':A8} {Φ:A8->Prop} (h:Mj X c c') (hΦ:Φ c'):Reach X c Φ:=fun _ _ hok hplan cs0 μ fr cs W hm=>⟨c',hΦ,h _ _ hok hplan cs0 μ fr cs W hm⟩
theorem Reach.bind {c:A8} {Φ Ψ:A8->Prop} (h:Reach X c Φ) (h':∀c',Φ c'->Reach X c' Ψ):Reach X c Ψ:=by
 intro base W0 hok hplan cs0 μ fr cs W hm;obtain⟨c1,p1,μ1,fr1,cs1,W1,s1,m1⟩:=h base W0 hok hplan cs0 μ fr cs W hm;obtain⟨c2,p2,μ2,fr2,cs2,W2,s2,m2⟩:=h' c1 p1 base W0 hok hplan cs0 μ1 fr1 cs1 W1 m1;exact⟨c2,p2,μ2,fr2,cs2,W2,s1.trans s2,m2⟩
theorem Reach.mono {c:A8} {Φ Ψ:A8->Prop} (h:Reach X c Φ) (hi:∀c',Φ c'->Ψ c'):Reach X c Ψ:=h.bind fun c' hc=> .here (hi c' hc)
theorem Mj.then {c c':A8} {Φ:A8->Prop} (h:Mj X c c') (h':Reach X c' Φ):Reach X c Φ:=Reach.bind (Φ:=fun d=>d=c') (h.reach rfl) fun _ e=>e ▸ h'
theorem Mj.Ni {fn:FuncId} {t:Tr Value} {n:Nat} {ops:Array Oper} {j:Nat} {o:Oper} {rest:List PE} {k:List CN} {ds:List Deferred} {kd:CallKind} {rd:Option Nat} {cs:List Ah} {H:AA}
 (hf:Cj ops o t=some true->∃d H1,o.dst=some d/\Jw X.P (Bs X t) o H=some (look t d,H1)):
 Mj X ⟨⟨fn,t,n,.Dp ops (.Ni j o::rest)::k,ds,false,kd,rd⟩,cs,H⟩ ⟨⟨fn,t,n,.Dp ops rest::k,ds,false,kd,rd⟩,cs,H⟩:=by
 intro base W0 hok hplan cs0 μ fr cs' W hm;obtain⟨hH,hlaid,g,gs,hfr,hcs,hnd⟩:=hm;simp only at hH hfr hcs;cases hfr with
 | plain fn t n tm todo todo' ds ds' r kd rd rd' ht hi hd hrd=>cases hi;rename_i h1 _;cases h1
 | drawn fn t n tm ops Bu idx D G k k' ds ds' kd rd rd' hD hk hd hr=>
  have hoj:ops[j]? = some o:=hD.wf (.Ni j o) (by simp);have hokp:=hD.Wl;unfold Dq at hokp;simp only[Bool.and_eq_true]at hokp;have hwf:Gs ops rest:=fun e he=>hD.wf e (by simp[he])
  refine⟨μ,_,cs',W,.refl _ _,hH,hlaid,G.map Prod.snd,gs,.drawn fn t n tm ops rest idx D G k k' ds ds' kd rd rd' ⟨hD.stat,hwf,hokp.2,hD.LK,hD.WQ,hD.bB,hD.sz,hD.tmp,fun i oi hi hiD hii=>?_,hD.bC,hD.Wn,hD.Wj⟩ hk hd hr,hcs,hnd⟩;refine(hD.Zi i oi hi hiD hii).congr (fun _ _=>rfl) (fun _ _=>rfl) fun d hdd hw hc0 hf2=>?_
  rcases hf2 with hf2 | hf2
  ·simp only[lead,List.mem_cons]at hf2;rcases hf2 with rfl | hf2
   ·rw[hoj]at hi;cases hi
    obtain⟨d2,H1,e1,e2⟩:=hf hw;rw[hdd]at e1;cases e1
    exact .inr ⟨H1,e2⟩
   ·exact .inl hf2
  ·exact .inr hf2
end
def dW {α:Type} (x:Option α) (p:F4):Tr α->(Tr α->Prop)->Prop:=
 F4.rec (motive:=fun _=>Tr α->(Tr α->Prop)->Prop)
  (fun t k=>Tr.casesOn (motive:=fun _=>Prop) t (k (.node .leaf x .leaf)) (fun l _ r=>k (.node l x r)))
  (fun _ ih t k=>Tr.casesOn (motive:=fun _=>Prop) t (ih .leaf fun l=>k (.node l none .leaf)) (fun l v r=>ih l fun l=>k (.node l v r)))
  (fun _ ih t k=>Tr.casesOn (motive:=fun _=>Prop) t (ih .leaf fun r=>k (.node .leaf none r)) (fun l v r=>ih r fun r=>k (.node l v r)))
  p
theorem XR {α:Type} (x:Option α) (p:F4):∀(t:Tr α) (k:Tr α->Prop),dW x p t k=k (t.E9 x p):=by
 induction p with
 | e=>intro t k;cases t<;>rfl
 | z p ih=>intro t k;cases t<;>exact ih _ _
 | o p ih=>intro t k;cases t<;>exact ih _ _
def aq {α:Type} (t:Tr α) (n:Nat) (x:Option α) (k:Tr α->Prop):Prop:=dW x (F4.of n) t k
theorem PT {α:Type} (t:Tr α) (n:Nat) (x:Option α) (k:Tr α->Prop):aq t n x k=k (t.put n x):=XR _ _ _ _
def UB:Nat->List Value->Tr Value->(Tr Value->Prop)->Prop
 | _,[],t,k=>k t
 | i,v::r,t,k=>aq t i (some v) fun t=>UB (i+1) r t k
theorem Qb:∀(l:List Value) (i:Nat) (t:Tr Value) (k:Tr Value->Prop),UB i l t k=k (Cb i l t)
 | [],_,_,_=>rfl
 | v::r,i,t,k=>by simp only[UB,Cb,PT,Qb r]
def I0 (f:Ah) (v:Value):Option Ah:=
 match f with
 | ⟨fn,t,n,todo,ds,r,kd,rd⟩=>
  match todo with
  | .JX ops (o::rest)::k=>
   match o.dst with
   | some d=>bif Nat.blt d n then some ⟨fn,t.put d (some v),n,.JX ops rest::k,ds,r,kd,rd⟩else none
   | none=>some ⟨fn,t,n,.JX ops rest::k,ds,r,kd,rd⟩
  | .Dp ops (.op _ o::rest)::k=>
   match o.dst with
   | some d=>bif Nat.blt d n then some ⟨fn,t.put d (some v),n,.Dp ops rest::k,ds,r,kd,rd⟩else none
   | none=>some ⟨fn,t,n,.Dp ops rest::k,ds,r,kd,rd⟩
  | .inRangeFunc l::k=>some ⟨fn,t,n,.endRangeFunc l::k,ds,r,kd,rd⟩
  | .beginRound::k=>some ⟨fn,t,n,k,ds,r,kd,rd⟩
  | _=>none
theorem Ts (f:Ah) (v:Value):B2 f v=I0 f v:=by
 unfold B2;rw[I6];rfl
def ZQ (f:Ah) (v:Value) (cs:List Ah) (H:AA) (K:A8->Prop):Prop:=
 match f with
 | ⟨fn,t,n,todo,ds,r,kd,rd⟩=>
  match todo with
  | .JX ops (o::rest)::k=>
   match o.dst with
   | some d=>bif Nat.blt d n then aq t d (some v) fun t=>K ⟨⟨fn,t,n,.JX ops rest::k,ds,r,kd,rd⟩,cs,H⟩else False
   | none=>K ⟨⟨fn,t,n,.JX ops rest::k,ds,r,kd,rd⟩,cs,H⟩
  | .Dp ops (.op _ o::rest)::k=>
   match o.dst with
   | some d=>bif Nat.blt d n then aq t d (some v) fun t=>K ⟨⟨fn,t,n,.Dp ops rest::k,ds,r,kd,rd⟩,cs,H⟩else False
   | none=>K ⟨⟨fn,t,n,.Dp ops rest::k,ds,r,kd,rd⟩,cs,H⟩
  | _=>match I0 ⟨fn,t,n,todo,ds,r,kd,rd⟩ v with
   | some f'=>K ⟨f',cs,H⟩
   | none=>False
def OK (f:Ah) (v:Value) (cs:List Ah) (H:AA) (K:A8->Prop):Prop:=
 match v with
 | .bool b=>bif b then ZQ f (.bool true) cs H K else ZQ f (.bool false) cs H K
 | v=>ZQ f v cs H K
def VT.Uc:VT->(Value->AA->Prop)->Prop
 | .fail,_=>False
 | .ret v H,K=>K v H
 | .test c a b,K=>bif c then a.Uc K else b.Uc K
theorem VT.GW {K:Value->AA->Prop}:∀{t:VT},t.Uc K->∃v H',t.run=some (v,H')/\K v H'
 | .fail,h=>by cases h
 | .ret v H,h=>⟨v,H,rfl,h⟩
 | .test c a b,h=>by
  cases c
  ·exact VT.GW (t:=b) h
  ·exact VT.GW (t:=a) h
def gW (P:Program) (ρ:Operand->Value) (o:Oper) (H:AA) (K:Value->AA->Prop):Prop:=
 match SS P ρ o H with
 | some t=>t.Uc K
 | none=>match MA P ρ o H with
  | some (v,H')=>K v H'
  | none=>False
theorem Ws {P:Program} {ρ:Operand->Value} {o:Oper} {H:AA} {K:Value->AA->Prop} (h:gW P ρ o H K):∃v H',Jw P ρ o H=some (v,H')/\K v H':=by
 unfold gW at h;unfold Jw;cases hv:SS P ρ o H with
 | some t=>simp only[hv]at h;exact VT.GW h
 | none=>
  simp only[hv]at h;split at h
  ·rename_i v H' e;exact⟨v,H',e,h⟩
  ·cases h
def Ma (X:Ctx) (f:FuncId) (args:List Value) (kind:CallKind) (fr:Ah) (cs:List Ah) (H:AA) (K:A8->Prop):Prop:=
 match Bd X f args kind H with
 | some (v,H')=>OK fr v cs H' K
 | none=>match entry X.P f with
  | some (n,c)=>bif Nat.ble args.length n then UB 0 args .leaf fun t=>K ⟨⟨f,t,n,[.code c],[],false,kind,none⟩,fr::cs,H⟩else False
  | none=>match GY X f args kind fr cs H with
   | some c'=>K c'
   | none=>False
abbrev EB:=List Value->AA->(Value->AA->Prop)->Prop
abbrev Pf:=FuncId->Option EB
def Eg (X:Ctx) (pf:Pf):Prop:=∀f F,pf f=some F->∀args H K,F args H K->∃v H',Bd X f args .normal H=some (v,H')/\K v H'
def SX (X:Ctx) (pf:Pf) (f:FuncId) (args:List Value) (kind:CallKind) (fr:Ah) (cs:List Ah) (H:AA) (K:A8->Prop):Prop:=
 match pf f with
 | some F=>match kind with
  | .normal=>F args H fun v H'=>OK fr v cs H' K
  | kind=>Ma X f args kind fr cs H K
 | none=>Ma X f args kind fr cs H K
def Re (X:Ctx) (pf:Pf) (f:Value) (args:List Value) (fr:Ah) (cs:List Ah) (H:AA) (K:A8->Prop):Prop:=
 match f with
 | .func (.func g) first captured=>SX X pf g (first.toList++args++captured.toList) .normal fr cs H K
 | _=>match KV X f args fr cs H with
  | some c'=>K c'
  | none=>False
def UC (X:Ctx) (pf:Pf) (o:Oper) (fr:Ah) (cs:List Ah) (H:AA) (K:A8->Prop):Prop:=
 match o.op with
 | .call c=>match c.callee with
  | .builtin b=>bif isRec b then(match eX fr cs H with
   | some c'=>K c'
   | none=>False)else gW X.P (Bs X fr.tmps) o H fun v H'=>OK fr v cs H' K
  | .value f=>Re X pf (Bs X fr.tmps f) (c.args.toList.map (Bs X fr.tmps)) fr cs H K
  | _=>False
 | .defer _=>match Jp X o fr cs H with
  | some c'=>K c'
  | none=>False
 | _=>gW X.P (Bs X fr.tmps) o H fun v H'=>OK fr v cs H' K
def RK (ops:Array Oper) (o:Oper) (t:Tr Value) (Kt Kf:Prop):Prop:=
 match o.guard with
 | none=>Kt
 | some (j,want)=>match Gb ops j with
  | some d=>match look t d with
   | .bool b=>bif want then(bif b then Kt else Kf)else(bif b then Kf else Kt)
   | .tuple _=>Kf
   | _=>False
  | none=>Kf
def fY (kind:CallKind) (v:Value) (cs:List Ah) (H:AA) (K:A8->Prop):Prop:=
 match cs with
 | []=>False
 | c::rest=>match kind with
  | .normal=>OK c v rest H K
  | .deferred=>bif c.ret then K ⟨c,rest,H⟩else False
  | _=>False
def Ue (l:List PE):(List PE->Prop)->Prop:=
 List.rec (motive:=fun _=>(List PE->Prop)->Prop) (fun k=>k []) (fun e _ ih k=>match e with
  | .op i ⟨d,op,ty,pos,af,g⟩=>Nat.rec (motive:=fun _=>Prop) (ih fun r=>k (.op 0 ⟨d,op,ty,pos,af,g⟩::r)) (fun j _=>ih fun r=>k (.op (j+1) ⟨d,op,ty,pos,af,g⟩::r)) i
  | .Ni i ⟨d,op,ty,pos,af,g⟩=>Nat.rec (motive:=fun _=>Prop) (ih fun r=>k (.Ni 0 ⟨d,op,ty,pos,af,g⟩::r)) (fun j _=>ih fun r=>k (.Ni (j+1) ⟨d,op,ty,pos,af,g⟩::r)) i) l
theorem Gc:∀(l:List PE) (k:List PE->Prop),Ue l k=k l
 | [],_=>rfl
 | .op 0 o::r,k=>Gc r fun r=>k (.op 0 o::r)
 | .op (j+1) o::r,k=>Gc r fun r=>k (.op (j+1) o::r)
 | .Ni 0 o::r,k=>Gc r fun r=>k (.Ni 0 o::r)
 | .Ni (j+1) o::r,k=>Gc r fun r=>k (.Ni (j+1) o::r)
def Ft (X:Ctx) (pf:Pf) (c:A8) (K:A8->Prop):Prop:=
 match c with
 | ⟨⟨fn,t,n,todo,ds,r,kd,rd⟩,cs,H⟩=>
  bif r then
   match ds with
   | []=>match Ig X fn t H with
    | some v=>fY kd v cs H K
    | none=>False
   | _::_=>match Kx X ⟨fn,t,n,todo,ds,r,kd,rd⟩ cs H with
    | some c'=>K c'
    | none=>False
  else
  match todo with
  | .JX ops (o::_)::_=>RK ops o t (UC X pf o ⟨fn,t,n,todo,ds,r,kd,rd⟩ cs H K) (OK ⟨fn,t,n,todo,ds,r,kd,rd⟩ Go.undef cs H K)
  | .Dp ops (.op _ o::_)::_=>RK ops o t (UC X pf o ⟨fn,t,n,todo,ds,r,kd,rd⟩ cs H K) (OK ⟨fn,t,n,todo,ds,r,kd,rd⟩ Go.undef cs H K)
  | .Dp ops (.Ni _ o::rest)::k=>RK ops o t
   (match o.dst with
    | some d=>gW X.P (Bs X t) o H fun v _=>v=look t d/\K ⟨⟨fn,t,n,.Dp ops rest::k,ds,r,kd,rd⟩,cs,H⟩
    | none=>False)
   (K ⟨⟨fn,t,n,.Dp ops rest::k,ds,r,kd,rd⟩,cs,H⟩)
  | .code (.cond c a b)::k=>match Bs X t c with
   | .bool x=>bif x then K ⟨⟨fn,t,n,.code a::k,ds,r,kd,rd⟩,cs,H⟩else K ⟨⟨fn,t,n,.code b::k,ds,r,kd,rd⟩,cs,H⟩
   | _=>False
  | .code (.region _ ops true)::k=>match X.Bu ops with
   | some p=>Ue p fun p=>K ⟨⟨fn,t,n,.Dp ops p::k,ds,r,kd,rd⟩,cs,H⟩
   | none=>False
  | .code (.rangeFunc f params assign body)::k=>
   match rd with
   | some l=>match H.get l with
    | some (.loop q)=>
     Re X pf (Bs X t f) [.func (.yield H.next) ⟨[]⟩ ⟨[]⟩] ⟨fn,t,n,.inRangeFunc H.next::k,ds,r,kd,rd⟩ cs
      (H.alloc (.loop ⟨.ready,none,fn,t,n,params,assign,body,q.defers⟩)) K
    | _=>False
   | none=>
    Re X pf (Bs X t f) [.func (.yield (H.next+1)) ⟨[]⟩ ⟨[]⟩] ⟨fn,t,n,.inRangeFunc (H.next+1)::k,{ target:= .collected H.next,args:=⟨[]⟩ }::ds,r,kd,rd⟩ cs
     ((H.alloc (.deferred (some []))).alloc (.loop ⟨.ready,none,fn,t,n,params,assign,body,H.next⟩)) K
  | _=>match D8 X ⟨⟨fn,t,n,todo,ds,r,kd,rd⟩,cs,H⟩with
   | some c'=>K c'
   | none=>False
section
variable {X:Ctx}
theorem PQ {f:Ah} {v:Value} {cs:List Ah} {H:AA} {K:A8->Prop} (h:ZQ f v cs H K):∃f',B2 f v=some f'/\K ⟨f',cs,H⟩:=by
 rw[Ts];obtain⟨fn,t,n,todo,ds,r,kd,rd⟩:=f;unfold ZQ at h;simp only at h;split at h
 ·rename_i ops o rest k;split at h
  ·rename_i d e;cases hb:Nat.blt d n
   ·simp[hb]at h
   ·simp only[hb,cond_true,PT]at h;exact⟨_,by simp only[I0,e,hb,cond_true],h⟩
  ·rename_i e;exact⟨_,by simp only[I0,e],h⟩
 ·rename_i ops i o rest k;split at h
  ·rename_i d e;cases hb:Nat.blt d n
   ·simp[hb]at h
   ·simp only[hb,cond_true,PT]at h;exact⟨_,by simp only[I0,e,hb,cond_true],h⟩
  ·rename_i e;exact⟨_,by simp only[I0,e],h⟩
 ·split at h
  ·rename_i f' e;exact⟨f',e,h⟩
  ·cases h
theorem I1 {f:Ah} {v:Value} {cs:List Ah} {H:AA} {K:A8->Prop} (h:OK f v cs H K):∃f',B2 f v=some f'/\K ⟨f',cs,H⟩:=by
 unfold OK at h;split at h
 ·rename_i b;cases b
  ·exact PQ h
  ·exact PQ h
 ·exact PQ h
theorem Nh {f:FuncId} {args:List Value} {kind:CallKind} {fr:Ah} {cs:List Ah} {H:AA} {K:A8->Prop} (h:Ma X f args kind fr cs H K):∃c',GY X f args kind fr cs H=some c'/\K c':=by
 unfold Ma at h;cases hi:Bd X f args kind H with
 | some p=>
  obtain⟨v,H'⟩:=p;simp only[hi]at h;obtain⟨f',e1,e2⟩:=I1 h;exact⟨_,by unfold GY;simp only[hi,e1],e2⟩
 | none=>
  simp only[hi]at h;cases he:entry X.P f with
  | some p=>
   obtain⟨n,c⟩:=p;simp only[he]at h;cases hb:Nat.ble args.length n
   ·simp[hb]at h
   ·simp only[hb,cond_true,Qb]at h;exact⟨_,by unfold GY;simp only[hi,he,hb,cond_true],h⟩
  | none=>
   simp only[he]at h;split at h
   ·rename_i c' e;exact⟨c',e,h⟩
   ·cases h
theorem WU {pf:Pf} (hpf:Eg X pf) {f:FuncId} {args:List Value} {kind:CallKind} {fr:Ah} {cs:List Ah} {H:AA} {K:A8->Prop} (h:SX X pf f args kind fr cs H K):∃c',GY X f args kind fr cs H=some c'/\K c':=by
 unfold SX at h;split at h
 ·rename_i F hF;split at h
  ·obtain⟨v,H',e1,e2⟩:=hpf f F hF _ _ _ h;obtain⟨f',e3,e4⟩:=I1 e2;exact⟨_,by unfold GY;simp only[e1,e3],e4⟩
  ·exact Nh h
 ·exact Nh h
theorem Mn {pf:Pf} (hpf:Eg X pf) {f:Value} {args:List Value} {fr:Ah} {cs:List Ah} {H:AA} {K:A8->Prop} (h:Re X pf f args fr cs H K):∃c',KV X f args fr cs H=some c'/\K c':=by
 unfold Re at h;split at h
 ·obtain⟨c',e1,e2⟩:=WU hpf h;exact⟨c',by unfold KV;exact e1,e2⟩
 ·split at h
  ·rename_i c' e;exact⟨c',e,h⟩
  ·cases h
theorem Rr {pf:Pf} (hpf:Eg X pf) {o:Oper} {fr:Ah} {cs:List Ah} {H:AA} {K:A8->Prop} (h:UC X pf o fr cs H K):∃c',Jp X o fr cs H=some c'/\K c':=by
 have key:gW X.P (Bs X fr.tmps) o H (fun v H'=>OK fr v cs H' K)->∃v H' f',Jw X.P (Bs X fr.tmps) o H=some (v,H')/\B2 fr v=some f'/\K ⟨f',cs,H'⟩:=by
  intro h;obtain⟨v,H',e1,e2⟩:=Ws h;obtain⟨f',e3,e4⟩:=I1 e2;exact⟨v,H',f',e1,e3,e4⟩
 unfold UC at h;unfold Jp;cases ho:o.op
 case call c=>
  simp only[ho]at h ⊢;cases hc:c.callee with
  | builtin b=>
   simp only[hc]at h ⊢;cases hb:isRec b
   ·simp only[hb,cond_false]at h ⊢;obtain⟨v,H',f',e1,e2,e3⟩:=key h;exact⟨_,by simp only[e1,e2],e3⟩
   ·simp only[hb,cond_true]at h ⊢;split at h
    ·rename_i c' e;exact⟨c',e,h⟩
    ·cases h
  | value f=>simp only[hc]at h ⊢;exact Mn hpf h
  | invoke r m=>simp only[hc]at h
 case defer c=>
  simp only[ho]at h;split at h
  ·rename_i c' e;refine⟨c',?_,h⟩;unfold Jp at e;simp only[ho]at e ⊢;exact e
  ·cases h
 all_goals
  simp only[ho]at h ⊢;obtain⟨v,H',f',e1,e2,e3⟩:=key h;exact⟨_,by simp only[e1,e2],e3⟩
theorem Mz {ops:Array Oper} {o:Oper} {t:Tr Value} {Kt Kf:Prop} (h:RK ops o t Kt Kf):(Cj ops o t=some true/\Kt)∨(Cj ops o t=some false/\Kf):=by
 unfold RK at h;unfold Cj;split at h
 ·rename_i e;exact .inl ⟨by simp only[e],h⟩
 ·rename_i j want e;split at h
  ·rename_i d e1;split at h
   ·rename_i b e2;cases want<;>cases b<;>simp only[cond_true,cond_false]at h<;>simp[e,e1,e2,h]
   ·rename_i e2;exact .inr ⟨by simp only[e,e1,e2],h⟩
   ·cases h
  ·rename_i e1;exact .inr ⟨by simp only[e,e1],h⟩
theorem bf {kind:CallKind} {v:Value} {cs:List Ah} {H:AA} {K:A8->Prop} (h:fY kind v cs H K):∃c',Gl kind v cs H=some c'/\K c':=by
 unfold fY at h;unfold Gl;split at h
 ·cases h
 ·cases kind<;>simp only at h ⊢
  ·obtain⟨f',e1,e2⟩:=I1 h;exact⟨_,by simp only[e1],e2⟩
  ·rename_i c rest;cases hr:c.ret
   ·simp[hr]at h
   ·simp only[hr,cond_true]at h ⊢;exact⟨_,rfl,h⟩
  all_goals cases h
theorem V0 {pf:Pf} (hpf:Eg X pf) {c:A8} {K:A8->Prop} (h:Ft X pf c K):∃c',Mj X c c'/\K c':=by
 obtain⟨⟨fn,t,n,todo,ds,r,kd,rd⟩,cs,H⟩:=c;have fall:(match D8 X ⟨⟨fn,t,n,todo,ds,r,kd,rd⟩,cs,H⟩with | some c'=>K c' | none=>False)->∃c',Mj X ⟨⟨fn,t,n,todo,ds,r,kd,rd⟩,cs,H⟩ c'/\K c':=by
  intro h;split at h
  ·rename_i c' e;exact⟨c',.step e,h⟩
  ·cases h
 unfold Ft at h;simp only at h;cases r with
 | true=>
  simp only[cond_true]at h;split at h
  ·split at h
   ·rename_i v e;obtain⟨c',e1,e2⟩:=bf h;refine⟨c',.step ?_,e2⟩;unfold D8 Kx;simp only[cond_true,e,e1]
   ·cases h
  ·split at h
   ·rename_i c' e;refine⟨c',.step ?_,h⟩;unfold D8;simp only[cond_true];exact e
   ·cases h
 | false=>
  simp only[cond_false]at h;split at h
  ·rename_i ops o l k;rcases Mz h with⟨hw,h⟩ | ⟨hw,h⟩
   ·obtain⟨c',e1,e2⟩:=Rr hpf h;refine⟨c',.step ?_,e2⟩;unfold D8;simp only[cond_false,hw];exact e1
   ·obtain⟨f',e1,e2⟩:=I1 h;refine⟨_,.step ?_,e2⟩;unfold D8;simp only[cond_false,hw,e1]
  ·rename_i ops i o l k;rcases Mz h with⟨hw,h⟩ | ⟨hw,h⟩
   ·obtain⟨c',e1,e2⟩:=Rr hpf h;refine⟨c',.step ?_,e2⟩;unfold D8;simp only[cond_false,hw];exact e1
   ·obtain⟨f',e1,e2⟩:=I1 h;refine⟨_,.step ?_,e2⟩;unfold D8;simp only[cond_false,hw,e1]
  ·rename_i ops j o rest k;rcases Mz h with⟨hw,h⟩ | ⟨hw,h⟩
   ·split at h
    ·rename_i d hd;obtain⟨v,H',e1,e2,e3⟩:=Ws h;exact⟨_,.Ni fun _=>⟨d,H',hd,by rw[e1,e2]⟩,e3⟩
    ·cases h
   ·exact⟨_,.Ni fun hw2=>(by rw[hw]at hw2;cases hw2),h⟩
  ·rename_i cnd a b k;split at h
   ·rename_i x e;cases x
    ·refine⟨_,.step ?_,h⟩;unfold D8;simp only[cond_false,e]
    ·refine⟨_,.step ?_,h⟩;unfold D8;simp only[cond_false,cond_true,e]
   ·cases h
  ·rename_i ops k;split at h
   ·rename_i p e;rw[Gc]at h;refine⟨_,.step ?_,h⟩;unfold D8;simp only[cond_false,e]
   ·cases h
  ·rename_i f params assign body k;split at h
   ·rename_i l;split at h
    ·rename_i q e;obtain⟨c',e1,e2⟩:=Mn hpf h;refine⟨c',.step ?_,e2⟩;unfold D8;simp only[cond_false,e];exact e1
    ·cases h
   ·obtain⟨c',e1,e2⟩:=Mn hpf h;refine⟨c',.step ?_,e2⟩;unfold D8;simp only[cond_false];exact e1
  ·exact fall h
def Af:Nat->Value->List Nat
 | 0,_=>[]
 | n+1,v=>match v with
  | .pointer (some a)=>[a.block]
  | .slice (some a) _ _=>[a.block]
  | .map (some b)=>[b]
  | .agg cs=>cs.toList.flatMap (Af n)
  | .tuple cs=>cs.toList.flatMap (Af n)
  | .iface _ v=>Af n v
  | .func _ a b=>a.toList.flatMap (Af n)++b.toList.flatMap (Af n)
  | _=>[]
def Ex (X:Ctx) (pf:Pf) (f:FuncId) (ids:List Nat) (Q:Value->List (Option AK)->Prop) (n:Nat):A8->Prop:=
 Nat.rec (motive:=fun _=>A8->Prop) (fun _=>False) (fun _ ih c=>match DX X f c with
  | some (v,H)=>Q v ((ids++Af 4 v).map H.get)
  | none=>Ft X pf c ih) n
def C4:Pf:=fun _=>none
theorem A6 (X:Ctx):Eg X C4:=fun _ _ h=>by cases h
abbrev VC (X:Ctx) (f:FuncId) (ids:List Nat) (Q:Value->List (Option AK)->Prop) (n:Nat):A8->Prop:=Ex X C4 f ids Q n
theorem Ge {pf:Pf} (hpf:Eg X pf) {c:A8} {K:A8->Prop} (h:Ft X pf c K):Reach X c K:=let ⟨_,h1,h2⟩:=V0 hpf h;h1.reach h2
def BW (X:Ctx) (f:FuncId) (Q:Value->AA->Prop) (c:A8):Prop:=Reach X c fun c'=>∃v H,DX X f c'=some (v,H)/\Q v H
theorem Bt {pf:Pf} (hpf:Eg X pf) {f:FuncId} {ids:List Nat} {Q:Value->List (Option AK)->Prop}:∀(n:Nat) (c:A8),Ex X pf f ids Q n c->BW X f (fun v H=>Q v ((ids++Af 4 v).map H.get)) c:=by
 intro n;induction n with
 | zero=>intro c h;cases h
 | succ n ih=>
  intro c h;have h:(match DX X f c with
   | some (v,H)=>Q v ((ids++Af 4 v).map H.get)
   | none=>Ft X pf c (Ex X pf f ids Q n)):=h
  split at h
  ·rename_i v H e;exact .here ⟨v,H,e,h⟩
  ·exact(Ge hpf h).bind fun c' hc=>ih c' hc
theorem Nq {f:FuncId} {ids:List Nat} {Q:Value->List (Option AK)->Prop} (n:Nat) (c:A8) (h:VC X f ids Q n c):BW X f (fun v H=>Q v ((ids++Af 4 v).map H.get)) c:=Bt (A6 X) n c h
end
abbrev Ren:=Nat->Option Nat
def DI (f:Value->Option Value):List Value->Option (List Value)
 | []=>some []
 | v::l=>match f v,DI f l with
  | some w,some m=>some (w::m)
  | _,_=>none
def PM (ρ:Ren):Addr->Option Addr
 | ⟨b,o,s⟩=>match ρ b with
  | some i=>some ⟨i,o,s⟩
  | none=>none
def Bz (ρ:Ren):Nat->Value->Option Value
 | 0,_=>none
 | n+1,v=>match v with
  | .bool b=>some (.bool b)
  | .int k m=>some (.int k m)
  | .float k m=>some (.float k m)
  | .string s=>some (.string s)
  | .pointer none=>some (.pointer none)
  | .pointer (some a)=>(PM ρ a).map fun a=> .pointer (some a)
  | .slice none l c=>some (.slice none l c)
  | .slice (some a) l c=>(PM ρ a).map fun a=> .slice (some a) l c
  | .map none=>some (.map none)
  | .map (some b)=>(ρ b).map fun b=> .map (some b)
  | .nilFunc=>some .nilFunc
  | .nilIface=>some .nilIface
  | .iface t v=>(Bz ρ n v).map fun v=> .iface t v
  | .agg cs=>(DI (Bz ρ n) cs.toList).map fun l=> .agg ⟨l⟩
  | .tuple cs=>(DI (Bz ρ n) cs.toList).map fun l=> .tuple ⟨l⟩
  | .func (.func f) xs ys=>match DI (Bz ρ n) xs.toList,DI (Bz ρ n) ys.toList with
   | some a,some b=>some (.func (.func f) ⟨a⟩ ⟨b⟩)
   | _,_=>none
  | .chan (some 0)=>some (.chan (some 0))
  | _=>none
abbrev FC (ρ:Ren) (v:Value):Option Value:=Bz ρ 6 v
section
variable {ρ:Ren} {μ ν:Ai}
theorem GN {f:Value->Option Value} (hf:∀v v1 v',f v=some v1->AM μ v v'->AM ν v1 v'):∀(l l1 l':List Value),DI f l=some l1->BD μ l l'->BD ν l1 l'
 | [],_,_,h,hl=>by cases h;cases hl;exact .nil
 | v::l,l1,_,h,hl=>by
  cases hl with
  | cons h1 h2=>
   simp only[DI]at h;split at h
   ·rename_i w m e1 e2;cases h
    exact .cons (hf _ _ _ e1 h1) (GN hf l m _ e2 h2)
   ·cases h
theorem Fa {f:Value->Option Value} (hf:∀v v1 v',f v=some v1->AM ν v1 v'->AM μ v v'):∀(l l1 l':List Value),DI f l=some l1->BD ν l1 l'->BD μ l l'
 | [],_,_,h,hl=>by cases h;cases hl;exact .nil
 | v::l,l1,l',h,hl=>by
  simp only[DI]at h;split at h
  ·rename_i w m e1 e2;cases h
   cases hl with
   | cons h1 h2=>exact .cons (hf _ _ _ e1 h1) (Fa hf l m _ e2 h2)
  ·cases h
theorem D3 {a a1:Addr} (h:PM ρ a=some a1):∃b o s i,a=⟨b,o,s⟩/\ρ b=some i/\a1=⟨i,o,s⟩:=by
 obtain⟨b,o,s⟩:=a;unfold PM at h;simp only at h;split at h
 ·rename_i i e;cases h;exact⟨b,o,s,i,rfl,e,rfl⟩
 ·cases h
theorem QV (hρ:∀b i T,ρ b=some i->μ b=some T->ν i=some T):∀(n:Nat) (v v1 v':Value),Bz ρ n v=some v1->AM μ v v'->AM ν v1 v':=by
 intro n;induction n with
 | zero=>intro v v1 v' h;cases h
 | succ n ih=>
  intro v v1 v' h hr;cases hr with
  | Bn=>simp only[Bz,Bn,Option.some.injEq]at h;subst h;exact .Bn _
  | bool b=>cases h;exact .bool b
  | int k m=>cases h;exact .int k m
  | float k m=>cases h;exact .float k m
  | string s=>cases h;exact .string s
  | GS=>cases h;exact .GS
  | CD l c=>cases h;exact .CD l c
  | GH=>cases h;exact .GH
  | nilFunc=>cases h;exact .nilFunc
  | nilIface=>cases h;exact .nilIface
  | ptr b o T hm=>
   simp only[Bz,Option.map_eq_some_iff]at h;obtain⟨a,ha,rfl⟩:=h;obtain⟨b1,o1,s1,i,e1,e2,rfl⟩:=D3 ha;cases e1
   exact .ptr i o T (hρ _ _ _ e2 hm)
  | Gt b o j T hm=>
   simp only[Bz,Option.map_eq_some_iff]at h;obtain⟨a,ha,rfl⟩:=h;obtain⟨b1,o1,s1,i,e1,e2,rfl⟩:=D3 ha;cases e1
   exact .Gt i o j T (hρ _ _ _ e2 hm)
  | slice b o l c c' o' T hm hc ho=>
   simp only[Bz,Option.map_eq_some_iff]at h;obtain⟨a,ha,rfl⟩:=h;obtain⟨b1,o1,s1,i,e1,e2,rfl⟩:=D3 ha;cases e1
   exact .slice i o l c c' o' T (hρ _ _ _ e2 hm) hc ho
  | Bw b j l c c' o' T hm hc ho hr=>
   simp only[Bz,Option.map_eq_some_iff]at h;obtain⟨a,ha,rfl⟩:=h;obtain⟨b1,o1,s1,i,e1,e2,rfl⟩:=D3 ha;cases e1
   exact .Bw i j l c c' o' T (hρ _ _ _ e2 hm) hc ho hr
  | C8 b j c T z hm hc=>
   simp only[Bz,Option.map_eq_some_iff]at h;obtain⟨a,ha,rfl⟩:=h;obtain⟨b1,o1,s1,i,e1,e2,rfl⟩:=D3 ha;cases e1
   exact .C8 i j c T z (hρ _ _ _ e2 hm) hc
  | Cf b j l c c' o' T M hm hm2 hc ho hr=>
   simp only[Bz,Option.map_eq_some_iff]at h;obtain⟨a,ha,rfl⟩:=h;obtain⟨b1,o1,s1,i,e1,e2,rfl⟩:=D3 ha;cases e1
   exact .Cf i j l c c' o' T M (hρ _ _ _ e2 hm) hm2 hc ho hr
  | Er b j c T z hm hc=>
   simp only[Bz,Option.map_eq_some_iff]at h;obtain⟨a,ha,rfl⟩:=h;obtain⟨b1,o1,s1,i,e1,e2,rfl⟩:=D3 ha;cases e1
   exact .Er i j c T z (hρ _ _ _ e2 hm) hc
  | map b T hm=>
   simp only[Bz,Option.map_eq_some_iff]at h;obtain⟨i,hi,rfl⟩:=h;exact .map i T (hρ _ _ _ hi hm)
  | iface t a a' ha=>
   simp only[Bz,Option.map_eq_some_iff]at h;obtain⟨w,hw,rfl⟩:=h;exact .iface t w a' (ih _ _ _ hw ha)
  | agg xs xs' hx ex=>
   obtain⟨ys,he,hl⟩:=AM.Cr.1 (.agg xs xs' hx ex);cases he
   simp only[Bz,Option.map_eq_some_iff]at h;obtain⟨l,hl1,rfl⟩:=h;exact AM.Cr.2 ⟨_,rfl,GN ih _ _ _ hl1 hl⟩
  | tuple xs xs' hx ex=>
   obtain⟨ys,he,hl⟩:=AM.CL.1 (.tuple xs xs' hx ex);cases he
   simp only[Bz,Option.map_eq_some_iff]at h;obtain⟨l,hl1,rfl⟩:=h;exact AM.CL.2 ⟨_,rfl,GN ih _ _ _ hl1 hl⟩
  | func fn fn' xs xs' ys ys' hf hx ex hy ey=>
   obtain⟨fn2,xs2,ys2,he,hf2,De,hy2⟩:=AM.CX.1 (.func fn fn' xs xs' ys ys' hf hx ex hy ey);cases he
   cases hf2 with
   | func f=>
    simp only[Bz]at h;split at h
    ·rename_i a b e1 e2;cases h
     exact AM.CX.2 ⟨_,_,_,rfl,.func f,GN ih _ _ _ e1 De,GN ih _ _ _ e2 hy2⟩
    ·cases h
   | _=>simp[Bz]at h
theorem PX (hρ:∀b i T,ρ b=some i->ν i=some T->μ b=some T):∀(n:Nat) (v v1 v':Value),Bz ρ n v=some v1->AM ν v1 v'->AM μ v v':=by
 intro n;induction n with
 | zero=>intro v v1 v' h;cases h
 | succ n ih=>
  intro v v1 v' h hr;unfold Bz at h;split at h
  ·cases h;cases hr;exact .bool _
  ·cases h;cases hr;exact .int _ _
  ·cases h;cases hr;exact .float _ _
  ·cases h;cases hr;exact .string _
  ·cases h;cases hr;exact .GS
  ·simp only[Option.map_eq_some_iff]at h;obtain⟨a,ha,rfl⟩:=h;obtain⟨b1,o1,s1,i,rfl,e2,rfl⟩:=D3 ha;cases hr with
   | ptr _ _ T hm=>exact .ptr b1 _ T (hρ _ _ _ e2 hm)
   | Gt _ _ j T hm=>exact .Gt b1 _ j T (hρ _ _ _ e2 hm)
  ·cases h;cases hr;exact .CD _ _
  ·simp only[Option.map_eq_some_iff]at h;obtain⟨a,ha,rfl⟩:=h;obtain⟨b1,o1,s1,i,rfl,e2,rfl⟩:=D3 ha;cases hr with
   | slice _ _ _ _ c' o' T hm hc ho=>exact .slice b1 _ _ _ c' o' T (hρ _ _ _ e2 hm) hc ho
   | Bw _ j _ _ c' o' T hm hc ho hr=>exact .Bw b1 j _ _ c' o' T (hρ _ _ _ e2 hm) hc ho hr
   | C8 _ j _ T z hm hc=>exact .C8 b1 j _ T z (hρ _ _ _ e2 hm) hc
   | Cf _ j _ _ c' o' T M hm hm2 hc ho hr=>exact .Cf b1 j _ _ c' o' T M (hρ _ _ _ e2 hm) hm2 hc ho hr
   | Er _ j _ T z hm hc=>exact .Er b1 j _ T z (hρ _ _ _ e2 hm) hc
  ·cases h;cases hr;exact .GH
  ·simp only[Option.map_eq_some_iff]at h;obtain⟨i,hi,rfl⟩:=h;cases hr with
   | map _ T hm=>exact .map _ T (hρ _ _ _ hi hm)
  ·cases h;cases hr;exact .nilFunc
  ·cases h;cases hr;exact .nilIface
  ·simp only[Option.map_eq_some_iff]at h;obtain⟨w,hw,rfl⟩:=h;cases hr with
   | iface _ _ a' ha=>exact .iface _ _ a' (ih _ _ _ hw ha)
  ·simp only[Option.map_eq_some_iff]at h;obtain⟨l,hl,rfl⟩:=h;obtain⟨ys,rfl,hl2⟩:=AM.Cr.1 hr;exact AM.Cr.2 ⟨_,rfl,Fa ih _ _ _ hl hl2⟩
  ·simp only[Option.map_eq_some_iff]at h;obtain⟨l,hl,rfl⟩:=h;obtain⟨ys,rfl,hl2⟩:=AM.CL.1 hr;exact AM.CL.2 ⟨_,rfl,Fa ih _ _ _ hl hl2⟩
  ·split at h
   ·rename_i a b e1 e2;cases h
    obtain⟨fn2,xs2,ys2,rfl,hf2,De,hy2⟩:=AM.CX.1 hr;cases hf2
    exact AM.CX.2 ⟨_,_,_,rfl,.func _,Fa ih _ _ _ e1 De,Fa ih _ _ _ e2 hy2⟩
   ·cases h
  ·exact .Bn _
  ·cases h
def IE:SK->Bool
 | .tok=>false
 | _=>true
theorem HV (l:List (EK.C [.tok])):A2 [.tok] l=l:=by
 induction l with
 | nil=>rfl
 | cons x l ih=>rw[Cw,ih];rfl
def BV (ρ:Ren):AK->Option AK
 | .cells cs e ro=>(DI (FC ρ) cs).map fun l=> .cells l e ro
 | .vec [.tok] l ro=>(DI (FC ρ) l).map fun l=> .vec [.tok] l ro
 | .vec k l ro=>bif k.all IE then some (.vec k l ro)else none
 | .abs a ro=>bif a.GI then some (.abs a ro)else none
 | _=>none
theorem H5 {ρ:Ren}:∀(k:EK) (_:k.all IE=true) (l:List (EK.C k)) (ro:Bool),BV ρ (.vec k l ro)=some (.vec k l ro)
 | [],_,_,_=>rfl
 | [.tok],hk,_,_=>by cases hk
 | [.int _],_,_,_=>rfl
 | [.bool],_,_,_=>rfl
 | [.str],_,_,_=>rfl
 | s::t::r,hk,l,ro=>by
  cases s with
  | tok=>cases hk
  | _=>show(bif List.all _ IE then some (AK.vec _ l ro)else none)=_;rw[hk];rfl
theorem Nk {ρ:Ren} {k:EK} {l:List (EK.C k)} {ro:Bool} {o1:AK} (h:BV ρ (.vec k l ro)=some o1):
 (∃l' l1:List (EK.C [.tok]),(⟨k,l⟩:(k:EK) × List (EK.C k))=⟨[.tok],l'⟩/\DI (FC ρ) l'=some l1/\o1= .vec [.tok] l1 ro)∨(k.all IE=true/\o1= .vec k l ro):=by
 unfold BV at h;split at h
 ·rename_i heq;cases heq
 ·rename_i l2 ro2 he;cases he
  simp only[Option.map_eq_some_iff]at h;obtain⟨l1,hl,rfl⟩:=h;exact .inl ⟨l2,l1,rfl,hl,rfl⟩
 ·rename_i k2 l2 ro2 hne he;injection he with e1 e2 e3
  subst e1;cases e2
  subst e3;cases hk:k.all IE
  ·simp[hk]at h
  ·simp only[hk,cond_true,Option.some.injEq]at h;exact .inr ⟨rfl,h.symm⟩
 ·rename_i heq;cases heq
 ·cases h
theorem Mm {ρ:Ren} {l l1:List (EK.C [.tok])} {ro:Bool} (h:DI (FC ρ) l=some l1):BV ρ (.vec [.tok] l ro)=some (.vec [.tok] l1 ro):=by
 show(DI (FC ρ) l).map _=_;rw[h];rfl
theorem EX {f:Value->Option Value}:∀(l l1:List Value),DI f l=some l1->l1.length=l.length
 | [],_,h=>by cases h;rfl
 | v::l,l1,h=>by
  simp only[DI]at h;split at h
  ·rename_i w m e1 e2;cases h;simp[EX l m e2]
  ·cases h
theorem SK.FZ (s:SK) (hs:IE s=true) (x:s.C):flat (s.enc x)=true:=by
 cases s<;>first | rfl | cases hs
theorem EK.FZ:∀(k:EK),k.all IE=true->∀(x:EK.C k),∀v∈EK.enc k x,flat v=true
 | [],_,_,v,h=>by cases h
 | [s],hk,x,v,h=>by
  simp only[EK.enc,List.mem_singleton]at h;subst h;exact SK.FZ s (by simpa using hk) x
 | s::t::r,hk,x,v,h=>by
  simp only[EK.enc,List.mem_cons]at h;simp only[List.all_cons,Bool.and_eq_true]at hk;rcases h with rfl | h
  ·exact SK.FZ s hk.1 _
  ·exact EK.FZ (t::r) (by simpa using hk.2) x.2 v (by simpa using h)
theorem LM:∀(l:List Value),(∀v∈l,flat v=true)->∀l',BD μ l l'->BD ν l l'
 | [],_,_,h=>by cases h;exact .nil
 | v::l,hf,_,h=>by
  cases h with
  | cons h1 h2=>
   have:=FL (hf v (by simp)) h1;subst this;exact .cons (Cp (hf _ (by simp))) (LM l (fun w hw=>hf w (by simp[hw])) _ h2)
theorem Oe {k:EK} (hk:k.all IE=true) (l:List (EK.C k)):∀v∈A2 k l,flat v=true:=by
 intro v hv;simp only[A2,List.mem_flatMap]at hv;obtain⟨x,_,hx⟩:=hv;exact EK.FZ k hk x v hx
theorem Rl (hρ:∀b i T,ρ b=some i->μ b=some T->ν i=some T) {o o1:AK} {T:B7} {o':Obj} (h:BV ρ o=some o1) (hr:Cs μ T o o'):Cs ν T o1 o':=by
 unfold BV at h;split at h
 ·simp only[Option.map_eq_some_iff]at h;obtain⟨l,hl,rfl⟩:=h;cases hr with
  | cells _ _ _ c t lo hi he hc hr hf=>
   have:=EX _ _ hl;exact .cells T l _ _ c t lo hi he (by rw[this];exact GN (QV hρ 6) _ _ _ hl hc) hr hf
 ·rename_i l ro;simp only[Option.map_eq_some_iff]at h;obtain⟨l1,hl,rfl⟩:=h;have hl:DI (FC ρ) l=some l1:=hl;cases hr with
  | vec _ _ _ _ hc=>
   refine .vec T [.tok] l1 ro _ ?_;rw[HV]at hc ⊢;cases hc with
   | cells _ _ _ c t lo hi he hc hr hf=>
    have:=EX _ _ hl;exact .cells T l1 _ _ c t lo hi he (by rw[this];exact GN (QV hρ 6) _ _ _ hl hc) hr hf
  | Ei _ _ _ he hr hk=>cases hl;exact .Ei T _ _ _ he hr hk
 ·rename_i k l ro _;cases hk:k.all IE
  ·simp[hk]at h
  ·simp only[hk,cond_true,Option.some.injEq]at h;subst h;cases hr with
   | vec _ _ _ _ hc=>cases hc with
    | cells _ _ _ c t lo hi he hc hr hf=>exact .vec T _ _ _ _ (.cells T _ _ _ c t lo hi he (LM _ (Oe hk l) _ hc) hr hf)
   | Ei _ _ _ he hr hk=>exact .Ei T _ _ _ he hr hk
 ·rename_i a ro;cases hx:a.GI
  ·simp[hx]at h
  ·simp only[hx,cond_true,Option.some.injEq]at h;subst h;cases hr;exact .abs T _ _ _
 ·cases h
theorem NO (hρ:∀b i T,ρ b=some i->ν i=some T->μ b=some T) {o o1:AK} {T:B7} {o':Obj} (h:BV ρ o=some o1) (hr:Cs ν T o1 o'):Cs μ T o o':=by
 unfold BV at h;split at h
 ·simp only[Option.map_eq_some_iff]at h;obtain⟨l,hl,rfl⟩:=h;cases hr with
  | cells _ _ _ c t lo hi he hc hr hf=>
   have:=EX _ _ hl;exact .cells T _ _ _ c t lo hi he (by rw[<-this];exact Fa (PX hρ 6) _ _ _ hl hc) hr hf
 ·rename_i l ro;simp only[Option.map_eq_some_iff]at h;obtain⟨l1,hl,rfl⟩:=h;have hl:DI (FC ρ) l=some l1:=hl;have hlen:=EX _ _ hl;cases hr with
  | vec _ _ _ _ hc=>
   refine .vec T [.tok] l ro _ ?_;rw[HV]at hc ⊢;cases hc with
   | cells _ _ _ c t lo hi he hc hr hf=>
    exact .cells T _ _ _ c t lo hi he (by rw[<-hlen];exact Fa (PX hρ 6) _ _ _ hl hc) hr hf
  | Ei _ _ _ he hr hk=>
   have:l=[]:=List.eq_nil_of_length_eq_zero (by rw[<-hlen];rfl);subst this;exact .Ei T _ _ _ he hr hk
 ·rename_i k l ro _;cases hk:k.all IE
  ·simp[hk]at h
  ·simp only[hk,cond_true,Option.some.injEq]at h;subst h;cases hr with
   | vec _ _ _ _ hc=>cases hc with
    | cells _ _ _ c t lo hi he hc hr hf=>exact .vec T _ _ _ _ (.cells T _ _ _ c t lo hi he (LM _ (Oe hk l) _ hc) hr hf)
   | Ei _ _ _ he hr hk=>exact .Ei T _ _ _ he hr hk
 ·rename_i a ro;cases hx:a.GI
  ·simp[hx]at h
  ·simp only[hx,cond_true,Option.some.injEq]at h;subst h;cases hr;exact .abs T _ _ _
 ·cases h
theorem DP {o o1:AK} (h:BV ρ o=some o1):o1.ro=o.ro/\o1.isAbs=o.isAbs/\∀a ro,o1= .abs a ro->o= .abs a ro/\a.ext=[]:=by
 unfold BV at h;split at h
 ·simp only[Option.map_eq_some_iff]at h;obtain⟨l,hl,rfl⟩:=h;exact⟨rfl,rfl,fun a ro e=>by cases e⟩
 ·rename_i l ro;simp only[Option.map_eq_some_iff]at h;obtain⟨l1,hl,rfl⟩:=h;exact⟨rfl,rfl,fun a ro e=>by cases e⟩
 ·rename_i k l ro _;cases hk:k.all IE
  ·simp[hk]at h
  ·simp only[hk,cond_true,Option.some.injEq]at h;subst h;exact⟨rfl,rfl,fun a ro e=>by cases e⟩
 ·rename_i a ro;cases hx:a.GI
  ·simp[hx]at h
  ·simp only[hx,cond_true,Option.some.injEq]at h;subst h;exact⟨rfl,rfl,fun a2 ro2 e=>by cases e;exact⟨rfl,Ab.N5 hx⟩⟩
 ·cases h
theorem B1 {o o1:AK} (h:BV ρ o=some o1) (T:B7):o1.void T ↔ o.void T:=by
 unfold BV at h;split at h
 ·simp only[Option.map_eq_some_iff]at h;obtain⟨l,hl,rfl⟩:=h;exact Iff.rfl
 ·rename_i l ro;simp only[Option.map_eq_some_iff]at h;obtain⟨l1,hl,rfl⟩:=h;have hlen:=EX _ _ (show DI (FC ρ) l=some l1 from hl);have e:l1=[] ↔ l=[]:=⟨fun e=>List.eq_nil_of_length_eq_zero (by rw[<-hlen,e];rfl),fun e=>List.eq_nil_of_length_eq_zero (by rw[hlen,e];rfl)⟩;exact and_congr e Iff.rfl
 ·rename_i k l ro _;cases hk:k.all IE
  ·simp[hk]at h
  ·simp only[hk,cond_true,Option.some.injEq]at h;subst h;exact Iff.rfl
 ·rename_i a ro;cases hx:a.GI
  ·simp[hx]at h
  ·simp only[hx,cond_true,Option.some.injEq]at h;subst h;exact Iff.rfl
 ·cases h
end
def an (Hc H H':AA) (ρ:Ren) (v vc:Value) (Hf:AA):Prop:=∃ρ':Ren,
 (∀b1 b2 i,ρ' b1=some i->ρ' b2=some i->b1=b2)/\(∀b,b < Hc.next->ρ' b=ρ b)/\(∀b i,ρ' b=some i->Hc.next<=b->H.next<=i/\i < H'.next)/\
 (∀i o,H'.get i=some o->(H.next<=i∨∃b o0,Hc.get b=some o0/\o0.ro=false/\ρ b=some i)->∃b o0,ρ' b=some i/\Hf.get b=some o0/\BV ρ' o0=some o/\o0.ro=false)/\
 FC ρ' vc=some v
abbrev Rn:=Nat->Option Nat
def XV (ρ:Rn):Fn->Option Fn
 | .yield l=>(ρ l).map .yield
 | f=>some f
def SP (ρ:Rn):Nat->Value->Value
 | 0,_=>Bn
 | n+1,v=>match v with
  | .pointer (some ⟨b,o,s⟩)=>match ρ b with
   | some i=> .pointer (some ⟨i,o,s⟩)
   | none=>Bn
  | .slice (some ⟨b,o,s⟩) l c=>match ρ b with
   | some i=> .slice (some ⟨i,o,s⟩) l c
   | none=>Bn
  | .map (some b)=>match ρ b with
   | some i=> .map (some i)
   | none=>Bn
  | .iface t v=> .iface t (SP ρ n v)
  | .agg cs=> .agg ⟨cs.toList.map (SP ρ n)⟩
  | .tuple cs=> .tuple ⟨cs.toList.map (SP ρ n)⟩
  | .func f xs ys=>match XV ρ f with
   | some f'=> .func f' ⟨xs.toList.map (SP ρ n)⟩ ⟨ys.toList.map (SP ρ n)⟩
   | none=>Bn
  | v=>v
abbrev IM (ρ:Rn) (v:Value):Value:=SP ρ 8 v
section
variable {ρ:Rn} {μ ν:Ai}
theorem Q8 (hρ:∀b i T,ρ b=some i->μ b=some T->ν i=some T) {f g f':Fn} (h:XV ρ f=some g) (hr:Gp μ f f'):Gp ν g f':=by
 cases hr with
 | func f=>cases h;exact .func f
 | method n=>cases h;exact .method n
 | methodOf t n=>cases h;exact .methodOf t n
 | via t p f b=>cases h;exact .via t p f b
 | yield l T hm=>
  simp only[XV,Option.map_eq_some_iff]at h;obtain⟨i,hi,rfl⟩:=h;exact .yield i T (hρ _ _ _ hi hm)
theorem F6 {f:Value->Value} (hf:∀v v',AM μ v v'->AM ν (f v) v'):∀{l l':List Value},BD μ l l'->BD ν (l.map f) l'
 | _,_,.nil=> .nil
 | _,_,.cons h t=> .cons (hf _ _ h) (F6 hf t)
theorem Ip (hρ:∀b i T,ρ b=some i->μ b=some T->ν i=some T):∀(n:Nat) (v v':Value),AM μ v v'->AM ν (SP ρ n v) v':=by
 intro n;induction n with
 | zero=>intro v v' _;exact .Bn _
 | succ n ih=>
  intro v v' hr;cases hr with
  | Bn=>exact .Bn _
  | bool b=>exact .bool b
  | int k m=>exact .int k m
  | float k m=>exact .float k m
  | string s=>exact .string s
  | GS=>exact .GS
  | CD l c=>exact .CD l c
  | GH=>exact .GH
  | nilFunc=>exact .nilFunc
  | nilIface=>exact .nilIface
  | ptr b o T hm=>
   simp only[SP];cases hb:ρ b with
   | none=>exact .Bn _
   | some i=>exact .ptr i o T (hρ _ _ _ hb hm)
  | Gt b o j T hm=>
   simp only[SP];cases hb:ρ b with
   | none=>exact .Bn _
   | some i=>exact .Gt i o j T (hρ _ _ _ hb hm)
  | slice b o l c c' o' T hm hc ho=>
   simp only[SP];cases hb:ρ b with
   | none=>exact .Bn _
   | some i=>exact .slice i o l c c' o' T (hρ _ _ _ hb hm) hc ho
  | Bw b j l c c' o' T hm hc ho hr=>
   simp only[SP];cases hb:ρ b with
   | none=>exact .Bn _
   | some i=>exact .Bw i j l c c' o' T (hρ _ _ _ hb hm) hc ho hr
  | C8 b j c T z hm hc=>
   simp only[SP];cases hb:ρ b with
   | none=>exact .Bn _
   | some i=>exact .C8 i j c T z (hρ _ _ _ hb hm) hc
  | Cf b j l c c' o' T M hm hm2 hc ho hr=>
   simp only[SP];cases hb:ρ b with
   | none=>exact .Bn _
   | some i=>exact .Cf i j l c c' o' T M (hρ _ _ _ hb hm) hm2 hc ho hr
  | Er b j c T z hm hc=>
   simp only[SP];cases hb:ρ b with
   | none=>exact .Bn _
   | some i=>exact .Er i j c T z (hρ _ _ _ hb hm) hc
  | map b T hm=>
   simp only[SP];cases hb:ρ b with
   | none=>exact .Bn _
   | some i=>exact .map i T (hρ _ _ _ hb hm)
  | iface t a a' ha=>exact .iface t _ a' (ih _ _ ha)
  | agg xs xs' hx ex=>
   obtain⟨ys,he,hl⟩:=AM.Cr.1 (.agg xs xs' hx ex);cases he
   exact AM.Cr.2 ⟨_,rfl,F6 ih hl⟩
  | tuple xs xs' hx ex=>
   obtain⟨ys,he,hl⟩:=AM.CL.1 (.tuple xs xs' hx ex);cases he
   exact AM.CL.2 ⟨_,rfl,F6 ih hl⟩
  | func fn fn' xs xs' ys ys' hf hx ex hy ey=>
   obtain⟨fn2,xs2,ys2,he,hf2,De,hy2⟩:=AM.CX.1 (.func fn fn' xs xs' ys ys' hf hx ex hy ey);cases he
   simp only[SP];cases hb:XV ρ fn with
   | none=>exact .Bn _
   | some g=>exact AM.CX.2 ⟨_,_,_,rfl,Q8 hρ hb hf2,F6 ih De,F6 ih hy2⟩
end
def Tr.Y0 (f:Value->Value) (t:Tr Value):Tr Value:=
 Tr.rec (motive:=fun _=>Tr Value) .leaf (fun _ v _ ihl ihr=> .node ihl (v.map f) ihr) t
theorem Tr.ZP (f:Value->Value) (t:Tr Value) (i:Nat):(t.Y0 f).get i=(t.get i).map f:=by
 unfold Tr.get;generalize F4.of i=p;induction t generalizing p with
 | leaf=>cases p<;>rfl
 | node l v r ihl ihr=>
  cases p with
  | e=>rfl
  | z p=>exact ihl p
  | o p=>exact ihr p
def N0 (f:Value->Value) (t:Tr Value):List Nat->Tr Value
 | []=> .leaf
 | i::r=>(N0 f t r).put i (some (f (look t i)))
theorem KC (f:Value->Value) (t:Tr Value):∀(l:List Nat) (i:Nat),look (N0 f t l) i=Bn∨look (N0 f t l) i=f (look t i)
 | [],i=> .inl rfl
 | j::r,i=>by
  unfold N0 look;rw[Tr.AQ]
  by_cases e:i=j
  ·subst e;rw[if_pos rfl];exact .inr rfl
  ·rw[if_neg e];exact KC f t r i
section
variable {ρ:Rn} {μ ν:Ai}
theorem Rf (hρ:∀b i T,ρ b=some i->μ b=some T->ν i=some T) {t:Tr Value} {n:Nat} {a:Array Value} (h:FJ μ t n a):FJ ν (t.Y0 (IM ρ)) n a:=by
 refine⟨h.1,fun i=>?_⟩;have:=h.2 i;unfold look at this ⊢;rw[Tr.ZP];cases hg:t.get i with
 | none=>exact .Bn _
 | some v=>rw[hg]at this;exact Ip hρ 8 _ _ this
theorem WW (hρ:∀b i T,ρ b=some i->μ b=some T->ν i=some T) {t:Tr Value} {n:Nat} {a:Array Value} (h:FJ μ t n a) (l:List Nat):FJ ν (N0 (IM ρ) t l) n a:=by
 refine⟨h.1,fun i=>?_⟩;rcases KC (IM ρ) t l i with e | e
 ·rw[e];exact .Bn _
 ·rw[e];exact Ip hρ 8 _ _ (h.2 i)
end
def Wm (ρ:Rn):CN->Option CN
 | .Dp _ _=>none
 | .inRangeFunc l=>(ρ l).map .inRangeFunc
 | .endRangeFunc l=>(ρ l).map .endRangeFunc
 | x=>some x
def PL (ρ:Rn):List CN->Option (List CN)
 | []=>some []
 | x::r=>match Wm ρ x,PL ρ r with
  | some y,some l=>some (y::l)
  | _,_=>none
def b7 (ρ:Rn):Target->Option Target
 | .collected b=>(ρ b).map .collected
 | .fn f ys=>(XV ρ f).map fun g=> .fn g ⟨ys.toList.map (IM ρ)⟩
 | t=>some t
def Yi (ρ:Rn):List Deferred->Option (List Deferred)
 | []=>some []
 | d::r=>match b7 ρ d.target,Yi ρ r with
  | some t,some l=>some (⟨t,⟨d.args.toList.map (IM ρ)⟩⟩::l)
  | _,_=>none
def ej (ρ:Rn):Option Nat->Option (Option Nat)
 | none=>some none
 | some l=>(ρ l).map some
section
variable {ρ:Rn} {μ ν:Ai}
theorem Zc (hρ:∀b i T,ρ b=some i->μ b=some T->ν i=some T) {x y:CN} {x':Item} (h:Wm ρ x=some y) (hr:Gj μ x x'):Gj ν y x':=by
 cases hr with
 | code c=>cases h;exact .code c
 | inBlock i=>cases h;exact .inBlock i
 | inLoop c=>cases h;exact .inLoop c
 | inScope c=>cases h;exact .inScope c
 | JX ops l idx hh=>cases h;exact .JX ops l idx hh
 | beginRound=>cases h;exact .beginRound
 | inRangeFunc l T hm=>
  simp only[Wm,Option.map_eq_some_iff]at h;obtain⟨i,hi,rfl⟩:=h;exact .inRangeFunc i T (hρ _ _ _ hi hm)
 | endRangeFunc l T hm=>
  simp only[Wm,Option.map_eq_some_iff]at h;obtain⟨i,hi,rfl⟩:=h;exact .endRangeFunc i T (hρ _ _ _ hi hm)
theorem Oz (hρ:∀b i T,ρ b=some i->μ b=some T->ν i=some T) {l l1:List CN} {l':List Item} (h:PL ρ l=some l1) (hr:DM μ l l'):DM ν l1 l':=by
 induction hr generalizing l1 with
 | nil=>cases h;exact .nil
 | cons hx _ ih=>
  simp only[PL]at h;split at h
  ·rename_i y m e1 e2;cases h;exact .cons (Zc hρ e1 hx) (ih e2)
  ·cases h
theorem Xm (hρ:∀b i T,ρ b=some i->μ b=some T->ν i=some T) {t t1 t':Target} (h:b7 ρ t=some t1) (hr:G6 μ t t'):G6 ν t1 t':=by
 cases hr with
 | nil=>cases h;exact .nil
 | builtin b ts t cs=>cases h;exact .builtin b ts t cs
 | collected r T hm=>
  simp only[b7,Option.map_eq_some_iff]at h;obtain⟨i,hi,rfl⟩:=h;exact .collected i T (hρ _ _ _ hi hm)
 | fn fn fn' ys ys' hf hy=>
  simp only[b7,Option.map_eq_some_iff]at h;obtain⟨g,hg,rfl⟩:=h;exact .fn _ _ _ _ (Q8 hρ hg hf) (F6 (Ip hρ 8) hy)
theorem Nn (hρ:∀b i T,ρ b=some i->μ b=some T->ν i=some T) {l l1 l':List Deferred} (h:Yi ρ l=some l1) (hr:CQ μ l l'):CQ ν l1 l':=by
 induction hr generalizing l1 with
 | nil=>cases h;exact .nil
 | cons hx _ ih=>
  simp only[Yi]at h;split at h
  ·rename_i t m e1 e2;cases h;exact .cons ⟨Xm hρ e1 hx.iA,F6 (Ip hρ 8) hx.args⟩ (ih e2)
  ·cases h
theorem Rx (hρ:∀b i T,ρ b=some i->μ b=some T->ν i=some T) {x y:Option Nat} {x':Option Nat} (h:ej ρ x=some y) (hr:Fx μ x x'):Fx ν y x':=by
 cases hr with
 | none=>cases h;exact .none
 | some l T hm=>
  simp only[ej,Option.map_eq_some_iff]at h;obtain⟨i,hi,rfl⟩:=h;exact .some i T (hρ _ _ _ hi hm)
end
def FK:SK->Bool
 | .tok=>false
 | _=>true
def en (ρ:Rn) (l:List MapEntry):List MapEntry:=l.map fun e=>⟨IM ρ e.key,IM ρ e.val,e.born⟩
def QX (ρ:Rn):AK->Option AK
 | .cells cs e ro=>some (.cells (cs.map (IM ρ)) e ro)
 | .vec [.tok] l ro=>some (.vec [.tok] (List.map (IM ρ) l) ro)
 | .vec k l ro=>bif k.all FK then some (.vec k l ro)else none
 | .abs a ro=>bif a.GI then some (.abs a ro)else none
 | .CZ s p=>some (.CZ s p)
 | .deferred none=>some (.deferred none)
 | .deferred (some l)=>(Yi ρ l).map fun l=> .deferred (some l)
 | .map es clock=>some (.map (en ρ es) clock)
 | .loop q=>(ρ q.defers).map fun d=> .loop ⟨q.state,q.pending,q.fn,q.tmps.Y0 (IM ρ),q.n,q.params,q.assign,q.body,d⟩
section
variable {ρ:Rn} {μ ν:Ai}
theorem Um:∀(k:EK),k.all FK=true->∀(x:EK.C k) (v:Value),v∈EK.enc k x->∃s y,FK s=true/\v=SK.enc s y
 | [],_,_,v,h=>by cases h
 | [s],hk,x,v,h=>by
  simp only[EK.enc,List.mem_singleton]at h;exact⟨s,x,by simpa using hk,h⟩
 | s::t::r,hk,x,v,h=>by
  simp only[EK.enc,List.mem_cons]at h;have hk:FK s=true/\(t::r).all FK=true:=by simpa only[List.all_cons,Bool.and_eq_true] using hk
  rcases h with h | h
  ·exact⟨s,x.1,hk.1,h⟩
  ·exact Um (t::r) hk.2 x.2 v h
theorem Kp (k:EK) (hk:k.all FK=true) (l:List (EK.C k)) {l':List Value} (h:BD μ (A2 k l) l'):BD ν (A2 k l) l':=by
 have hs:∀(s:SK),FK s=true->∀(x:s.C) (v':Value),AM μ (s.enc x) v'->AM ν (s.enc x) v':=by
  intro s hs x v' h;cases s with
  | int k=>have h:AM μ (.int k x) v':=h;cases h;exact .int _ _
  | bool=>have h:AM μ (.bool x) v':=h;cases h;exact .bool _
  | str=>have h:AM μ (.string x) v':=h;cases h;exact .string _
  | tok=>cases hs
 have key:∀(vs:List Value),(∀v∈vs,∃s x,FK s=true/\v=SK.enc s x)->∀l',BD μ vs l'->BD ν vs l':=by
  intro vs;induction vs with
  | nil=>intro _ l' h;cases h;exact .nil
  | cons v vs ih=>
   intro hv l' h;cases h with
   | cons h1 h2=>
    obtain⟨s,x,a,rfl⟩:=hv v (by simp);exact .cons (hs s a x _ h1) (ih (fun w hw=>hv w (by simp[hw])) _ h2)
 refine key _ ?_ _ h;intro v hv;unfold A2 at hv;rw[List.mem_flatMap]at hv;obtain⟨x,_,hx⟩:=hv;exact Um k hk x v hx
theorem VG (l:List (EK.C [.tok])):A2 [.tok] l=l:=by
 induction l with
 | nil=>rfl
 | cons x l ih=>rw[Cw,ih];rfl
theorem MK {k:EK} {l:List (EK.C k)} {ro:Bool} {o1:AK} (h:QX ρ (.vec k l ro)=some o1):(∃l':List (EK.C [.tok]),(⟨k,l⟩:(k:EK) × List (EK.C k))=⟨[.tok],l'⟩/\o1= .vec [.tok] (List.map (IM ρ) l') ro)∨(k.all FK=true/\o1= .vec k l ro):=by
 unfold QX at h;split at h
 ·rename_i heq;cases heq
 ·rename_i l2 ro2 he;cases he
  cases h
  exact .inl ⟨l2,rfl,rfl⟩
 ·rename_i k2 l2 ro2 hne he;injection he with e1 e2 e3
  subst e1;cases e2
  subst e3;cases hk:k.all FK
  ·simp[hk]at h
  ·simp only[hk,cond_true,Option.some.injEq]at h;exact .inr ⟨rfl,h.symm⟩
 all_goals (rename_i heq;cases heq)
theorem bK (hρ:∀b i T,ρ b=some i->μ b=some T->ν i=some T) {o o1:AK} {T:B7} {o':Obj} (h:QX ρ o=some o1) (hr:Cs μ T o o'):Cs ν T o1 o':=by
 cases hr with
 | cells cs e ro c t lo hi he hc hs hf=>
  simp only[QX,Option.some.injEq]at h;subst h;refine .cells T _ e ro c t lo hi he ?_ hs hf;rw[List.length_map];exact F6 (Ip hρ 8) hc
 | loop l a R ht hd=>
  simp only[QX,Option.map_eq_some_iff]at h;obtain⟨d,hd1,rfl⟩:=h;exact .loop T ⟨l.state,l.pending,l.fn,l.tmps.Y0 (IM ρ),l.n,l.params,l.assign,l.body,d⟩ a R (Rf hρ ht) (hρ _ _ _ hd1 hd)
 | DR=>cases h;exact .DR T
 | deferred l l' hl=>
  simp only[QX,Option.map_eq_some_iff]at h;obtain⟨d,hd1,rfl⟩:=h;exact .deferred T _ _ (Nn hρ hd1 hl)
 | CZ s p hd=>cases h;exact .CZ T s p hd
 | map es es' clock he=>
  simp only[QX,Option.some.injEq]at h;subst h;refine .map T _ es' clock ?_;generalize es'.toList=q at he;induction he with
  | nil=>exact .nil
  | cons hk hv hb _ ih=>exact .cons (Ip hρ 8 _ _ hk) (Ip hρ 8 _ _ hv) hb ih
 | vec k l ro o hc=>
  rcases MK h with⟨l2,e,rfl⟩ | ⟨hk,rfl⟩
  ·cases e
   refine .vec T [.tok] _ ro o' ?_;rw[VG]at hc ⊢;cases hc with
   | cells cs e ro c t lo hi he hc hs hf=>
    refine .cells T _ _ ro c t lo hi he ?_ hs hf;rw[List.length_map];exact F6 (Ip hρ 8) hc
  ·refine .vec T k l ro o' ?_;cases hc with
   | cells cs e ro c t lo hi he hc hs hf=>exact .cells T _ _ ro c t lo hi he (Kp k hk l hc) hs hf
 | Ei k ro o he hr hk0=>
  rcases MK h with⟨l2,e,rfl⟩ | ⟨hk,rfl⟩
  ·cases e
   exact .Ei T [.tok] ro _ he hr hk0
  ·exact .Ei T k ro _ he hr hk0
 | abs a ro o=>
  simp only[QX]at h;cases hx:a.GI
  ·simp[hx]at h
  ·simp only[hx,cond_true,Option.some.injEq]at h;subst h;exact .abs T a ro o'
theorem Kb {o o1:AK} (h:QX ρ o=some o1) (T:B7):o1.void T ↔ o.void T:=by
 cases o with
 | cells cs e ro=>cases h;exact Iff.rfl
 | vec k l ro=>
  rcases MK h with⟨l2,e,rfl⟩ | ⟨hk,rfl⟩
  ·cases e
   exact and_congr (by simp) Iff.rfl
  ·exact Iff.rfl
 | abs a ro=>
  simp only[QX]at h;cases hx:a.GI
  ·simp[hx]at h
  ·simp only[hx,cond_true,Option.some.injEq]at h;subst h;exact Iff.rfl
 | CZ s p=>cases h;exact Iff.rfl
 | deferred d=>
  cases d with
  | none=>cases h;exact Iff.rfl
  | some l=>
   simp only[QX,Option.map_eq_some_iff]at h;obtain⟨d,_,rfl⟩:=h;exact Iff.rfl
 | map es clock=>cases h;exact Iff.rfl
 | loop q=>
  simp only[QX,Option.map_eq_some_iff]at h;obtain⟨d,_,rfl⟩:=h;exact Iff.rfl
theorem K5 {o o1:AK} (h:QX ρ o=some o1):o1.ro=o.ro/\o1.isAbs=o.isAbs/\∀a ro,o1= .abs a ro->o= .abs a ro/\a.ext=[]:=by
 cases o with
 | cells cs e ro=>cases h;exact⟨rfl,rfl,fun _ _ e=>by cases e⟩
 | vec k l ro=>
  rcases MK h with⟨l2,e,rfl⟩ | ⟨hk,rfl⟩
  ·cases e
   exact⟨rfl,rfl,fun _ _ e=>by cases e⟩
  ·exact⟨rfl,rfl,fun _ _ e=>by cases e⟩
 | abs a ro=>
  simp only[QX]at h;cases hx:a.GI
  ·simp[hx]at h
  ·simp only[hx,cond_true,Option.some.injEq]at h;subst h
   exact⟨rfl,rfl,fun _ _ e=>by cases e;exact⟨rfl,Ab.N5 hx⟩⟩
 | CZ s p=>cases h;exact⟨rfl,rfl,fun _ _ e=>by cases e⟩
 | deferred d=>
  cases d with
  | none=>cases h;exact⟨rfl,rfl,fun _ _ e=>by cases e⟩
  | some l=>
   simp only[QX,Option.map_eq_some_iff]at h;obtain⟨d,_,rfl⟩:=h;exact⟨rfl,rfl,fun _ _ e=>by cases e⟩
 | map es c=>cases h;exact⟨rfl,rfl,fun _ _ e=>by cases e⟩
 | loop q=>
  simp only[QX,Option.map_eq_some_iff]at h;obtain⟨d,_,rfl⟩:=h;exact⟨rfl,rfl,fun _ _ e=>by cases e⟩
end
def Rw (b:Nat):List Nat->Nat->Option Nat
 | [],_=>none
 | i::r,k=>bif Nat.beq b i then some k else Rw b r (k+1)
def Gx (N:Nat) (ids:List Nat):Rn:=fun b=>bif Nat.blt b N then some b else Rw b ids N
theorem NI {b:Nat}:∀{ids:List Nat} {k i:Nat},Rw b ids k=some i->k<=i/\i < k+ids.length/\ids[i - k]? = some b
 | [],k,i,h=>by cases h
 | a::r,k,i,h=>by
  unfold Rw at h;cases hb:Nat.beq b a
  ·simp only[hb,cond_false]at h;obtain⟨h1,h2,h3⟩:=NI h;refine⟨by omega,by simp only[List.length_cons];omega,?_⟩;rw[show i - k=(i - (k+1))+1 by omega,List.getElem?_cons_succ];exact h3
  ·simp only[hb,cond_true,Option.some.injEq]at h;subst h;refine⟨Nat.le_refl _,by simp,?_⟩;rw[Nat.sub_self,Nat.eq_of_beq_eq_true hb];rfl
def FE (N:Nat) (ids:List Nat) (i:Nat):Option Nat:=if i < N then some i else ids[i - N]?
theorem JA {N:Nat} {ids:List Nat} {b i:Nat} (h:Gx N ids b=some i):FE N ids i=some b:=by
 unfold Gx at h;unfold FE;cases hb:Nat.blt b N
 ·simp only[hb,cond_false]at h;obtain⟨h1,h2,h3⟩:=NI h;rw[if_neg (by omega)];exact h3
 ·simp only[hb,cond_true,Option.some.injEq]at h;subst h;rw[if_pos (show b < N from Nat.le_of_ble_eq_true hb)]
def P2 (ρ:Rn) (m:Tr AK):List Nat->Option (Tr AK)
 | []=>some .leaf
 | b::r=>match P2 ρ m r with
  | some t=>match ρ b,m.get b with
   | some i,some o=>match QX ρ o with
    | some o1=>some (t.put i (some o1))
    | none=>none
   | _,_=>none
  | none=>none
theorem DQ {ρ:Rn} {m:Tr AK}:∀{l:List Nat} {t:Tr AK},P2 ρ m l=some t->∀i o1,t.get i=some o1->∃b o,ρ b=some i/\m.get b=some o/\QX ρ o=some o1
 | [],t,h,i,o1,hg=>by cases h;cases hg
 | b::r,t,h,i,o1,hg=>by
  simp only[P2]at h;split at h
  ·rename_i t0 h0;split at h
   ·rename_i j o hj ho;split at h
    ·rename_i o2 h2;cases h
     rw[Tr.AQ]at hg
     by_cases e:i=j
     ·subst e;rw[if_pos rfl]at hg;cases hg;exact⟨b,o,hj,ho,h2⟩
     ·rw[if_neg e]at hg;exact DQ h0 i o1 hg
    ·cases h
   ·cases h
  ·cases h
def Vb (ρ:Rn) (live:Option (List Nat)):Ah->Option Ah
 | ⟨fn,t,n,todo,ds,r,kd,rd⟩=>match PL ρ todo,Yi ρ ds,ej ρ rd with
  | some todo',some ds',some rd'=>some ⟨fn,match live with | some l=>N0 (IM ρ) t l | none=>t.Y0 (IM ρ),n,todo',ds',r,kd,rd'⟩
  | _,_,_=>none
def UX (ρ:Rn):List Ah->Option (List Ah)
 | []=>some []
 | f::r=>match Vb ρ none f,UX ρ r with
  | some g,some l=>some (g::l)
  | _,_=>none
def iZ (N:Nat) (Ks ids:List Nat) (live:List Nat) (c:A8):Option A8:=
 match Vb (Gx N ids) (some live) c.fr,UX (Gx N ids) c.cs,P2 (Gx N ids) c.H.m Ks with
 | some fr,some cs,some m=>some ⟨fr,cs,⟨m,N+ids.length⟩⟩
 | _,_,_=>none
def BC (X:Ctx) (N:Nat) (c:A8) (Φ:A8->Prop):Prop:=∀(base:Env) (W0:World),(∀b T,base.dF b=some T->b < N)->EA X base W0->Fo X->∀(cs0:List Frame) (μ:Ai) (fr:Frame) (cs:List Frame) (W:World),Il X base W0 μ c fr cs W->∃c',Φ c'/\Ck X base W0 cs0 c' (lone fr (cs++cs0) W)
section
variable {X:Ctx} {N:Nat}
theorem Reach.Fk {c:A8} {Φ:A8->Prop} (h:Reach X c Φ):BC X N c Φ:=fun base W0 _=>h base W0
theorem BC.here {c:A8} {Φ:A8->Prop} (h:Φ c):BC X N c Φ:=(Reach.here h).Fk
theorem BC.bind {c:A8} {Φ Ψ:A8->Prop} (h:BC X N c Φ) (h':∀c',Φ c'->BC X N c' Ψ):BC X N c Ψ:=by
 intro base W0 hb hok hplan cs0 μ fr cs W hm;obtain⟨c1,p1,μ1,fr1,cs1,W1,s1,m1⟩:=h base W0 hb hok hplan cs0 μ fr cs W hm;obtain⟨c2,p2,μ2,fr2,cs2,W2,s2,m2⟩:=h' c1 p1 base W0 hb hok hplan cs0 μ1 fr1 cs1 W1 m1;exact⟨c2,p2,μ2,fr2,cs2,W2,s1.trans s2,m2⟩
theorem BC.mono {c:A8} {Φ Ψ:A8->Prop} (h:BC X N c Φ) (hi:∀c',Φ c'->Ψ c'):BC X N c Ψ:=h.bind fun c' hc=> .here (hi c' hc)
theorem Lm {ρ:Rn} {l m:List CN} (h:PL ρ l=some m):∀ops p k,l≠ .Dp ops p::k:=by
 rintro ops p k rfl;simp[PL,Wm]at h
theorem Vn {ρ:Rn} {μ ν:Ai} {H H':AA} (hρ:∀b i T,ρ b=some i->μ b=some T->ν i=some T) {g:List Nat} {l l1:List Ah} {l':List Frame} (h:UX ρ l=some l1) (hr:Dh X μ H g l l'):Dh X ν H' [] l1 l':=by
 induction hr generalizing l1 with
 | nil=>cases h;exact .nil
 | cons hf _ ih=>
  simp only[UX]at h;split at h
  ·rename_i f1 m e1 e2;cases h
   refine .cons (g:=[]) (gs:=[]) ?_ (ih e2);cases hf with
   | plain fn t n tm todo todo' ds ds' r kd rd rd' ht hi hd hr=>
    simp only[Vb]at e1;split at e1
    ·rename_i a b c h1 h2 h3;cases e1
     exact .plain _ _ _ _ _ _ _ _ _ _ _ _ (Rf hρ ht) (Oz hρ h1 hi) (Nn hρ h2 hd) (Rx hρ h3 hr)
    ·cases e1
   | Mq fn t n tm ops x o rest idx D G k k' ds ds' kd rd rd' ho hD hk hd hr=>
    simp only[Vb]at e1;split at e1
    ·rename_i a b c h1 h2 h3;exact absurd rfl (Lm h1 _ _ _)
    ·cases e1
  ·cases h
theorem Im {M:Nat} (hMN:M<=N) {Ks ids live:List Nat} {c c':A8} {Φ:A8->Prop} (hl:(X.laid.all fun p=>Nat.blt p.1 N)=true) (h:iZ N Ks ids live c=some c') (hr:BC X M c' Φ):BC X M c Φ:=by
 intro base W0 hb hok hplan cs0 μ fr cs W hm;suffices hs:∃μ',Il X base W0 μ' c' fr cs W by
  obtain⟨μ',hm'⟩:=hs;exact hr base W0 hb hok hplan cs0 μ' fr cs W hm'
 obtain⟨hH,hlaid,g,gs,hfr,hcs,hnd⟩:=hm;unfold iZ at h;split at h
 ·rename_i fr1 cs1 m1 e1 e2 e3;cases h
  let ν:Ai:=fun i=>(FE N ids i).bind μ
  have hν:∀b i T,Gx N ids b=some i->μ b=some T->ν i=some T:=by
   intro b i T h1 h2;show(FE N ids i).bind μ=_;rw[JA h1];exact h2
  have hν':∀b i T,Gx N ids b=some i->ν i=some T->μ b=some T:=by
   intro b i T h1 h2;have h2:(FE N ids i).bind μ=some T:=h2;rw[JA h1]at h2;exact h2
  have hlow:∀i,i < N->ν i=μ i:=by
   intro i hi;show(FE N ids i).bind μ=_;unfold FE;rw[if_pos hi];rfl
  refine⟨ν,⟨?_,?_,?_,?_,?_,hH.size,hH.below,hH.out,hH.os,?_,?_,hH.grow⟩,?_,[],[],?_,Vn hν e2 hcs,by simp⟩
  ·intro i o1 hi T hT;obtain⟨b,o,r1,r2,r3⟩:=DQ e3 i o1 hi;obtain⟨o',q1,q2⟩:=hH.obj b o r2 T (hν' _ _ _ r1 hT);exact⟨o',q1,bK hν r3 q2⟩
  ·intro i o1 hi hro T hT hv;obtain⟨b,o,r1,r2,r3⟩:=DQ e3 i o1 hi;exact hH.own b o r2 (by rw[<-(K5 r3).1];exact hro) T (hν' _ _ _ r1 hT) (fun hw=>hv ((Kb r3 T).2 hw))
  ·intro i1 i2 o1 o2 h1 h2 T1 T2 t1 t2 v1 v2 hcc hrr;obtain⟨b1,p1,r1,r2,r3⟩:=DQ e3 i1 o1 h1;obtain⟨b2,p2,s1,s2,s3⟩:=DQ e3 i2 o2 h2;have:=hH.inj b1 b2 p1 p2 r2 s2 T1 T2 (hν' _ _ _ r1 t1) (hν' _ _ _ s1 t2) (fun hw=>v1 ((Kb r3 T1).2 hw)) (fun hw=>v2 ((Kb s3 T2).2 hw)) hcc (by rw[<-(K5 r3).1,<-(K5 s3).1];exact hrr);subst this;rw[r1]at s1;cases s1;rfl
  ·intro i hi;have hi:N+ids.length<=i:=hi;have hnone:FE N ids i=none:=by
    unfold FE;rw[if_neg (by omega),List.getElem?_eq_none (by omega)]
   constructor
   ·cases hg:(AA.mk m1 (N+ids.length)).get i with
    | none=>rfl
    | some o1=>
     obtain⟨b,o,r1,_⟩:=DQ e3 i o1 hg;rw[JA r1]at hnone;cases hnone
   ·show(FE N ids i).bind μ=none;rw[hnone];rfl
  ·intro i T hT;have hT:(FE N ids i).bind μ=some T:=hT;cases hbk:FE N ids i with
   | none=>rw[hbk]at hT;cases hT
   | some b=>rw[hbk]at hT;exact hH.bound b T hT
  ·obtain⟨φ,q⟩:=hH.abs;refine⟨fun i=>match FE N ids i with | some b=>φ b | none=>fun _=>False,?_,?_⟩
   ·intro i a ro T hi hT;obtain⟨b,o,r1,r2,r3⟩:=DQ e3 i _ hi;obtain⟨this,hext⟩:=(K5 r3).2.2 a ro rfl;subst this;simp only[JA r1];obtain⟨w1,w2⟩:=q.rep b a ro T r2 (hν' _ _ _ r1 hT);exact⟨w1.closed _ hext,w2⟩
   ·intro i a ro T hi hT i2 o2 T2 hi2 hT2 hne;obtain⟨b,o,r1,r2,r3⟩:=DQ e3 i _ hi;obtain⟨this,hext⟩:=(K5 r3).2.2 a ro rfl;subst this;obtain⟨b2,p2,s1,s2,s3⟩:=DQ e3 i2 _ hi2;simp only[JA r1,JA s1];obtain⟨u1,u2⟩:=q.ER b a ro T r2 (hν' _ _ _ r1 hT) b2 p2 T2 s2 (hν' _ _ _ s1 hT2) (by rintro rfl;rw[r1]at s1;cases s1;exact hne rfl);exact⟨fun hv2=>u1 (fun hw=>hv2 ((Kb s3 T2).2 hw)),fun ea=>u2 (by rw[<-(K5 s3).2.1];exact ea)⟩
  ·intro b T hT;rw[hlow b (Nat.lt_of_lt_of_le (hb b T hT) hMN)];exact hH.le b T hT
  ·intro gl hgl;obtain⟨T,h1,h2⟩:=hlaid gl hgl;have:gl < N:=by
    rw[List.any_eq_true]at hgl;obtain⟨p,hp,hpe⟩:=hgl;have h3:=List.all_eq_true.1 hl p hp;rw[Nat.eq_of_beq_eq_true hpe];exact Nat.le_of_ble_eq_true h3
   exact⟨T,by rw[hlow gl this];exact h1,h2⟩
  ·generalize c.fr=cf at e1 hfr;cases hfr with
   | plain fn t n tm todo todo' ds ds' r kd rd rd' ht hi hd hrr=>
    simp only[Vb]at e1;split at e1
    ·rename_i a b c h1 h2 h3;cases e1
     exact .plain _ _ _ _ _ _ _ _ _ _ _ _ (WW hν ht live) (Oz hν h1 hi) (Nn hν h2 hd) (Rx hν h3 hrr)
    ·cases e1
   | drawn fn t n tm ops Bu idx D G k k' ds ds' kd rd rd' hD hk hd hrr=>
    simp only[Vb]at e1;split at e1
    ·rename_i a b c h1 h2 h3;exact absurd rfl (Lm h1 _ _ _)
    ·cases e1
 ·cases h
theorem QQ {Ks ids live:List Nat} {c c':A8} {Φ:A8->Prop} (hl:(X.laid.all fun p=>Nat.blt p.1 N)=true) (_hN:N<=c.H.next) (_hids:(ids.all fun b=>Nat.blt b c.H.next)=true) (h:iZ N Ks ids live c=some c') (hr:BC X N c' Φ):BC X N c Φ:=Im (Nat.le_refl _) hl h hr
end
structure Stop where
 fn:FuncId
 depth:Nat
 len:Nat
 N:Nat
 Lu:List Nat
 live:List Nat
def fg:List CN->Bool
 | .inLoop _::_=>true
 | .code (.loop _)::_=>true
 | _=>false
def Stop.here (S:Stop) (c:A8):Bool:=
 match c with
 | ⟨⟨fn,_,_,todo,_,r,_,_⟩,cs,_⟩=> !r&&fg todo&&Nat.beq fn S.fn&&Nat.beq cs.length S.depth&&Nat.beq todo.length S.len
def dO (t:Tr Value):List Value:=
 Tr.rec (motive:=fun _=>List Value) [] (fun _ v _ l r=>l++((match v with | some x=>[x] | none=>[])++r)) t
def T9:AK->List Nat
 | .cells cs _ _=>cs.flatMap (Af 4)
 | .loop q=>q.defers::(dO q.tmps).flatMap (Af 4)
 | .deferred (some l)=>l.flatMap fun d=>d.args.toList.flatMap (Af 4)
 | .map es _=>es.flatMap fun e=>Af 4 e.key++Af 4 e.val
 | _=>[]
def YB:CN->List Nat
 | .inRangeFunc l=>[l]
 | .endRangeFunc l=>[l]
 | _=>[]
def dP (d:Deferred):List Nat:=(match d.target with
 | .collected b=>[b]
 | .fn _ ys=>ys.toList.flatMap (Af 4)
 | _=>[])++d.args.toList.flatMap (Af 4)
def eV (f:Ah):List Nat:=
 (match f.round with | some l=>[l] | none=>[])++f.defers.flatMap dP++f.todo.flatMap YB++(dO f.tmps).flatMap (Af 4)
def I9 (H:AA) (N:Nat):Nat->List Nat->List Nat->List Nat
 | 0,_,seen=>seen
 | f+1,todo,seen=>match todo with
  | []=>seen
  | b::r=>bif Nat.blt b N||seen.any (Nat.beq b)then I9 H N f r seen else
   match H.get b with
   | some o=>I9 H N f (r++T9 o) (seen++[b])
   | none=>I9 H N f r seen
def Stop.ids (S:Stop) (c:A8):List Nat:=
 I9 c.H S.N 1000 ((S.live.flatMap fun i=>Af 4 (look c.fr.tmps i))++(match c.fr.round with | some l=>[l] | none=>[])++c.fr.defers.flatMap dP++c.fr.todo.flatMap YB++c.cs.flatMap eV++(S.Lu.flatMap fun b=>match c.H.get b with | some o=>T9 o | none=>[])) []
def Stop.can (X:Ctx) (S:Stop) (c:A8):Option A8:=
 match D8 X c with
 | some c1=>bif Nat.ble S.N c1.H.next&&(S.ids c1).all (fun b=>Nat.blt b c1.H.next)then iZ S.N (S.Lu++S.ids c1) (S.ids c1) S.live c1 else none
 | none=>none
def L1 (X:Ctx) (pf:Pf) (f:FuncId) (ids:List Nat) (S:Stop) (Q:Value->List (Option AK)->Prop) (R:A8->Prop) (n:Nat):A8->Prop:=
 Nat.rec (motive:=fun _=>A8->Prop) (fun _=>False) (fun _ ih c=>match DX X f c with
  | some (v,H)=>Q v ((ids++Af 4 v).map H.get)
  | none=>bif S.here c then(match S.can X c with
   | some c2=>R c2
   | none=>False)
   else Ft X pf c ih) n
def Ad (X:Ctx) (N:Nat) (f:FuncId) (Q:Value->AA->Prop) (c:A8):Prop:=BC X N c fun c'=>∃v H,DX X f c'=some (v,H)/\Q v H
section
variable {X:Ctx}
theorem BW.Fk {N:Nat} {f:FuncId} {Q:Value->AA->Prop} {c:A8} (h:BW X f Q c):Ad X N f Q c:=Reach.Fk h
theorem Ad.mono {N:Nat} {f:FuncId} {Q Q':Value->AA->Prop} {c:A8} (h:Ad X N f Q c) (hi:∀v H,Q v H->Q' v H):Ad X N f Q' c:=
 BC.mono h fun _ ⟨v,H,a,b⟩=>⟨v,H,a,hi v H b⟩
theorem CJ {pf:Pf} (hpf:Eg X pf) {f:FuncId} {ids:List Nat} {S:Stop} (hl:(X.laid.all fun p=>Nat.blt p.1 S.N)=true) {Q:Value->List (Option AK)->Prop} {R:A8->Prop} {Q':Value->AA->Prop}
 (hQ:∀v H,Q v ((ids++Af 4 v).map H.get)->Q' v H) (hR:∀c,R c->Ad X S.N f Q' c):∀(n:Nat) (c:A8),L1 X pf f ids S Q R n c->Ad X S.N f Q' c:=by
 intro n;induction n with
 | zero=>intro c h;cases h
 | succ n ih=>
  intro c h;have h:(match DX X f c with
   | some (v,H)=>Q v ((ids++Af 4 v).map H.get)
   | none=>bif S.here c then(match S.can X c with
    | some c2=>R c2
    | none=>False)
    else Ft X pf c (L1 X pf f ids S Q R n)):=h
  split at h
  ·rename_i v H e;exact BC.here ⟨v,H,e,hQ v H h⟩
  ·cases hs:S.here c
   ·simp only[hs,cond_false]at h;exact BC.bind (Reach.Fk (Ge hpf h)) fun c' hc=>ih c' hc
   ·simp only[hs,cond_true]at h;split at h
    ·rename_i c2 hc;unfold Stop.can at hc;split at hc
     ·rename_i c1 h1;cases hb:(Nat.ble S.N c1.H.next&&(S.ids c1).all (fun b=>Nat.blt b c1.H.next))
      ·simp only[hb,cond_false]at hc;cases hc
      ·simp only[hb,cond_true]at hc;simp only[Bool.and_eq_true]at hb;have hr:=QQ (X:=X) hl (Nat.le_of_ble_eq_true hb.1) hb.2 hc (hR c2 h);exact BC.bind (Reach.Fk ((Mj.step h1).reach (Φ:=fun c'=>c'=c1) rfl)) fun c' e=>e ▸ hr
     ·cases hc
    ·cases h
def Aq (X:Ctx) (N:Nat) (D:Nat->Prop) (f:FuncId) (Q:Value->AA->Prop) (c:A8):Prop:=
 ∀(base:Env) (W0:World),(∀b T,base.dF b=some T->b < N)->(∀b,D b->∃T,base.dF b=some T)->EA X base W0->Fo X->∀(cs0:List Frame) (μ:Ai) (fr:Frame) (cs:List Frame) (W:World),Il X base W0 μ c fr cs W->
  ∃c',(∃v H v2 H2,DX X f c'=some (v,H)/\(∀μ1 W1 v',AM μ1 v v'->AT base W0 μ1 H W1->∃μ2,μ1.le μ2/\AT base W0 μ2 H2 W1/\AM μ2 v2 v')/\Q v2 H2)/\Ck X base W0 cs0 c' (lone fr (cs++cs0) W)
theorem Ad.IC {N:Nat} {D:Nat->Prop} {f:FuncId} {Q:Value->AA->Prop} {c:A8} (h:Ad X N f Q c):Aq X N D f Q c:=by
 intro base W0 hb _ hok hplan cs0 μ fr cs W hm;obtain⟨c',⟨v,H,h1,h2⟩,h3⟩:=h base W0 hb hok hplan cs0 μ fr cs W hm;exact⟨c',⟨v,H,v,H,h1,fun μ1 _ _ g h=>⟨μ1,Ai.le_refl _,h,g⟩,h2⟩,h3⟩
theorem Aq.mono {N:Nat} {D:Nat->Prop} {f:FuncId} {Q Q':Value->AA->Prop} {c:A8} (h:Aq X N D f Q c) (hi:∀v H,Q v H->Q' v H):Aq X N D f Q' c:=by
 intro base W0 hb hD hok hplan cs0 μ fr cs W hm;obtain⟨c',⟨v,H,v2,H2,h1,h2,h3⟩,h4⟩:=h base W0 hb hD hok hplan cs0 μ fr cs W hm;exact⟨c',⟨v,H,v2,H2,h1,h2,hi v2 H2 h3⟩,h4⟩
theorem Aq.sub {N:Nat} {D D':Nat->Prop} {f:FuncId} {Q:Value->AA->Prop} {c:A8} (h:Aq X N D f Q c) (hs:∀b,D b->D' b):Aq X N D' f Q c:=
 fun base W0 hb hD=>h base W0 hb fun b hb'=>hD b (hs b hb')
end
def Ib:AK->AK
 | .cells cs e _=> .cells cs e true
 | .vec k l _=> .vec k l true
 | .abs a _=> .abs a true
 | o=>o
theorem Rg {μ:Ai} {T:B7} {o:AK} {o':Obj} (h:Cs μ T o o'):Cs μ T (Ib o) o':=by
 cases h with
 | cells cs e ro c t lo hi he hc hr hf=>exact .cells T cs e true c t lo hi he hc hr (fun e=>by cases e)
 | loop l a R ht hd=>exact .loop T l a R ht hd
 | DR=>exact .DR T
 | deferred l l' h=>exact .deferred T l l' h
 | CZ s p hd=>exact .CZ T s p hd
 | map es es' clock h=>exact .map T es es' clock h
 | vec k l ro o h=>
  refine .vec T k l true o' ?_;cases h with
  | cells cs e ro c t lo hi he hc hr hf=>exact .cells T _ _ true c t lo hi he hc hr (fun e=>by cases e)
 | Ei k ro o he hr hk=>exact .Ei T k true o' he hr hk
 | abs a ro o=>exact .abs T a true o'
theorem Oo {o:AK} {T:B7}:(Ib o).void T ↔ o.void T:=by
 cases o with
 | abs a ro=>cases a<;>exact Iff.rfl
 | _=>exact Iff.rfl
theorem HM {ρ:Ren} {o o1:AK} (h:BV ρ o=some o1∨(o.ro=true/\BV ρ o=some (Ib o1))) (T:B7):o1.void T ↔ o.void T:=by
 rcases h with h | ⟨_,h⟩
 ·exact B1 h T
 ·exact Oo.symm.trans (B1 h T)
theorem P3 {ρ:Ren} {o o1:AK} (h:BV ρ o=some o1∨(o.ro=true/\BV ρ o=some (Ib o1))) (h2:o.ro=false):o1.ro=false:=by
 rcases h with h | ⟨h,_⟩
 ·rw[(DP h).1];exact h2
 ·rw[h2]at h;cases h
theorem Fy {ρ:Ren} {a:Ab} {ro:Bool} {o1:AK} (h:BV ρ (.abs a ro)=some o1):o1= .abs a ro/\a.ext=[]:=by
 simp only[BV]at h;cases hx:a.GI
 ·simp[hx]at h
 ·simp only[hx,cond_true,Option.some.injEq]at h;exact⟨h.symm,Ab.N5 hx⟩
theorem Rc {ρ:Ren} {a:Ab} {ro:Bool} {o1:AK} (h:BV ρ (.abs a ro)=some o1∨((AK.abs a ro).ro=true/\BV ρ (.abs a ro)=some (Ib o1))):(∃ro1,o1= .abs a ro1)/\a.ext=[]:=by
 rcases h with h | ⟨_,h⟩
 ·obtain⟨rfl,hx⟩:=Fy h;exact⟨⟨ro,rfl⟩,hx⟩
 ·obtain⟨h,hx⟩:=Fy h;cases o1<;>simp only[Ib,reduceCtorEq]at h
  cases h
  exact⟨⟨_,rfl⟩,hx⟩
theorem TR {ρ:Ren} {o o1:AK} (h:BV ρ o=some o1∨(o.ro=true/\BV ρ o=some (Ib o1))):o1.isAbs=o.isAbs:=by
 rcases h with h | ⟨_,h⟩
 ·exact(DP h).2.1
 ·have:=(DP h).2.1;rw[<-this];cases o1<;>rfl
open Classical in
theorem jA {X:Ctx} {base:Env} {W0:World} {μ:Ai} {H:AA} {W:World}
 (hok:∀b W0,Ds X b W0->EA X b W0) (hplan:Fo X) (hW:Ds X base W0) (hH:AT base W0 μ H W) (hlaid:Bp X μ)
 {f:FuncId} {n:Nat} {code:Code} (he:entry X.P f=some (n,code)) {Hc H':AA} {argsc args:List Value} {args':Array Value} {ρ:Ren} {v:Value}
 (hn:argsc.length<=n) (hargs:DI (FC ρ) argsc=some args) (ha:BD μ args args'.toList)
 (hlt:∀b i,ρ b=some i->b < Hc.next) (hdom:∀b i,ρ b=some i->∃T,μ i=some T) (hinj0:∀b1 b2 i,ρ b1=some i->ρ b2=some i->b1=b2) (hnext:H.next<=H'.next)
 (hlr:∀g,X.laid.any (fun p=>Nat.beq g p.1)=true->ρ g=some g)
 (hobj:∀b o,Hc.get b=some o->∃i o1,ρ b=some i/\H.get i=some o1/\(BV ρ o=some o1∨(o.ro=true/\BV ρ o=some (Ib o1))))
 (k1:∀i,i < H.next->(∀b o,Hc.get b=some o->o.ro=false->ρ b≠some i)->H'.get i=H.get i)
 (k3:∀i,H'.next<=i->H'.get i=none)
 (hrun:Aq X Hc.next (fun b=>∃i,ρ b=some i) f (fun vc Hf=>an Hc H H' ρ v vc Hf) (G3 f (Cb 0 argsc .leaf) n code Hc)):
 Calls X.P f args' W fun e W'=>∃v' μ',e= .returned v'/\AT base W0 μ' H' W'/\AM μ' v v'/\Ak μ H μ' H':=by
 obtain⟨φ,q⟩:=hH.abs;have hex:∀b o,Hc.get b=some o->o.ro=false->∃i o1,ρ b=some i/\H.get i=some o1/\BV ρ o=some o1:=by
  intro b o hb hr;obtain⟨i,o1,g1,g2,g3⟩:=hobj b o hb;rcases g3 with g3 | ⟨g3,_⟩
  ·exact⟨i,o1,g1,g2,g3⟩
  ·rw[hr]at g3;cases g3
 have hiN:∀b i,ρ b=some i->i < H.next:=fun b i hb=>let ⟨_,hT⟩:=hdom b i hb;hH.NY hT
 have hfree:∀b,Hc.next<=b->Hc.get b=none:=by
  intro b hb;cases hg:Hc.get b with
  | none=>rfl
  | some o=>obtain⟨i,_,h1,_⟩:=hobj b o hg;have:=hlt b i h1;omega
 let μc:Ai:=fun b=>(ρ b).bind μ
 have hμc:∀b i T,ρ b=some i->μ i=some T->μc b=some T:=fun b i T h1 h2=>by show(ρ b).bind μ=_;rw[h1];exact h2
 have hμc':∀b T,μc b=some T->∃i,ρ b=some i/\μ i=some T:=by
  intro b T h;have h:(ρ b).bind μ=some T:=h;cases hb:ρ b with
  | none=>rw[hb]at h;cases h
  | some i=>rw[hb]at h;exact⟨i,rfl,h⟩
 have hbw:∀b i T,ρ b=some i->μ i=some T->μc b=some T:=hμc
 let Own:Nat->Prop:=fun i=>(∃b o j T,Hc.get b=some o/\o.ro=false/\ρ b=some j/\μ j=some T/\¬o.void T/\i=T.c)∨(∃b a j,Hc.get b=some (.abs a false)/\ρ b=some j/\φ j i)
 let Ec:Env:={ base with K:=fun i=>i < W.heap.size/\¬Own i,dF:=μc }
 have hownK:∀i,Own i->¬base.K i:=by
  rintro i (⟨b,o,j,T,h1,h2,h3,h4,hv,rfl⟩ | ⟨b,a,j,h1,h2,h3⟩) hk
  ·obtain⟨i2,o1,g1,g2,g3⟩:=hex b o h1 h2;rw[h3]at g1;cases g1
   exact hH.own _ o1 g2 (by rw[(DP g3).1];exact h2) T h4 (fun hw=>hv ((B1 g3 T).1 hw)) hk
  ·obtain⟨i2,o1,g1,g2,g3⟩:=hex b _ h1 rfl;rw[h2]at g1;cases g1
   obtain⟨rfl,_⟩:=Fy g3;obtain⟨T,hT⟩:=hdom _ _ h2;exact(q.rep _ a false T g2 hT).2 rfl i h3 hk
 have hHc:AT Ec W μc Hc W:=by
  refine⟨?_,?_,?_,?_,?_,fun i hi=>hi.1,fun _ _=>rfl,rfl,rfl,?_,Ai.le_refl _,Nat.le_refl _⟩
  ·intro b o hb T hT;obtain⟨i,o1,g1,g2,g3⟩:=hobj b o hb;obtain⟨i2,e1,e2⟩:=hμc' b T hT;rw[g1]at e1;cases e1
   obtain⟨o',r1,r2⟩:=hH.obj _ o1 g2 T e2;rcases g3 with g3 | ⟨_,g3⟩
   ·exact⟨o',r1,NO hbw g3 r2⟩
   ·exact⟨o',r1,NO hbw g3 (Rg r2)⟩
  ·intro b o hb hr T hT hv hk;obtain⟨i2,e1,e2⟩:=hμc' b T hT;exact hk.2 (.inl ⟨b,o,i2,T,hb,hr,e1,e2,hv,rfl⟩)
  ·intro b1 b2 o1 o2 h1 h2 T1 T2 m1 m2 v1 v2 hc hrr;obtain⟨i1,e1,e2⟩:=hμc' b1 T1 m1;obtain⟨i2,e3,e4⟩:=hμc' b2 T2 m2;obtain⟨j1,p1,g1,g2,w1⟩:=hobj b1 o1 h1;obtain⟨j2,p2,g3,g4,w2⟩:=hobj b2 o2 h2;rw[e1]at g1;cases g1
   rw[e3]at g3;cases g3
   have:=hH.inj _ _ _ _ g2 g4 T1 T2 e2 e4 (fun hw=>v1 ((HM w1 T1).1 hw)) (fun hw=>v2 ((HM w2 T2).1 hw)) hc (hrr.imp (P3 w1) (P3 w2));subst this;exact hinj0 b1 b2 _ e1 e3
  ·intro b hb;refine⟨hfree b hb,?_⟩;cases hm:μc b with
   | none=>rfl
   | some T=>obtain⟨i,e1,_⟩:=hμc' b T hm;have:=hlt _ _ e1;omega
  ·intro b T hT;obtain⟨i,_,e2⟩:=hμc' b T hT;exact hH.bound i T e2
  ·refine⟨fun b=>match ρ b with | some j=>φ j | none=>fun _=>False,?_,?_⟩
   ·intro b a ro T hb hT;obtain⟨i,o1,g1,g2,g3⟩:=hobj b _ hb;obtain⟨i2,e1,e2⟩:=hμc' b T hT;rw[g1]at e1;cases e1
    obtain⟨⟨ro1,ho1⟩,hext⟩:=Rc g3;subst ho1;obtain⟨r1,_⟩:=q.rep _ a ro1 T g2 e2;simp only[g1];refine⟨r1.closed _ hext,fun hro i hi hk=>hk.2 (.inr ⟨b,a,_,by rw[<-hro];exact hb,g1,hi⟩)⟩
   ·intro b a ro T hb hT b2 o2 T2 hb2 hT2 hne;obtain⟨i,o1,g1,g2,g3⟩:=hobj b _ hb;obtain⟨i2,e1,e2⟩:=hμc' b T hT;rw[g1]at e1;cases e1
    obtain⟨⟨ro1,ho1⟩,hext⟩:=Rc g3;subst ho1;obtain⟨j,p1,g4,g5,g6⟩:=hobj b2 _ hb2;obtain⟨j2,e3,e4⟩:=hμc' b2 T2 hT2;rw[g4]at e3;cases e3
    have hne2:j≠i:=by
     rintro rfl;exact hne (hinj0 b2 b _ g4 g1)
    simp only[g1,g4];obtain⟨r1,r2⟩:=q.ER _ a ro1 T g2 e2 _ p1 T2 g5 e4 hne2;exact⟨fun hv2=>r1 (fun hw=>hv2 ((HM g6 T2).1 hw)),fun ea=>r2 (by rw[TR g6];exact ea)⟩
 have hlc:Bp X μc:=by
  intro g hg;obtain⟨T,h1,h2⟩:=hlaid g hg;exact⟨T,hμc g g T (hlr g hg) h1,h2⟩
 have hWc:Ds X Ec W:=by
  refine⟨hW.1,fun p hp=>?_⟩;obtain⟨h1,a,t,fz,h3,h4⟩:=hW.2 p hp;exact⟨⟨hH.size _ h1,fun ho=>hownK _ ho h1⟩,a,t,fz,by rw[hH.below _ h1];exact h3,h4⟩
 have hac:BD μc argsc args'.toList:=Fa (PX hbw 6) _ _ _ hargs ha;intro cs;obtain⟨c',⟨vc0,Hf0,vc,Hf,hd,hshut,ρ',hinj,hold,hnew,k2,hv⟩,μ0,fr1,cs1,W1,s1,m1⟩:=hrun Ec W (fun b T hT=>by obtain⟨i,h1,_⟩:=hμc' b T hT;exact hlt _ _ h1) (fun b ⟨i,hi⟩=>by obtain⟨T,hT⟩:=hdom b i hi;exact⟨T,hμc b i T hi hT⟩) (hok Ec W hWc) hplan cs μc _ [] W (GB hHc hlc he hac hn);obtain⟨rfl,hf,v',h1,h2o,h3o⟩:=HA m1 hd;obtain⟨μ1,_,h2,h3⟩:=hshut _ _ _ h3o h2o;have hs':Steps X.P (lone (Frame.enter X.P f args' .normal) cs W) (lone fr1 cs W1):=by simpa using s1
 refine⟨.returned v',W1,fr1,?_,hs',hf,h1⟩;have hle1:μc.le μ1:=h2.le;let μ':Ai:=fun i=>if i < H.next then μ i else if hx:∃b,ρ' b=some i/\Hc.next<=b then μ1 hx.choose else none
 have hμold:∀i,i < H.next->μ' i=μ i:=fun i hi=>by show(if _ then _ else _)=_;rw[if_pos hi]
 have hμnew:∀b i,ρ' b=some i->Hc.next<=b->μ' i=μ1 b:=by
  intro b i hb hge;have hi:=hnew b i hb hge;show(if i < H.next then μ i else if hx:∃b,ρ' b=some i/\Hc.next<=b then μ1 hx.choose else none)=_;rw[if_neg (by omega)];have hx:∃b,ρ' b=some i/\Hc.next<=b:=⟨b,hb,hge⟩
  rw[dif_pos hx,hinj _ b i hx.choose_spec.1 hb]
 have hμno:∀i,H.next<=i->(¬∃b,ρ' b=some i/\Hc.next<=b)->μ' i=none:=by
  intro i hi hx;show(if i < H.next then μ i else if hx:∃b,ρ' b=some i/\Hc.next<=b then μ1 hx.choose else none)=_;rw[if_neg (by omega),dif_neg hx]
 have hle:μ.le μ':=fun i T hT=>by rw[hμold i (hH.NY hT)];exact hT
 have hfw:∀b i T,ρ' b=some i->μ1 b=some T->μ' i=some T:=by
  intro b i T hb hT;rcases Nat.lt_or_ge b Hc.next with hlt' | hge
  ·rw[hold b hlt']at hb;obtain⟨T0,hT0⟩:=hdom b i hb;have:=hle1 b T0 (hμc b i T0 hb hT0);rw[hT]at this;cases this
   exact hle i T hT0
  ·rw[hμnew b i hb hge];exact hT
 have hsrc:∀i o T,H'.get i=some o->μ' i=some T->(∃b o0,ρ' b=some i/\Hf.get b=some o0/\BV ρ' o0=some o/\o0.ro=false/\μ1 b=some T)∨
  (i < H.next/\H.get i=some o/\μ i=some T/\∀b o,Hc.get b=some o->o.ro=false->ρ b≠some i):=by
  intro i o T hi hT
  by_cases hc:H.next<=i∨∃b o0,Hc.get b=some o0/\o0.ro=false/\ρ b=some i
  ·obtain⟨b,o0,g1,g2,g3,g4⟩:=k2 i o hi hc;refine .inl ⟨b,o0,g1,g2,g3,g4,?_⟩;rcases Nat.lt_or_ge b Hc.next with hlt' | hge
   ·have g1':=g1;rw[hold b hlt']at g1';have hiN':=hiN b i g1';rw[hμold i hiN']at hT;exact hle1 b T (hμc b i T g1' hT)
   ·rw[<-hμnew b i g1 hge];exact hT
  ·have hi1:i < H.next:=by
    rcases Nat.lt_or_ge i H.next with hh | hh
    ·exact hh
    ·exact absurd (.inl hh) hc
   have hnb:∀b o,Hc.get b=some o->o.ro=false->ρ b≠some i:=fun b o g1 g2 g3=>hc (.inr ⟨b,o,g1,g2,g3⟩)
   rw[k1 i hi1 hnb]at hi;rw[hμold i hi1]at hT;exact .inr ⟨hi1,hi,hT,hnb⟩
 have hkept:∀i o T,i < H.next->H.get i=some o->μ i=some T->¬o.void T->(∀b o,Hc.get b=some o->o.ro=false->ρ b≠some i)->Ec.K T.c:=by
  intro i o T hi ho hT hvo hnb;refine⟨hH.bound i T hT,?_⟩;rintro(⟨b,o2,j,T2,g1,g2,g3,g4,gv,g5⟩ | ⟨b,a,j,g1,g2,g3⟩)
  ·obtain⟨j2,p,e1,e2,e3⟩:=hobj b o2 g1;rw[g3]at e1;cases e1
   have:=hH.inj i j _ _ ho e2 T T2 hT g4 hvo (fun hw=>gv ((HM e3 T2).1 hw)) g5 (.inr (P3 e3 g2));subst this;exact hnb b o2 g1 g2 g3
  ·obtain⟨j2,p,e1,e2,e3⟩:=hex b _ g1 rfl;rw[g2]at e1;cases e1
   obtain⟨rfl,_⟩:=Fy e3;obtain⟨T2,hT2⟩:=hdom _ _ g2;have hne:i≠j:=by rintro rfl;exact hnb b _ g1 rfl g2
   exact(q.ER j a false T2 e2 hT2 i o T ho hT hne).1 hvo g3
 have hnotK:∀b o T,Hf.get b=some o->o.ro=false->μ1 b=some T->¬o.void T->¬base.K T.c:=by
  intro b o T g1 g2 g3 gv hk;have:=h2.own b o g1 g2 T g3 gv;refine this ⟨hH.size _ hk,fun ho=>hownK _ ho hk⟩
 obtain⟨φ1,q1⟩:=h2.abs;have hphiK:∀i a ro T,H.get i=some (.abs a ro)->μ i=some T->(∀b o,Hc.get b=some o->o.ro=false->ρ b≠some i)->∀j,φ i j->Ec.K j:=by
  intro i a ro T ho hT hnb j hj;have hr:=(q.rep i a ro T ho hT).1;refine⟨(DH.Gf _ _ _ _ hr).2 j hj,?_⟩;rintro(⟨b,o2,j2,T2,g1,g2,g3,g4,gv,rfl⟩ | ⟨b,a2,j2,g1,g2,g3⟩)
  ·obtain⟨j3,p,e1,e2,e3⟩:=hobj b o2 g1;rw[g3]at e1;cases e1
   have hne:j2≠i:=by rintro rfl;exact hnb b o2 g1 g2 g3
   exact(q.ER i a ro T ho hT j2 p T2 e2 g4 hne).1 (fun hw=>gv ((HM e3 T2).1 hw)) hj
  ·obtain⟨j3,p,e1,e2,e3⟩:=hex b _ g1 rfl;rw[g2]at e1;cases e1
   obtain⟨rfl,_⟩:=Fy e3;obtain⟨T2,hT2⟩:=hdom _ _ g2;have hne:j2≠i:=by rintro rfl;exact hnb b _ g1 rfl g2
   exact(q.ER i a ro T ho hT j2 _ T2 e2 hT2 hne).2 rfl j hj g3
 refine⟨v',μ',rfl,⟨?_,?_,?_,?_,?_,?_,?_,?_,?_,?_,?_,?_⟩,QV hfw 6 _ _ _ hv h3,hle,hnext,?_⟩
 ·intro i o hi T hT;rcases hsrc i o T hi hT with⟨b,o0,g1,g2,g3,g4,g5⟩ | ⟨g1,g2,g3,g4⟩
  ·obtain⟨o',r1,r2⟩:=h2.obj b o0 g2 T g5;exact⟨o',r1,Rl hfw g3 r2⟩
  ·obtain⟨o',r1,r2⟩:=Cs.Ks (W':=W1) (hH.obj i o g2 T g3) h2.grow (fun hv=>h2.below _ (hkept i o T g1 g2 g3 hv g4));exact⟨o',r1,r2.mono hle⟩
 ·intro i o hi hr T hT hv;rcases hsrc i o T hi hT with⟨b,o0,g1,g2,g3,g4,g5⟩ | ⟨g1,g2,g3,g4⟩
  ·exact hnotK b o0 T g2 g4 g5 (fun hw=>hv ((B1 g3 T).2 hw))
  ·exact hH.own i o g2 hr T g3 hv
 ·intro i1 i2 o1 o2 e1 e2 T1 T2 m1 m2 v1 v2 hc hrr;rcases hsrc i1 o1 T1 e1 m1 with⟨b1,p1,g1,g2,g3,g4,g5⟩ | ⟨g1,g2,g3,g4⟩<;>rcases hsrc i2 o2 T2 e2 m2 with⟨b2,p2,f1,f2,f3,f4,f5⟩ | ⟨f1,f2,f3,f4⟩
  ·have:=h2.inj b1 b2 _ _ g2 f2 T1 T2 g5 f5 (fun hw=>v1 ((B1 g3 T1).2 hw)) (fun hw=>v2 ((B1 f3 T2).2 hw)) hc (.inl g4);subst this;rw[g1]at f1;cases f1;rfl
  ·exact absurd (hc ▸ hkept i2 o2 T2 f1 f2 f3 v2 f4) (h2.own b1 p1 g2 g4 T1 g5 (fun hw=>v1 ((B1 g3 T1).2 hw)))
  ·exact absurd (hc ▸ hkept i1 o1 T1 g1 g2 g3 v1 g4) (h2.own b2 p2 f2 f4 T2 f5 (fun hw=>v2 ((B1 f3 T2).2 hw)))
  ·exact hH.inj i1 i2 _ _ g2 f2 T1 T2 g3 f3 v1 v2 hc hrr
 ·intro i hi;refine⟨k3 i hi,hμno i (by omega) ?_⟩;rintro⟨b,g1,g2⟩;have:=(hnew b i g1 g2).2;omega
 ·intro i T hT;rcases Nat.lt_or_ge i H.next with hh | hh
  ·rw[hμold i hh]at hT;have:=hH.bound i T hT;have:=h2.grow;omega
  ·by_cases hx:∃b,ρ' b=some i/\Hc.next<=b
   ·obtain⟨b,g1,g2⟩:=hx;rw[hμnew b i g1 g2]at hT;exact h2.bound b T hT
   ·rw[hμno i hh hx]at hT;cases hT
 ·intro i hi;have:=hH.size i hi;have:=h2.grow;omega
 ·intro i hi;rw[h2.below i ⟨hH.size i hi,fun ho=>hownK i ho hi⟩];exact hH.below i hi
 ·rw[h2.out];exact hH.out
 ·rw[h2.os];exact hH.os
 ·let C:Nat->Nat->Prop:=fun b i=>ρ' b=some i/\(H.next<=i∨∃o1,Hc.get b=some o1/\o1.ro=false)
  let φ':Nat->Nat->Prop:=fun i j=>(∃b,C b i/\φ1 b j)∨((¬∃b,C b i)/\φ i j)
  have hCin:∀b i,C b i->φ' i=φ1 b:=by
   intro b i hb
   funext j
   refine propext ⟨?_,fun hj=> .inl ⟨b,hb,hj⟩⟩;rintro(⟨b2,g1,g2⟩ | ⟨g1,_⟩)
   ·rw[hinj b b2 i hb.1 g1.1];exact g2
   ·exact absurd ⟨b,hb⟩ g1
  have hCout:∀i,i < H.next->(∀b o,Hc.get b=some o->o.ro=false->ρ b≠some i)->φ' i=φ i:=by
   intro i hi hnb;have hno:¬∃b,C b i:=by
    rintro⟨b,g1,g2 | ⟨o1,g2,g3⟩⟩
    ·omega
    ·obtain⟨i2,_,e1,_⟩:=hobj b o1 g2;rw[hold b (hlt _ _ e1)]at g1;exact hnb b o1 g2 g3 g1
   funext j
   refine propext ⟨?_,fun hj=> .inr ⟨hno,hj⟩⟩;rintro(⟨b2,g1,g2⟩ | ⟨_,g2⟩)
   ·exact absurd ⟨b2,g1⟩ hno
   ·exact g2
  have hsrc2:∀i o T,H'.get i=some o->μ' i=some T->(∃b o0,C b i/\Hf.get b=some o0/\BV ρ' o0=some o/\o0.ro=false/\μ1 b=some T)∨
   (i < H.next/\H.get i=some o/\μ i=some T/\∀b o,Hc.get b=some o->o.ro=false->ρ b≠some i):=by
   intro i o T hi hT;rcases hsrc i o T hi hT with⟨b,o0,g1,g2,g3,g4,g5⟩ | h
   ·by_cases hc:H.next<=i∨∃b o0,Hc.get b=some o0/\o0.ro=false/\ρ b=some i
    ·refine .inl ⟨b,o0,⟨g1,?_⟩,g2,g3,g4,g5⟩;rcases hc with hc | ⟨b2,o2,e1,e2,e3⟩
     ·exact .inl hc
     ·have:b=b2:=hinj b b2 i g1 (by rw[hold b2 (hlt _ _ e3)];exact e3);subst this;exact .inr ⟨o2,e1,e2⟩
    ·have hi1:i < H.next:=by
      rcases Nat.lt_or_ge i H.next with hh | hh
      ·exact hh
      ·exact absurd (.inl hh) hc
     have hnb:∀b o,Hc.get b=some o->o.ro=false->ρ b≠some i:=fun b o g1 g2 g3=>hc (.inr ⟨b,o,g1,g2,g3⟩)
     rw[k1 i hi1 hnb]at hi;rw[hμold i hi1]at hT;exact .inr ⟨hi1,hi,hT,hnb⟩
   ·exact .inr h
  refine⟨φ',?_,?_⟩
  ·intro i a ro T hi hT;rcases hsrc2 i _ T hi hT with⟨b,o0,g1,g2,g3,g4,g5⟩ | ⟨g1,g2,g3,g4⟩
   ·obtain⟨e0,hext⟩:=(DP g3).2.2 a ro rfl;subst e0;obtain⟨r1,r2⟩:=q1.rep b a ro T g2 g5;rw[hCin b i g1];exact⟨r1.closed _ hext,fun hro j hj hk=>r2 hro j hj ⟨hH.size j hk,fun ho=>hownK j ho hk⟩⟩
   ·obtain⟨r1,r2⟩:=q.rep i a ro T g2 g3;rw[hCout i g1 g4];exact⟨(DH.loc _ _ _ _ _ h2.grow r1 (fun j hj=>h2.below j (hphiK i a ro T g2 g3 g4 j hj))).mono hle,r2⟩
  ·intro i a ro T hi hT i2 o2 T2 hi2 hT2 hne;rcases hsrc2 i _ T hi hT with⟨b,o0,g1,g2,g3,g4,g5⟩ | ⟨g1,g2,g3,g4⟩<;>rcases hsrc2 i2 _ T2 hi2 hT2 with⟨b2,p0,f1,f2,f3,f4,f5⟩ | ⟨f1,f2,f3,f4⟩
   ·obtain⟨e0,hext⟩:=(DP g3).2.2 a ro rfl;subst e0;rw[hCin b i g1,hCin b2 i2 f1];have hbn:b2≠b:=by
     rintro rfl;have:=g1.1;rw[f1.1]at this;cases this;exact hne rfl
    obtain⟨r1,r2⟩:=q1.ER b a ro T g2 g5 b2 p0 T2 f2 f5 hbn;exact⟨fun hv2=>r1 (fun hw=>hv2 ((B1 f3 T2).2 hw)),fun ea=>r2 (by rw[<-(DP f3).2.1];exact ea)⟩
   ·obtain⟨e0,hext⟩:=(DP g3).2.2 a ro rfl;subst e0;rw[hCin b i g1,hCout i2 f1 f4];have hnk:=(q1.rep b a ro T g2 g5).2 g4;refine⟨fun hv2 hc=>hnk _ hc (hkept i2 o2 T2 f1 f2 f3 hv2 f4),fun ea j hj hj2=>?_⟩;obtain⟨a2,ro2,rfl⟩:=DY ea;exact hnk _ hj (hphiK i2 a2 ro2 T2 f2 f3 f4 j hj2)
   ·rw[hCout i g1 g4,hCin b2 i2 f1];refine⟨fun hv2 hc=>h2.own b2 p0 f2 f4 T2 f5 (fun hw=>hv2 ((B1 f3 T2).2 hw)) (hphiK i a ro T g2 g3 g4 _ hc),fun ea j hj hj2=>?_⟩;have ea0:p0.isAbs=true:=by rw[<-(DP f3).2.1];exact ea
    obtain⟨a2,ro2,rfl⟩:=DY ea0;exact(q1.rep b2 a2 ro2 T2 f2 f5).2 f4 j hj2 (hphiK i a ro T g2 g3 g4 _ hj)
   ·rw[hCout i g1 g4,hCout i2 f1 f4];exact q.ER i a ro T g2 g3 i2 o2 T2 f2 f3 hne
 ·exact Ai.le_trans hH.le hle
 ·have:=hH.grow;have:=h2.grow;omega
 ·intro i hi hm;refine⟨by rw[hμold i hi];exact hm,k1 i hi ?_⟩;intro b o g1 g2 g3;obtain⟨T,hT⟩:=hdom b i g3;rw[hm]at hT;cases hT
def dQ (P:Program) (laid:List (Nat × List Value)):Ctx:=⟨P,laid,fun _=>none,J4 P⟩
def C3 (P:Program) (laid:List (Nat × List Value)) (f:FuncId) (F:Cn):Prop:=
 (∃n c,entry P f=some (n,c))/\∀base W0 μ H W (args:List Value) (args':Array Value) v H',Ds (dQ P laid) base W0->AT base W0 μ H W->Bp (dQ P laid) μ->BD μ args args'.toList->F args H=some (v,H')->
  Calls P f args' W fun e W'=>∃v' μ',e= .returned v'/\AT base W0 μ' H' W'/\AM μ' v v'/\Ak μ H μ' H'
def Un:List (FuncId × Cn)->FuncId->Option Cn
 | [],_=>none
 | p::r,f=>bif Nat.beq p.1 f then some p.2 else Un r f
def Cx (P:Program) (laid:List (Nat × List Value)) (fs:List (FuncId × Cn)):Ctx:=⟨P,laid,Un fs,J4 P⟩
theorem WK:∀{fs:List (FuncId × Cn)} {f:FuncId} {F:Cn},Un fs f=some F->(f,F)∈fs:=by
 intro fs;induction fs with
 | nil=>intro f F h;cases h
 | cons p r ih=>
  intro f F h;unfold Un at h;cases hb:Nat.beq p.1 f
  ·rw[hb]at h;exact List.mem_cons_of_mem _ (ih h)
  ·rw[hb]at h;cases h
   have:=Nat.eq_of_beq_eq_true hb;rw[<-this];simp
def A4 (P:Program) (laid:List (Nat × List Value)) (fs:List (FuncId × Cn)):Prop:=∀p∈fs,C3 P laid p.1 p.2
theorem A4.nil (P:Program) (laid:List (Nat × List Value)):A4 P laid []:=fun _ h=>by cases h
theorem A4.cons {P:Program} {laid:List (Nat × List Value)} {f:FuncId} {F:Cn} {fs:List (FuncId × Cn)} (h:C3 P laid f F) (h':A4 P laid fs):A4 P laid ((f,F)::fs):=by
 intro p hp;rcases List.mem_cons.1 hp with rfl | hp
 ·exact h
 ·exact h' p hp
theorem A4.Ep {P:Program} {laid:List (Nat × List Value)} {fs:List (FuncId × Cn)} (h:A4 P laid fs) (base:Env) (W0:World) (hW:Ds (Cx P laid fs) base W0):EA (Cx P laid fs) base W0:=by
 intro f F hf;have hp:=h _ (WK hf);exact⟨hp.1,fun μ H W args args' v H' hH hl ha hF=>hp.2 base W0 μ H W args args' v H' hW hH hl ha hF⟩
theorem VE {P:Program} {laid:List (Nat × List Value)} {k:Ow} (h:JL P laid k):C3 P laid k.f (Tz k):=by
 refine⟨h.1,?_⟩;intro base W0 μ H W args args' v H' hW hH hl ha hF;unfold Tz at hF;cases hb:Is (IF 8) args k.args
 ·rw[hb]at hF;cases hF
 ·rw[hb]at hF;cases hF
  obtain rfl:=HJ (R5 8) _ _ hb;exact h.2 base W0 μ H W args' hW hH ha
inductive AV where
 | flat (v:Value)
 | row (k:EK) (l:List (EK.C k))
def argsAt:Nat->List AV->List Value
 | _,[]=>[]
 | n,.flat v::r=>v::argsAt n r
 | n,.row _ l::r=> .slice (some ⟨n,0,some 0⟩) l.length AF::argsAt (n+1) r
def PN (H:AA) (ro:Bool):List (Σ k:EK,List (EK.C k))->AA
 | []=>H
 | ⟨k,l⟩::r=>PN (H.alloc (.vec k l ro)) ro r
inductive RV where
 | one (a:AV)
 | many (l:List AV)
inductive RT where
 | fail
 | ret (r:RV)
 | test (c:Bool) (a b:RT)
def RT.run:RT->Option RV
 | .fail=>none
 | .ret r=>some r
 | .test c a b=>bif c then a.run else b.run
def RT.Uc:RT->(RV->Prop)->Prop
 | .fail,_=>False
 | .ret r,K=>K r
 | .test c a b,K=>bif c then a.Uc K else b.Uc K
theorem RT.GW {K:RV->Prop}:∀{t:RT},t.Uc K->∃r,t.run=some r/\K r
 | .fail,h=>by cases h
 | .ret r,h=>⟨r,rfl,h⟩
 | .test c a b,h=>by
  cases c
  ·exact RT.GW (t:=b) h
  ·exact RT.GW (t:=a) h
def RV.list:RV->List AV
 | .one a=>[a]
 | .many l=>l
def RV.val (n:Nat):RV->Value
 | .one a=>match argsAt n [a]with
  | [v]=>v
  | _=>Bn
 | .many l=> .tuple ⟨argsAt n l⟩
abbrev Row:=Σ k:EK,List (EK.C k)
def nodupB:List Nat->Bool
 | []=>true
 | b::r=> !(r.any (Nat.beq b))&&nodupB r
theorem IZ {ρ:Ren}:∀(n:Nat) (v:Value),Ct n v=true->Bz ρ n v=some v:=by
 intro n;induction n with
 | zero=>intro v h;cases h
 | succ n ih=>
  have hl:∀l:List Value,l.all (Ct n)=true->DI (Bz ρ n) l=some l:=by
   intro l;induction l with
   | nil=>intro _;rfl
   | cons a l ihl=>
    intro h;simp only[List.all_cons,Bool.and_eq_true]at h;simp only[DI,ih a h.1,ihl h.2]
  intro v h;cases v with
  | iface t v=>simp only[Ct]at h;simp only[Bz,ih v h,Option.map_some]
  | agg cs=>simp only[Ct]at h;simp only[Bz,hl _ h,Option.map_some]
  | tuple cs=>simp only[Ct]at h;simp only[Bz,hl _ h,Option.map_some]
  | pointer a=>cases a with
   | none=>rfl
   | some a=>simp[Ct]at h
  | slice a l c=>cases a with
   | none=>rfl
   | some a=>simp[Ct]at h
  | map a=>cases a with
   | none=>rfl
   | some a=>simp[Ct]at h
  | _=>first | rfl | (simp[Ct]at h)
def posOf (b:Nat):List Nat->Option Nat
 | []=>none
 | a::r=>if b=a then some 0 else(posOf b r).map (·+1)
theorem KR {b:Nat}:∀{l:List Nat} {j:Nat},posOf b l=some j->l[j]? = some b
 | [],_,h=>by cases h
 | a::r,j,h=>by
  unfold posOf at h;split at h
  ·rename_i e;cases h;rw[e];rfl
  ·obtain⟨q,h1,rfl⟩:=Option.map_eq_some_iff.1 h;rw[List.getElem?_cons_succ];exact KR h1
theorem Ix {b:Nat}:∀{l:List Nat} {j:Nat},l.Nodup->l[j]? = some b->posOf b l=some j
 | [],_,_,h=>by cases h
 | a::r,0,_,h=>by
  simp only[List.getElem?_cons_zero,Option.some.injEq]at h;unfold posOf;rw[if_pos h.symm]
 | a::r,j+1,hn,h=>by
  simp only[List.getElem?_cons_succ]at h;have hn:=List.nodup_cons.1 hn;have hne:b≠a:=by rintro rfl;exact hn.1 (List.mem_of_getElem? h)
  unfold posOf;rw[if_neg hne,Ix hn.2 h];rfl
theorem VB {l:List Nat} (hn:l.Nodup) {i j b:Nat} (h1:l[i]? = some b) (h2:l[j]? = some b):i=j:=by
 have e1:=Ix hn h1;rw[Ix hn h2]at e1;cases e1;rfl
structure IL where
 v:Value
 Lu:List (Option AK)
 news:List AK
inductive GT where
 | fail
 | ret (x:IL)
 | test (c:Bool) (a b:GT)
 | ask (p:Prop) (a:GT)
open Classical in
def GT.run:GT->Option IL
 | .fail=>none
 | .ret x=>some x
 | .test c a b=>bif c then a.run else b.run
 | .ask p a=>if p then a.run else none
def GT.Uc:GT->(IL->Prop)->Prop
 | .fail,_=>False
 | .ret x,K=>K x
 | .test c a b,K=>bif c then a.Uc K else b.Uc K
 | .ask p a,K=>p/\a.Uc K
theorem GT.GW {K:IL->Prop}:∀{t:GT},t.Uc K->∃x,t.run=some x/\K x
 | .fail,h=>by cases h
 | .ret x,h=>⟨x,rfl,h⟩
 | .test c a b,h=>by
  cases c
  ·exact GT.GW (t:=b) h
  ·exact GT.GW (t:=a) h
 | .ask p a,h=>by
  obtain⟨x,h1,h2⟩:=GT.GW (t:=a) h.2;exact⟨x,by simp only[GT.run];rw[if_pos h.1];exact h1,h2⟩
def Lh (laid:List (Nat × List Value)) (N:Nat) (b:Nat):Option Nat:=bif Nat.blt b N&&laid.any (fun p=>Nat.beq b p.1)then some b else none
def E5 (laid:List (Nat × List Value)) (N:Nat) (bs:List Nat):Ren:=fun b=>bif Nat.blt b N then Lh laid N b else bs[b - N]?
def OG (laid:List (Nat × List Value)) (N:Nat) (bs:List Nat):Ren:=fun b=>bif Nat.blt b N then Lh laid N b else Rw b bs N
def Pz (ρ:Ren) (H:AA):List Nat->Option (List AK)
 | []=>some []
 | b::r=>match H.get b with
  | some o=>match BV ρ o,Pz ρ H r with
   | some o1,some l=>some (o1::l)
   | _,_=>none
  | none=>none
def Eu:AK->List Nat
 | .cells cs _ _=>cs.flatMap (Af 4)
 | .vec [.tok] l _=>List.flatMap (Af 4) l
 | _=>[]
def Am (H:AA) (N:Nat):Nat->List Nat->List Nat->List Nat
 | 0,_,seen=>seen
 | f+1,todo,seen=>match todo with
  | []=>seen
  | b::r=>bif Nat.blt b N||seen.any (Nat.beq b)then Am H N f r seen else
   match H.get b with
   | some o=>Am H N f (Eu o++r) (seen++[b])
   | none=>Am H N f r seen
def Ch (Bj:List Bool) (j:Nat):Bool:=Bj.getD j false
def GP (Bj:List Bool):Nat->List AK->List AK
 | _,[]=>[]
 | j,o::r=>(bif Ch Bj j then o else Ib o)::GP Bj (j+1) r
def BH (H:AA):List AK->AA
 | []=>H
 | o::r=>BH (H.alloc o) r
def FD (Bj:List Bool) (H:AA):Nat->List Nat->Bool
 | _,[]=>true
 | j,b::r=>(bif Ch Bj j then(match H.get b with | some o=> !o.ro | none=>false)else true)&&FD Bj H (j+1) r
def Fu (ρ:Ren) (Bj:List Bool) (H:AA):Nat->List Nat->List (Option AK)->Option AA
 | _,[],_=>some H
 | j,b::r,os=>bif Ch Bj j then
  match os with
  | some o::os=>match BV ρ o with
   | some o1=>bif o1.ro then none else Fu ρ Bj (H.put b o1) (j+1) r os
   | none=>none
  | none::os=>Fu ρ Bj (H.del b) (j+1) r os
  | []=>Fu ρ Bj (H.del b) (j+1) r []
  else Fu ρ Bj H (j+1) r os.tail
def au (ρ:Ren) (H:AA):List AK->Option AA
 | []=>some H
 | o::r=>match BV ρ o with
  | some o1=>bif o1.ro then none else au ρ (H.alloc o1) r
  | none=>none
def Fm (laid:List (Nat × List Value)) (N:Nat) (bs:List Nat) (nx k:Nat):Ren:=E5 laid N (bs++(List.range k).map (nx+·))
def Kz (laid:List (Nat × List Value)) (N:Nat) (Bj:List Bool) (bs:List Nat) (H:AA) (x:IL):Option (Value × AA):=
 match FC (Fm laid N bs H.next x.news.length) x.v,Fu (Fm laid N bs H.next x.news.length) Bj H 0 bs x.Lu with
 | some v,some H1=>match au (Fm laid N bs H.next x.news.length) H1 x.news with
  | some H2=>some (v,H2)
  | none=>none
 | _,_=>none
def Al (laid:List (Nat × List Value)) (N:Nat) (Bj:List Bool) (G:List Value->List AK->GT):Cn:=fun args H=>
 match DI (FC (OG laid N (Am H N 200 (args.flatMap (Af 4)) []))) args,Pz (OG laid N (Am H N 200 (args.flatMap (Af 4)) [])) H (Am H N 200 (args.flatMap (Af 4)) [])with
 | some argsc,some objs=>bif FD Bj H 0 (Am H N 200 (args.flatMap (Af 4)) [])then
  match (G argsc objs).run with
  | some x=>Kz laid N Bj (Am H N 200 (args.flatMap (Af 4)) []) H x
  | none=>none
  else none
 | _,_=>none
def BU (laid:List (Nat × List Value)) (N:Nat) (Bj:List Bool) (G:List Value->List AK->GT):EB:=fun args H K=>
 match DI (FC (OG laid N (Am H N 200 (args.flatMap (Af 4)) []))) args,Pz (OG laid N (Am H N 200 (args.flatMap (Af 4)) [])) H (Am H N 200 (args.flatMap (Af 4)) [])with
 | some argsc,some objs=>bif FD Bj H 0 (Am H N 200 (args.flatMap (Af 4)) [])then
  (G argsc objs).Uc fun x=>match Kz laid N Bj (Am H N 200 (args.flatMap (Af 4)) []) H x with
   | some (v,H')=>K v H'
   | none=>False
  else False
 | _,_=>False
theorem A9 {X:Ctx} {laid:List (Nat × List Value)} {f:FuncId} {N:Nat} {Bj:List Bool} {G:List Value->List AK->GT} (hX:X.Ep f=some (Al laid N Bj G)) {args:List Value} {H:AA} {K:Value->AA->Prop} (h:BU laid N Bj G args H K):
 ∃v H',Bd X f args .normal H=some (v,H')/\K v H':=by
 unfold BU at h;split at h
 ·rename_i argsc objs h1 h2;cases hm:FD Bj H 0 (Am H N 200 (args.flatMap (Af 4)) [])
  ·simp only[hm,cond_false]at h
  ·simp only[hm,cond_true]at h;obtain⟨x,hx,h3⟩:=GT.GW h;split at h3
   ·rename_i v H' he;refine⟨v,H',?_,h3⟩;unfold Bd;simp only[hX];unfold Al;simp only[h1,h2,hm,cond_true,hx,he]
   ·cases h3
 ·cases h
def CY (laid:List (Nat × List Value)) (N m:Nat) (Bj:List Bool) (x:IL) (v:Value) (Hf:AA):Prop:=
 ∃ns:List Nat,ns.Nodup/\(∀b∈ns,N+m<=b)/\ns.length=x.news.length/\FC (ID laid N m ns) x.v=some v/\
  (∀(j b:Nat) (o:AK),ns[j]? = some b->x.news[j]? = some o->∃o1,BV (ID laid N m ns) o=some o1/\Hf.get b=some o1)/\
  (∀(j:Nat) (o:AK),j < m->Ch Bj j=true->x.Lu[j]? = some (some o)->∃o1,BV (ID laid N m ns) o=some o1/\Hf.get (N+j)=some o1)
where
 ID (laid:List (Nat × List Value)) (N m:Nat) (ns:List Nat):Ren:=fun b=>if b < N then Lh laid N b else if b < N+m then some b else ns[b - (N+m)]?
theorem FW {f g:Value->Option Value} (h:∀v w,f v=some w->g w=some v):∀(l m:List Value),DI f l=some m->DI g m=some l
 | [],_,e=>by cases e;rfl
 | v::l,m,e=>by
  simp only[DI]at e;split at e
  ·rename_i w k e1 e2;cases e
   simp only[DI,h _ _ e1,FW h l k e2]
  ·cases e
theorem QJ {σ τ:Ren} (h:∀b c,σ b=some c->τ c=some b):∀(n:Nat) (v w:Value),Bz σ n v=some w->Bz τ n w=some v:=by
 intro n;induction n with
 | zero=>intro v w e;cases e
 | succ n ih=>
  intro v w e;cases v with
  | bool b=>cases e;rfl
  | int k m=>cases e;rfl
  | float k m=>cases e;rfl
  | string s=>cases e;rfl
  | pointer a=>
   cases a with
   | none=>cases e;rfl
   | some a=>
    simp only[Bz,Option.map_eq_some_iff]at e;obtain⟨a1,h1,rfl⟩:=e;obtain⟨b,o,s,i,rfl,h2,rfl⟩:=D3 h1;simp only[Bz,PM,h _ _ h2,Option.map_some]
  | slice a l c=>
   cases a with
   | none=>cases e;rfl
   | some a=>
    simp only[Bz,Option.map_eq_some_iff]at e;obtain⟨a1,h1,rfl⟩:=e;obtain⟨b,o,s,i,rfl,h2,rfl⟩:=D3 h1;simp only[Bz,PM,h _ _ h2,Option.map_some]
  | map a=>
   cases a with
   | none=>cases e;rfl
   | some a=>
    simp only[Bz,Option.map_eq_some_iff]at e;obtain⟨i,h1,rfl⟩:=e;simp only[Bz,h _ _ h1,Option.map_some]
  | nilFunc=>cases e;rfl
  | nilIface=>cases e;rfl
  | iface t v=>
   simp only[Bz,Option.map_eq_some_iff]at e;obtain⟨w1,h1,rfl⟩:=e;simp only[Bz,ih _ _ h1,Option.map_some]
  | agg cs=>
   simp only[Bz,Option.map_eq_some_iff]at e;obtain⟨l,h1,rfl⟩:=e;simp only[Bz,FW ih _ _ h1,Option.map_some]
  | tuple cs=>
   simp only[Bz,Option.map_eq_some_iff]at e;obtain⟨l,h1,rfl⟩:=e;simp only[Bz,FW ih _ _ h1,Option.map_some]
  | func f xs ys=>
   cases f with
   | func f=>
    simp only[Bz]at e;split at e
    ·rename_i a b e1 e2;cases e
     simp only[Bz,FW ih _ _ e1,FW ih _ _ e2]
    ·cases e
   | _=>simp[Bz]at e
  | chan c=>
   cases c with
   | none=>simp[Bz]at e
   | some k=>
    cases k with
    | zero=>cases e;rfl
    | succ k=>simp[Bz]at e
  | _=>simp[Bz]at e
theorem Ry {σ τ:Ren} (h:∀b c,σ b=some c->τ c=some b) {o o1:AK} (e:BV σ o=some o1):BV τ o1=some o:=by
 cases o with
 | cells cs k ro=>
  simp only[BV,Option.map_eq_some_iff]at e;obtain⟨l,h1,rfl⟩:=e;simp only[BV,FW (QJ h 6) _ _ h1,Option.map_some]
 | vec k l ro=>
  rcases Nk e with⟨l2,l1,e2,h1,rfl⟩ | ⟨hk,rfl⟩
  ·cases e2
   exact Mm (FW (QJ h 6) _ _ h1)
  ·exact H5 _ hk _ _
 | abs a ro=>
  simp only[BV]at e;cases hx:a.GI
  ·simp[hx]at e
  ·simp only[hx,cond_true,Option.some.injEq]at e;subst e;simp only[BV,hx,cond_true]
 | _=>simp[BV]at e
theorem E7 {f g k:Value->Option Value} (h:∀v w,f v=some w->g w=k v):∀(l m:List Value),DI f l=some m->DI g m=DI k l
 | [],_,e=>by cases e;rfl
 | v::l,m,e=>by
  simp only[DI]at e;split at e
  ·rename_i w q e1 e2;cases e
   simp only[DI,h _ _ e1,E7 h l q e2]
  ·cases e
theorem NM {σ τ υ:Ren} (h:∀b c,σ b=some c->τ c=υ b):∀(n:Nat) (v w:Value),Bz σ n v=some w->Bz τ n w=Bz υ n v:=by
 intro n;induction n with
 | zero=>intro v w e;cases e
 | succ n ih=>
  intro v w e;cases v with
  | bool b=>cases e;rfl
  | int k m=>cases e;rfl
  | float k m=>cases e;rfl
  | string s=>cases e;rfl
  | pointer a=>
   cases a with
   | none=>cases e;rfl
   | some a=>
    simp only[Bz,Option.map_eq_some_iff]at e;obtain⟨a1,h1,rfl⟩:=e;obtain⟨b,o,s,i,rfl,h2,rfl⟩:=D3 h1;simp only[Bz,PM,h _ _ h2]
  | slice a l c=>
   cases a with
   | none=>cases e;rfl
   | some a=>
    simp only[Bz,Option.map_eq_some_iff]at e;obtain⟨a1,h1,rfl⟩:=e;obtain⟨b,o,s,i,rfl,h2,rfl⟩:=D3 h1;simp only[Bz,PM,h _ _ h2]
  | map a=>
   cases a with
   | none=>cases e;rfl
   | some a=>
    simp only[Bz,Option.map_eq_some_iff]at e;obtain⟨i,h1,rfl⟩:=e;simp only[Bz,h _ _ h1]
  | nilFunc=>cases e;rfl
  | nilIface=>cases e;rfl
  | iface t v=>
   simp only[Bz,Option.map_eq_some_iff]at e;obtain⟨w1,h1,rfl⟩:=e;simp only[Bz,ih _ _ h1]
  | agg cs=>
   simp only[Bz,Option.map_eq_some_iff]at e;obtain⟨l,h1,rfl⟩:=e;simp only[Bz,E7 ih _ _ h1]
  | tuple cs=>
   simp only[Bz,Option.map_eq_some_iff]at e;obtain⟨l,h1,rfl⟩:=e;simp only[Bz,E7 ih _ _ h1]
  | func f xs ys=>
   cases f with
   | func f=>
    simp only[Bz]at e;split at e
    ·rename_i a b e1 e2;cases e
     simp only[Bz,E7 ih _ _ e1,E7 ih _ _ e2]
    ·cases e
   | _=>simp[Bz]at e
  | chan c=>
   cases c with
   | none=>simp[Bz]at e
   | some k=>
    cases k with
    | zero=>cases e;rfl
    | succ k=>simp[Bz]at e
  | _=>simp[Bz]at e
theorem PJ {σ τ υ:Ren} (h:∀b c,σ b=some c->τ c=υ b) {o o1:AK} (e:BV σ o=some o1):BV τ o1=BV υ o:=by
 cases o with
 | cells cs k ro=>
  simp only[BV,Option.map_eq_some_iff]at e;obtain⟨l,h1,rfl⟩:=e;simp only[BV,E7 (NM h 6) _ _ h1]
 | vec k l ro=>
  rcases Nk e with⟨l2,l1,e2,h1,rfl⟩ | ⟨hk,rfl⟩
  ·cases e2
   show(DI (FC τ) l1).map _=(DI (FC υ) l2).map _;rw[E7 (NM h 6) _ _ h1]
  ·rw[H5 _ hk,H5 _ hk]
 | abs a ro=>
  simp only[BV]at e;cases hx:a.GI
  ·simp[hx]at e
  ·simp only[hx,cond_true,Option.some.injEq]at e;subst e;simp only[BV,hx,cond_true]
 | _=>simp[BV]at e
theorem LN {ρ:Ren} {o o1:AK} (h:BV ρ o=some o1):BV ρ (Ib o)=some (Ib o1)/\(Ib o).ro=true:=by
 cases o with
 | cells cs k ro=>
  simp only[BV,Option.map_eq_some_iff]at h;obtain⟨l,h1,rfl⟩:=h;exact⟨by simp only[Ib,BV,h1,Option.map_some],rfl⟩
 | vec k l ro=>
  rcases Nk h with⟨l2,l1,e2,h1,rfl⟩ | ⟨hk,rfl⟩
  ·cases e2
   exact⟨Mm h1,rfl⟩
  ·exact⟨H5 _ hk _ _,rfl⟩
 | abs a ro=>
  simp only[BV]at h;cases hx:a.GI
  ·simp[hx]at h
  ·simp only[hx,cond_true,Option.some.injEq]at h;subst h;exact⟨by simp only[Ib,BV,hx,cond_true],rfl⟩
 | _=>simp[BV]at h
section
variable {laid:List (Nat × List Value)} {N:Nat} {bs:List Nat}
theorem Mr {b i:Nat} (h:Lh laid N b=some i):i=b/\b < N/\laid.any (fun p=>Nat.beq b p.1)=true:=by
 unfold Lh at h;cases hc:(Nat.blt b N&&laid.any (fun p=>Nat.beq b p.1))
 ·simp only[hc,cond_false]at h;cases h
 ·simp only[hc,cond_true,Option.some.injEq]at h;simp only[Bool.and_eq_true]at hc;exact⟨h.symm,Nat.le_of_ble_eq_true hc.1,hc.2⟩
theorem Ic {b:Nat} (h:b < N):E5 laid N bs b=Lh laid N b:=by
 unfold E5;rw[show Nat.blt b N=true from Nat.ble_eq_true_of_le h];rfl
theorem EM {b:Nat} (h:N<=b):E5 laid N bs b=bs[b - N]?:=by
 unfold E5;cases hb:Nat.blt b N
 ·rfl
 ·have:b < N:=Nat.le_of_ble_eq_true hb;omega
theorem Sn {b c:Nat} (h:OG laid N bs b=some c):E5 laid N bs c=some b:=by
 unfold OG at h;cases hb:Nat.blt b N
 ·simp only[hb,cond_false]at h;obtain⟨h1,h2,h3⟩:=NI h;rw[EM h1];exact h3
 ·simp only[hb,cond_true]at h;obtain⟨rfl,h2,_⟩:=Mr h;rw[Ic h2];exact h
end
theorem RZ {ρ:Ren} {H:AA}:∀{bs:List Nat} {objs:List AK},Pz ρ H bs=some objs->objs.length=bs.length/\∀(j b:Nat),bs[j]? = some b->∃o o1,H.get b=some o/\BV ρ o=some o1/\objs[j]? = some o1
 | [],_,h=>by cases h;exact⟨rfl,fun j b hb=>by cases hb⟩
 | a::r,objs,h=>by
  simp only[Pz]at h;split at h
  ·rename_i o ho;split at h
   ·rename_i o1 l h1 h2;cases h
    obtain⟨i1,i2⟩:=RZ h2;refine⟨by simp[i1],fun j b hb=>?_⟩;cases j with
    | zero=>
     simp only[List.getElem?_cons_zero,Option.some.injEq]at hb;subst hb;exact⟨o,o1,ho,h1,rfl⟩
    | succ j=>exact i2 j b hb
   ·cases h
  ·cases h
theorem LH (Bj:List Bool):∀(objs:List AK) (j0 j:Nat),(GP Bj j0 objs)[j]? = (objs[j]?).map fun o=>bif Ch Bj (j0+j)then o else Ib o
 | [],j0,j=>by simp[GP]
 | o::r,j0,0=>by simp[GP]
 | o::r,j0,j+1=>by
  simp only[GP,List.getElem?_cons_succ];rw[LH Bj r (j0+1) j,show j0+1+j=j0+(j+1) by omega]
theorem Kw (Bj:List Bool):∀(objs:List AK) (j0:Nat),(GP Bj j0 objs).length=objs.length
 | [],_=>rfl
 | o::r,j0=>by simp[GP,Kw Bj r]
theorem PC:∀(l:List AK) (H:AA),(BH H l).next=H.next+l.length
 | [],_=>rfl
 | o::r,H=>by
  simp only[BH];rw[PC r];show H.next+1+r.length=_;simp only[List.length_cons];omega
theorem Ev:∀(l:List AK) (H:AA) (i:Nat),(BH H l).get i=if i < H.next then H.get i else match l[i - H.next]? with | some o=>some o | none=>H.get i
 | [],H,i=>by simp only[BH,List.getElem?_nil];split<;>rfl
 | o::r,H,i=>by
  simp only[BH];rw[Ev r];have hn:(H.alloc o).next=H.next+1:=rfl;rw[hn]
  by_cases h1:i < H.next
  ·rw[if_pos (by omega),if_pos h1,AA.AW,if_neg (by omega)]
  ·rw[if_neg h1]
   by_cases h2:i=H.next
   ·subst h2;rw[if_pos (by omega),AA.AW,if_pos rfl,Nat.sub_self];rfl
   ·rw[if_neg (by omega),show i - H.next=(i - (H.next+1))+1 by omega,List.getElem?_cons_succ,AA.AW,if_neg h2]
theorem Nj {Bj:List Bool} {H:AA}:∀{bs:List Nat} {j0:Nat},FD Bj H j0 bs=true->∀(j b:Nat),bs[j]? = some b->Ch Bj (j0+j)=true->∃o,H.get b=some o/\o.ro=false
 | [],_,_,j,b,hb,_=>by cases hb
 | a::r,j0,h,j,b,hb,hm=>by
  simp only[FD,Bool.and_eq_true]at h;cases j with
  | zero=>
   simp only[List.getElem?_cons_zero,Option.some.injEq]at hb;subst hb;rw[Nat.add_zero]at hm;rw[hm]at h;simp only[cond_true]at h;cases hg:H.get a with
   | none=>rw[hg]at h;cases h.1
   | some o=>rw[hg]at h;exact⟨o,rfl,by simpa using h.1⟩
  | succ j=>exact Nj h.2 j b hb (by rw[show j0+1+j=j0+(j+1) by omega];exact hm)
theorem PH {ρ:Ren} {Bj:List Bool}:∀{bs:List Nat} {H H1:AA} {j0:Nat} {os:List (Option AK)},Fu ρ Bj H j0 bs os=some H1->bs.Nodup->
 H1.next=H.next/\(∀i,i∉bs->H1.get i=H.get i)/\(∀(j b:Nat),bs[j]? = some b->Ch Bj (j0+j)=false->H1.get b=H.get b)/\
 (∀(j b:Nat) (o1:AK),bs[j]? = some b->Ch Bj (j0+j)=true->H1.get b=some o1->∃o,os[j]? = some (some o)/\BV ρ o=some o1/\o1.ro=false)
 | [],H,H1,j0,os,h,_=>by cases h;exact⟨rfl,fun _ _=>rfl,fun j b hb=>(by cases hb),fun j b o1 hb=>(by cases hb)⟩
 | a::r,H,H1,j0,os,h,hn=>by
  have hn:=List.nodup_cons.1 hn;have step:∀(H2:AA) (os2:List (Option AK)) (hn2:H2.next=H.next) (hg2:∀i,i≠a->H2.get i=H.get i) (hos:∀j,os2[j]? = os[j+1]?),Fu ρ Bj H2 (j0+1) r os2=some H1->(Ch Bj j0=false->H2.get a=H.get a)->(∀o1,Ch Bj j0=true->H2.get a=some o1->∃o,os[0]? = some (some o)/\BV ρ o=some o1/\o1.ro=false)->
   H1.next=H.next/\(∀i,i∉a::r->H1.get i=H.get i)/\(∀(j b:Nat),(a::r)[j]? = some b->Ch Bj (j0+j)=false->H1.get b=H.get b)/\
   (∀(j b:Nat) (o1:AK),(a::r)[j]? = some b->Ch Bj (j0+j)=true->H1.get b=some o1->∃o,os[j]? = some (some o)/\BV ρ o=some o1/\o1.ro=false):=by
   intro H2 os2 hn2 hg2 hos hb h0 h1;obtain⟨i1,i2,i3,i4⟩:=PH hb hn.2;refine⟨i1.trans hn2,fun i hi=>?_,fun j b hj hm=>?_,fun j b o1 hj hm hg=>?_⟩
   ·rw[i2 i (fun h=>hi (List.mem_cons_of_mem _ h)),hg2 i (fun h=>hi (h ▸ List.mem_cons_self))]
   ·cases j with
    | zero=>
     simp only[List.getElem?_cons_zero,Option.some.injEq]at hj;subst hj;rw[i2 a hn.1];exact h0 hm
    | succ j=>
     have hj:r[j]? = some b:=hj;rw[i3 j b hj (by rw[show j0+1+j=j0+(j+1) by omega];exact hm),hg2 b];rintro rfl;exact hn.1 (List.mem_of_getElem? hj)
   ·cases j with
    | zero=>
     simp only[List.getElem?_cons_zero,Option.some.injEq]at hj;subst hj;rw[i2 a hn.1]at hg;exact h1 o1 hm hg
    | succ j=>
     have hj:r[j]? = some b:=hj;obtain⟨o,q1,q2⟩:=i4 j b o1 hj (by rw[show j0+1+j=j0+(j+1) by omega];exact hm) hg;rw[hos j]at q1;exact⟨o,q1,q2⟩
  unfold Fu at h;cases hm:Ch Bj j0
  ·simp only[hm,cond_false]at h;exact step H os.tail rfl (fun _ _=>rfl) (fun j=>by cases os<;>simp) h (fun _=>rfl) (fun o1 hh=>by rw[hm]at hh;cases hh)
  ·simp only[hm,cond_true]at h;split at h
   ·rename_i o os2;split at h
    ·rename_i o1 ho1;cases hro:o1.ro
     ·simp only[hro,cond_false]at h;exact step (H.put a o1) os2 rfl (fun i hi=>by rw[AA.AQ,if_neg hi]) (fun _=>rfl) h (fun hh=>by rw[hm]at hh;cases hh) (fun o2 _ hg=>by
       rw[AA.AQ,if_pos rfl]at hg;cases hg;exact⟨o,rfl,ho1,hro⟩)
     ·simp only[hro,cond_true]at h;cases h
    ·cases h
   ·rename_i os2;exact step (H.del a) os2 rfl (fun i hi=>by rw[AA.Bb,if_neg hi]) (fun _=>rfl) h (fun hh=>by rw[hm]at hh;cases hh) (fun o2 _ hg=>by rw[AA.Bb,if_pos rfl]at hg;cases hg)
   ·exact step (H.del a) [] rfl (fun i hi=>by rw[AA.Bb,if_neg hi]) (fun _=>rfl) h (fun hh=>by rw[hm]at hh;cases hh) (fun o2 _ hg=>by rw[AA.Bb,if_pos rfl]at hg;cases hg)
theorem RQ {ρ:Ren}:∀{l:List AK} {H H1:AA},au ρ H l=some H1->H1.next=H.next+l.length/\(∀i,i < H.next->H1.get i=H.get i)/\(∀i o1,H.next<=i->i < H.next+l.length->H1.get i=some o1->∃o,l[i - H.next]? = some o/\BV ρ o=some o1/\o1.ro=false)/\(∀i,H.next+l.length<=i->H1.get i=H.get i)
 | [],H,H1,h=>by cases h;exact⟨rfl,fun _ _=>rfl,fun i o1 h1 h2=>by simp at h2;omega,fun _ _=>rfl⟩
 | o::r,H,H1,h=>by
  simp only[au]at h;split at h
  ·rename_i o1 ho1;cases hro:o1.ro
   ·simp only[hro,cond_false]at h;obtain⟨i1,i2,i3,i4⟩:=RQ h;have hn:(H.alloc o1).next=H.next+1:=rfl;rw[hn]at i1 i2 i3 i4;simp only[List.length_cons];refine⟨by omega,fun i hi=>?_,fun i o2 h1 h2 hg=>?_,fun i hi=>?_⟩
    ·rw[i2 i (by omega),AA.AW,if_neg (by omega)]
    ·by_cases e:i=H.next
     ·subst e;rw[i2 _ (by omega),AA.AW,if_pos rfl]at hg;cases hg
      exact⟨o,by rw[Nat.sub_self];rfl,ho1,hro⟩
     ·obtain⟨o3,q1,q2⟩:=i3 i o2 (by omega) (by omega) hg;exact⟨o3,by rw[show i - H.next=(i - (H.next+1))+1 by omega,List.getElem?_cons_succ];exact q1,q2⟩
    ·rw[i4 i (by omega),AA.AW,if_neg (by omega)]
   ·simp only[hro,cond_true]at h;cases h
  ·cases h
theorem Yb {μ:Ai}:∀(n:Nat) (v v':Value),AM μ v v'->∀b∈Af n v,∃T,μ b=some T:=by
 intro n;induction n with
 | zero=>intro v v' _ b hb;cases hb
 | succ n ih=>
  intro v v' h b hb;have hl:∀(l l':List Value),BD μ l l'->b∈l.flatMap (Af n)->∃T,μ b=some T:=by
   intro l l' hr hm;induction hr with
   | nil=>cases hm
   | cons h1 _ ihl=>
    rw[List.flatMap_cons,List.mem_append]at hm;rcases hm with hm | hm
    ·exact ih _ _ h1 b hm
    ·exact ihl hm
  cases h with
  | Bn=>simp[Af,Bn]at hb
  | ptr c o T hm=>simp only[Af,List.mem_singleton]at hb;subst hb;exact⟨T,hm⟩
  | Gt c o j T hm=>simp only[Af,List.mem_singleton]at hb;subst hb;exact⟨T,hm⟩
  | slice c o l k k' o' T hm _ _=>simp only[Af,List.mem_singleton]at hb;subst hb;exact⟨T,hm⟩
  | Bw c j l k k' o' T hm _ _ _=>simp only[Af,List.mem_singleton]at hb;subst hb;exact⟨T,hm⟩
  | C8 c j k T _ hm _=>simp only[Af,List.mem_singleton]at hb;subst hb;exact⟨T,hm⟩
  | Cf c j l k k' o' T M hm _ _ _ _=>simp only[Af,List.mem_singleton]at hb;subst hb;exact⟨T,hm⟩
  | Er c j k T _ hm _=>simp only[Af,List.mem_singleton]at hb;subst hb;exact⟨T,hm⟩
  | map c T hm=>simp only[Af,List.mem_singleton]at hb;subst hb;exact⟨T,hm⟩
  | iface t a a' ha=>exact ih _ _ ha b hb
  | agg xs xs' hx ex=>
   obtain⟨ys,he,hl2⟩:=AM.Cr.1 (.agg xs xs' hx ex);exact hl _ _ hl2 hb
  | tuple xs xs' hx ex=>
   obtain⟨ys,he,hl2⟩:=AM.CL.1 (.tuple xs xs' hx ex);exact hl _ _ hl2 hb
  | func fn fn' xs xs' ys ys' hf hx ex hy ey=>
   obtain⟨fn2,xs2,ys2,he,hf2,De,hy2⟩:=AM.CX.1 (.func fn fn' xs xs' ys ys' hf hx ex hy ey);simp only[Af,List.mem_append]at hb;rcases hb with hb | hb
   ·exact hl _ _ De hb
   ·exact hl _ _ hy2 hb
  | _=>cases hb
theorem JB {μ:Ai} {l l':List Value} (h:BD μ l l'):∀b∈l.flatMap (Af 4),∃T,μ b=some T:=by
 intro b hb;induction h with
 | nil=>cases hb
 | cons h1 _ ih=>
  rw[List.flatMap_cons,List.mem_append]at hb;rcases hb with hb | hb
  ·exact Yb 4 _ _ h1 b hb
  ·exact ih hb
theorem SY {k:EK} {l:List (EK.C k)} {ro:Bool} {c:Nat} (h:c∈Eu (.vec k l ro)):∃l':List (EK.C [.tok]),(⟨k,l⟩:(k:EK) × List (EK.C k))=⟨[.tok],l'⟩/\c∈List.flatMap (Af 4) l':=by
 unfold Eu at h;split at h
 ·rename_i heq;cases heq
 ·rename_i l2 ro2 he;cases he
  exact⟨l2,rfl,h⟩
 ·cases h
theorem FA {base:Env} {W0 W:World} {μ:Ai} {H:AA} (hH:AT base W0 μ H W) {N:Nat}:∀(f:Nat) (todo seen:List Nat),(∀b∈todo,∃T,μ b=some T)->(seen.Nodup/\∀b∈seen,N<=b/\∃T,μ b=some T)->
 (Am H N f todo seen).Nodup/\∀b∈Am H N f todo seen,N<=b/\∃T,μ b=some T:=by
 intro f;induction f with
 | zero=>intro todo seen _ h;exact h
 | succ f ih=>
  intro todo seen ht hs;unfold Am;split
  ·exact hs
  ·rename_i b r;cases hc:(Nat.blt b N||seen.any (Nat.beq b))
   ·simp only[cond_false];simp only[Bool.or_eq_false_iff]at hc;obtain⟨T,hT⟩:=ht b (by simp);have hNb:N<=b:=by
     rcases Nat.lt_or_ge b N with h | h
     ·have:=Nat.ble_eq_true_of_le h;rw[show Nat.ble (b+1) N=Nat.blt b N from rfl,hc.1]at this;cases this
     ·exact h
    split
    ·rename_i o ho;refine ih _ _ (fun c hc2=>?_) ⟨?_,fun c hc2=>?_⟩
     ·rcases List.mem_append.1 hc2 with hc2 | hc2
      ·cases o with
       | cells cs e ro=>
        obtain⟨o',_,hr⟩:=hH.obj b _ ho T hT;cases hr with
        | cells _ _ _ arr t lo hi he hcl hr hf=>exact JB hcl c hc2
       | vec k l ro=>
        obtain⟨l2,he,hc3⟩:=SY hc2;cases he
        obtain⟨o',_,hr⟩:=hH.obj b _ ho T hT;cases hr with
        | vec _ _ _ _ hc=>
         rw[HV]at hc;cases hc with
         | cells _ _ _ arr t lo hi he hcl hr hf=>exact JB hcl c hc3
        | Ei _ _ _ _ _ _=>cases hc3
       | _=>simp[Eu]at hc2
      ·exact ht c (by simp[hc2])
     ·rw[List.nodup_append];refine⟨hs.1,by simp,?_⟩;intro x hx y hy;simp only[List.mem_singleton]at hy;subst hy;rintro rfl;have:=List.any_eq_true.2 ⟨x,hx,Nat.beq_refl x⟩;rw[hc.2]at this;cases this
     ·rcases List.mem_append.1 hc2 with hc2 | hc2
      ·exact hs.2 c hc2
      ·simp only[List.mem_singleton]at hc2;subst hc2;exact⟨hNb,T,hT⟩
    ·exact ih _ _ (fun c hc2=>ht c (by simp[hc2])) hs
   ·simp only[cond_true];exact ih _ _ (fun c hc2=>ht c (by simp[hc2])) hs
def CV (b nx i:Nat):Nat:=if i=0 then b else nx+(i - 1)
def EN (b nx n:Nat) (ext:List Nat:=[]):Ren:=fun i=>if i < n then some (CV b nx i)else ext[i - n]?
def L3 (ro:Bool) (o:AK):AK:=if ro then Ib o else o
theorem Xi {μ:Ai} {T:B7} {o:AK} {o':Obj} {ro:Bool} (h:Cs μ T o o'):Cs μ T (L3 ro o) o':=by
 cases ro
 ·exact h
 ·exact Rg h
theorem FG {ro:Bool} {o:AK} {T:B7}:(L3 ro o).void T ↔ o.void T:=by
 cases ro
 ·exact Iff.rfl
 ·exact Oo
theorem bp {ro:Bool} {o:AK} (hp:o.G7=true) (h:o.ro=false):(L3 ro o).ro=ro:=by
 cases ro
 ·exact h
 ·cases o<;>first | rfl | cases hp
structure KG (H:AA) (b:Nat) (ro:Bool) (objs:List AK) (H':AA) (ext:List Nat:=[]):Prop where
 next:H'.next=H.next+(objs.length - 1)
 C2:∀x,x≠b->x < H.next->H'.get x=H.get x
 top:∀x,H'.next<=x->H'.get x=none
 obj:∀(i:Nat) (o:AK),objs[i]? = some o->∃o1,BV (EN b H.next objs.length ext) (L3 ro o)=some o1/\H'.get (CV b H.next i)=some o1
section
variable {base:Env} {W0:World} {μ:Ai} {H:AA} {W:World}
theorem AT.opened (h:AT base W0 μ H W) {b:Nat} {s:Pk} {ro:Bool} {T:B7} (hb:H.get b=some (.abs (.pack s) ro)) (hm:μ b=some T):
 ∃objs,Dv s objs/\∀H',KG H b ro objs H' (Eb s)->∃μ',AT base W0 μ' H' W/\Ak μ H μ' H':=by
 obtain⟨φ,q⟩:=h.abs;obtain⟨hrep,hK⟩:=q.rep b _ ro T hb hm;have hrep:GM μ W s T (φ b):=hrep;have hlt:=h.lt hb;generalize hFb:φ b=F at hrep;cases hrep with
 | mk _ objs ts Fs _ _ hr hl hT hroot hobj hcell hbld hmem hext hpack hdis hF=>
  refine⟨objs,hr,fun H' hH=>?_⟩;have h0:0 < objs.length:=by
   rcases Nat.eq_zero_or_pos objs.length with h | h
   ·rw[List.getElem?_eq_none (by omega)]at hT;cases hT
   ·exact h
  let μ':Ai:=fun x=>if H.next<=x/\x < H.next+(objs.length - 1)then ts[x - H.next+1]? else μ x
  have mlow:∀x,x < H.next->μ' x=μ x:=fun x hx=>by show(if _ then _ else _)=_;rw[if_neg (by omega)]
  have mpk:∀i,i < objs.length->μ' (CV b H.next i)=ts[i]?:=by
   intro i hi;unfold CV
   by_cases e:i=0
   ·subst e;rw[if_pos rfl,mlow b hlt,hm,hT]
   ·rw[if_neg e];show(if _ then _ else _)=_;rw[if_pos (by omega),show H.next+(i - 1) - H.next+1=i by omega]
  have mtop:∀x,H'.next<=x->μ' x=none:=by
   intro x hx;rw[hH.next]at hx;show(if _ then _ else _)=_;rw[if_neg (by omega)];exact(h.fresh x (by omega)).2
  have mle:μ.le μ':=by
   intro x X e;rcases Nat.lt_or_ge x H.next with hx | hx
   ·rw[mlow x hx];exact e
   ·rw[(h.fresh x hx).2]at e;cases e
  have key:∀x o1,H'.get x=some o1->(∃i o,i < objs.length/\objs[i]? = some o/\x=CV b H.next i/\BV (EN b H.next objs.length (Eb s)) (L3 ro o)=some o1)∨(x≠b/\x < H.next/\H.get x=some o1):=by
   intro x o1 hx;have pk:∀i,i < objs.length->x=CV b H.next i->∃i o,i < objs.length/\objs[i]? = some o/\x=CV b H.next i/\BV (EN b H.next objs.length (Eb s)) (L3 ro o)=some o1:=by
    intro i hi e;obtain⟨o2,r1,r2⟩:=hH.obj i _ (List.getElem?_eq_getElem hi);rw[<-e,hx]at r2;cases r2
    exact⟨i,_,hi,List.getElem?_eq_getElem hi,e,r1⟩
   by_cases e:x=b
   ·exact .inl (pk 0 h0 (by unfold CV;rw[if_pos rfl];exact e))
   ·rcases Nat.lt_or_ge x H.next with De | De
    ·exact .inr ⟨e,De,by rw[<-hH.C2 x e De];exact hx⟩
    ·rcases Nat.lt_or_ge x H'.next with hx3 | hx3
     ·rw[hH.next]at hx3;exact .inl (pk (x - H.next+1) (by omega) (by unfold CV;rw[if_neg (by omega)];omega))
     ·rw[hH.top x hx3]at hx;cases hx
  have pinj:∀i j,i < objs.length->j < objs.length->CV b H.next i=CV b H.next j->i=j:=by
   intro i j hi hj e;unfold CV at e
   by_cases e1:i=0
   ·by_cases e2:j=0
    ·omega
    ·rw[if_pos e1,if_neg e2]at e;omega
   ·by_cases e2:j=0
    ·rw[if_neg e1,if_pos e2]at e;omega
    ·rw[if_neg e1,if_neg e2]at e;omega
  have own:∀i o T',objs[i]? = some o->ts[i]? = some T'->(¬o.void T'->Fs i T'.c)/\(∀x,Fs i x->F x):=by
   intro i o T' ho ht;have hi:i < objs.length:=(List.getElem?_eq_some_iff.1 ho).1;refine⟨?_,fun x hx=>(hF x).2 ⟨i,hi,hx⟩⟩;cases hab:o.isAbs
   ·exact fun hv=>(hcell i o T' ho ht hab _).2 ⟨rfl,hv⟩
   ·obtain⟨a,r,rfl⟩:=DY hab;cases a with
    | WN t e l=>exact fun _=>(Eh.Gf (hbld i t e l r T' ho ht)).1
    | pack s'=>exact fun _=>(GM.Gf (hpack i s' r T' ho ht)).1
    | mem k L=>exact fun hv=>absurd trivial hv
  have rep:∀i a r T',objs[i]? = some (.abs a r)->ts[i]? = some T'->DH μ a T' (Fs i) W:=by
   intro i a r T' ho ht;cases a with
   | WN t e l=>exact hbld i t e l r T' ho ht
   | pack s'=>exact hpack i s' r T' ho ht
   | mem k L=>exact hmem i k L r T' ho ht
  have absOf:∀{o:AK} {a:Ab} {r:Bool},BV (EN b H.next objs.length (Eb s)) (L3 ro o)=some (.abs a r)->∃r0,o= .abs a r0/\(r0=false->r=ro):=by
   intro o a r e;have e1:=((DP e).2.2 a r rfl).1;cases ro
   ·exact⟨r,e1,fun h=>h⟩
   ·cases o<;>first | (cases e1;done) | skip
    rename_i a0 r0;have e1:AK.abs a0 true= .abs a r:=e1;cases e1
    exact⟨r0,rfl,fun _=>rfl⟩
  refine⟨μ',⟨?_,?_,?_,?_,?_,h.size,h.below,h.out,h.os,?_,Ai.le_trans h.le mle,h.grow⟩,⟨mle,by rw[hH.next];omega,?_⟩⟩
  ·intro x o1 hx T' hT';rcases key x o1 hx with⟨i,o,hi,ho,rfl,hr1⟩ | ⟨hxb,hxl,De⟩
   ·rw[mpk i hi]at hT';obtain⟨_,_,o',r1,r2⟩:=hobj i o T' ho hT';refine⟨o',r1,Rl (μ:=Ny μ ts (Eb s)) (fun p j X hp hX=>?_) hr1 (Xi r2)⟩;unfold EN at hp;split at hp
    ·rename_i hpl;cases hp
     rw[UK (by omega)]at hX;rw[mpk p hpl];exact hX
    ·rename_i hpl;unfold Ny at hX;rw[if_neg (by omega),hl,hp]at hX;exact mle _ _ hX
   ·rw[mlow x hxl]at hT';obtain⟨o',r1,r2⟩:=h.obj x o1 De T' hT';exact⟨o',r1,r2.mono mle⟩
  ·intro x o1 hx hro T' hT' hv;rcases key x o1 hx with⟨i,o,hi,ho,rfl,hr1⟩ | ⟨hxb,hxl,De⟩
   ·rw[mpk i hi]at hT';obtain⟨g1,g2,_⟩:=hobj i o T' ho hT';have e1:ro=false:=by rw[<-bp (ro:=ro) g2 g1,<-(DP hr1).1];exact hro
    obtain⟨f1,f2⟩:=own i o T' ho hT';exact hK e1 _ (by rw[hFb];exact f2 _ (f1 (fun hw=>hv (((B1 hr1 T').trans FG).2 hw))))
   ·rw[mlow x hxl]at hT';exact h.own x o1 De hro T' hT' hv
  ·intro x y o1 o2 hx hy T1 T2 h1 h2 v1 v2 hc hrr;rcases key x o1 hx with⟨i,o,hi,ho,rfl,hr1⟩ | ⟨hxb,hxl,De⟩
   ·rcases key y o2 hy with⟨j,p,hj,hp,rfl,hr2⟩ | ⟨hyb,hyl,hy2⟩
    ·rw[mpk i hi]at h1;rw[mpk j hj]at h2;have f1:=(own i o T1 ho h1).1 (fun hw=>v1 (((B1 hr1 T1).trans FG).2 hw));have f2:=(own j p T2 hp h2).1 (fun hw=>v2 (((B1 hr2 T2).trans FG).2 hw));rw[hc]at f1;rw[hdis i j _ hi hj f1 f2]
    ·rw[mpk i hi]at h1;rw[mlow y hyl]at h2;obtain⟨f1,f2⟩:=own i o T1 ho h1;have f1:=f1 (fun hw=>v1 (((B1 hr1 T1).trans FG).2 hw));have:=(q.ER b _ ro T hb hm y o2 T2 hy2 h2 hyb).1 v2;rw[hFb,<-hc]at this;exact absurd (f2 _ f1) this
   ·rcases key y o2 hy with⟨j,p,hj,hp,rfl,hr2⟩ | ⟨hyb,hyl,hy2⟩
    ·rw[mpk j hj]at h2;rw[mlow x hxl]at h1;obtain⟨f1,f2⟩:=own j p T2 hp h2;have f1:=f1 (fun hw=>v2 (((B1 hr2 T2).trans FG).2 hw));have:=(q.ER b _ ro T hb hm x o1 T1 De h1 hxb).1 v1;rw[hFb,hc]at this;exact absurd (f2 _ f1) this
    ·rw[mlow x hxl]at h1;rw[mlow y hyl]at h2;exact h.inj x y o1 o2 De hy2 T1 T2 h1 h2 v1 v2 hc hrr
  ·intro x hx;exact⟨hH.top x hx,mtop x hx⟩
  ·intro x T' hT';have hx:H.next<=x/\x < H.next+(objs.length - 1)∨μ x=some T':=by
    by_cases c:H.next<=x/\x < H.next+(objs.length - 1)
    ·exact .inl c
    ·right
     have:(if H.next<=x/\x < H.next+(objs.length - 1)then ts[x - H.next+1]? else μ x)=some T':=hT'
     rwa [if_neg c]at this
   rcases hx with hx | hx
   ·have:(if H.next<=x/\x < H.next+(objs.length - 1)then ts[x - H.next+1]? else μ x)=some T':=hT';rw[if_pos hx]at this;have hi:x - H.next+1 < objs.length:=by omega
    obtain⟨_,_,o',r1,_⟩:=hobj (x - H.next+1) _ T' (List.getElem?_eq_getElem hi) this;exact Gd r1
   ·exact h.bound x T' hx
  ·refine⟨fun x=>if x=b then Fs 0 else if H.next<=x then Fs (x - H.next+1)else φ x,?_,?_⟩
   all_goals
    have hφ:∀i,i < objs.length->(if CV b H.next i=b then Fs 0 else if H.next<=CV b H.next i then Fs (CV b H.next i - H.next+1)else φ (CV b H.next i))=Fs i:=by
     intro i hi;unfold CV
     by_cases e:i=0
     ·subst e;simp
     ·rw[if_neg e,if_neg (by omega),if_pos (by omega),show H.next+(i - 1) - H.next+1=i by omega]
    have hφ2:∀x,x≠b->x < H.next->(if x=b then Fs 0 else if H.next<=x then Fs (x - H.next+1)else φ x)=φ x:=fun x e hx=>by rw[if_neg e,if_neg (by omega)]
   ·intro x a r T' hx hT';rcases key x _ hx with⟨i,o,hi,ho,rfl,hr1⟩ | ⟨hxb,hxl,De⟩
    ·simp only[hφ i hi];rw[mpk i hi]at hT';obtain⟨r0,rfl,hr0⟩:=absOf hr1;refine⟨(rep i a r0 T' ho hT').mono mle,fun hr y hy=>?_⟩;have g1:=(hobj i _ T' ho hT').1;exact hK (by rw[<-hr0 g1];exact hr) y (by rw[hFb];exact(own i _ T' ho hT').2 y hy)
    ·simp only[hφ2 x hxb hxl];rw[mlow x hxl]at hT';obtain⟨w1,w2⟩:=q.rep x a r T' De hT';exact⟨w1.mono mle,w2⟩
   ·intro x a r T' hx hT' y o2 T2 hy hT2 hne;rcases key x _ hx with⟨i,o,hi,ho,rfl,hr1⟩ | ⟨hxb,hxl,De⟩
    ·rw[mpk i hi]at hT';simp only[hφ i hi];rcases key y o2 hy with⟨j,p,hj,hp,rfl,hr2⟩ | ⟨hyb,hyl,hy2⟩
     ·rw[mpk j hj]at hT2;simp only[hφ j hj];have hij:i≠j:=fun e=>hne (by rw[e])
      exact⟨fun hv2 e=>hij (hdis i j _ hi hj e ((own j p T2 hp hT2).1 (fun hw=>hv2 (((B1 hr2 T2).trans FG).2 hw)))),fun _ z hz hz2=>hij (hdis i j z hi hj hz hz2)⟩
     ·rw[mlow y hyl]at hT2;simp only[hφ2 y hyb hyl];have hf:=q.ER b _ ro T hb hm y o2 T2 hy2 hT2 hyb;rw[hFb]at hf;exact⟨fun hv2 e=>hf.1 hv2 ((own i o T' ho hT').2 _ e),fun hab z hz hz2=>hf.2 hab z ((own i o T' ho hT').2 _ hz) hz2⟩
    ·rw[mlow x hxl]at hT';simp only[hφ2 x hxb hxl];rcases key y o2 hy with⟨j,p,hj,hp,rfl,hr2⟩ | ⟨hyb,hyl,hy2⟩
     ·rw[mpk j hj]at hT2;simp only[hφ j hj];have hf:=(q.ER x a r T' De hT' b _ T hb hm (Ne.symm hxb)).2 rfl;rw[hFb]at hf;exact⟨fun hv2 e=>hf _ e ((own j p T2 hp hT2).2 _ ((own j p T2 hp hT2).1 (fun hw=>hv2 (((B1 hr2 T2).trans FG).2 hw)))),fun _ z hz hz2=>hf z hz ((own j p T2 hp hT2).2 z hz2)⟩
     ·rw[mlow y hyl]at hT2;simp only[hφ2 y hyb hyl];exact q.ER x a r T' De hT' y o2 T2 hy2 hT2 hne
  ·intro x hx hn;rw[mlow x hx];refine⟨hn,?_⟩;have:x≠b:=by rintro rfl;rw[hm]at hn;cases hn
   exact hH.C2 x this hx
end
theorem Q2 {a:Ab} {r:Bool} {T:B7} (h:¬(AK.abs a r).void T):¬(AK.abs a false).void T:=by cases a<;>exact h
def WI (bs ext:List Nat):Ren:=fun i=>if i < bs.length then bs[i]? else ext[i - bs.length]?
theorem FX (bs:List Nat):WI bs []=fun i=>bs[i]?:=by
 funext i
 unfold WI;split
 ·rfl
 ·rename_i h;rw[List.getElem?_eq_none (l:=bs) (by omega)];rfl
open Classical in
structure iN (H:AA) (s:Pk) (bs:List Nat) (H':AA):Prop where
 next:H'.next=H.next
 root:∀b,bs[0]? = some b->H'.get b=some (.abs (.pack s) false)
 rest:∀i b,0 < i->bs[i]? = some b->H'.get b=none
 C2:∀x,x∉bs->H'.get x=H.get x
section
variable {base:Env} {W0:World} {μ:Ai} {H:AA} {W:World}
theorem AT.shut (h:AT base W0 μ H W) {s:Pk} {objs:List AK} {bs:List Nat} (hr:Dv s objs) (hnd:bs.Nodup) (hlen:bs.length=objs.length) (hne:objs≠[])
 (hmap:∀b∈bs,∃T,μ b=some T) (hobj:∀(i b:Nat) (o:AK),bs[i]? = some b->objs[i]? = some o->∃o1,H.get b=some o1/\o1.ro=false/\o1.G7=true/\BV (WI bs (Eb s)) o=some o1)
 {H':AA} (hS:iN H s bs H') (hroot:∀o T,objs[0]? = some o->¬o.void T):AT base W0 μ H' W/\Ak μ H μ H':=by
 obtain⟨φ,q⟩:=h.abs;have h0:0 < objs.length:=List.length_pos_iff.2 hne;let tg:Nat->B7:=fun b=>(μ b).getD ⟨0,0,0,0⟩
 have htg:∀b∈bs,μ b=some (tg b):=by
  intro b hb;obtain⟨T,hT⟩:=hmap b hb;show μ b=some ((μ b).getD _);rw[hT];rfl
 let ts:List B7:=bs.map tg
 have hts:∀(i b:Nat),bs[i]? = some b->ts[i]? = some (tg b):=fun i b hb=>by show(bs.map tg)[i]? = _;rw[List.getElem?_map,hb];rfl
 have tsl:ts.length=objs.length:=by show(bs.map tg).length=_;rw[List.length_map,hlen]
 have bat:∀(i:Nat),i < objs.length->∃b,bs[i]? = some b:=fun i hi=>⟨_,List.getElem?_eq_getElem (by omega)⟩
 have mem:∀{i b:Nat},bs[i]? = some b->b∈bs:=fun hb=>List.mem_of_getElem? hb
 have tsb:∀(i:Nat) (T':B7),ts[i]? = some T'->∃b,bs[i]? = some b/\T'=tg b/\μ b=some T':=by
  intro i T' ht;have ht:(bs.map tg)[i]? = some T':=ht;rw[List.getElem?_map]at ht;cases hb:bs[i]? with
  | none=>rw[hb]at ht;cases ht
  | some b=>rw[hb]at ht;cases ht;exact⟨b,rfl,rfl,htg b (mem hb)⟩
 have uniq:∀(i j b:Nat),bs[i]? = some b->bs[j]? = some b->i=j:=by
  intro i j b hi hj;obtain⟨hi1,hi2⟩:=List.getElem?_eq_some_iff.1 hi;obtain⟨hj1,hj2⟩:=List.getElem?_eq_some_iff.1 hj;have hp:=List.pairwise_iff_getElem.1 hnd;rcases Nat.lt_trichotomy i j with hh | hh | hh
  ·exact absurd (hi2.trans hj2.symm) (hp i j hi1 hj1 hh)
  ·exact hh
  ·exact absurd (hj2.trans hi2.symm) (hp j i hj1 hi1 hh)
 let Fs:Nat->Nat->Prop:=fun i x=>∃b o,bs[i]? = some b/\H.get b=some o/\((o.isAbs=true/\φ b x)∨(o.isAbs=false/\x=(tg b).c/\¬o.void (tg b)))
 have oab:∀(i b:Nat) (o:AK),bs[i]? = some b->objs[i]? = some o->∃o1,H.get b=some o1/\o1.ro=false/\o1.G7=true/\BV (WI bs (Eb s)) o=some o1/\o.isAbs=o1.isAbs/\o.ro=false:=by
  intro i b o hb ho;obtain⟨o1,r1,r2,r3,r4⟩:=hobj i b o hb ho;obtain⟨e1,e2,e3⟩:=DP r4;exact⟨o1,r1,r2,r3,r4,e2.symm,by rw[<-e1];exact r2⟩
 have Fs_cell:∀(i b:Nat) (o1:AK),bs[i]? = some b->H.get b=some o1->o1.isAbs=false->∀x,Fs i x ↔ (x=(tg b).c/\¬o1.void (tg b)):=by
  intro i b o1 hb hg hab x;constructor
  ·rintro⟨b2,o2,g1,g2,g3⟩;rw[hb]at g1;cases g1
   rw[hg]at g2;cases g2
   rcases g3 with⟨g3,_⟩ | ⟨_,g3⟩
   ·rw[hab]at g3;cases g3
   ·exact g3
  ·intro e;exact⟨b,o1,hb,hg,.inr ⟨hab,e⟩⟩
 have Fs_abs:∀(i b:Nat) (o1:AK),bs[i]? = some b->H.get b=some o1->o1.isAbs=true->∀x,Fs i x ↔ φ b x:=by
  intro i b o1 hb hg hab x;constructor
  ·rintro⟨b2,o2,g1,g2,g3⟩;rw[hb]at g1;cases g1
   rw[hg]at g2;cases g2
   rcases g3 with⟨_,g3⟩ | ⟨g3,_⟩
   ·exact g3
   ·rw[hab]at g3;cases g3
  ·intro e;exact⟨b,o1,hb,hg,.inl ⟨hab,e⟩⟩
 have oro:∀(i b:Nat) (o1:AK),i < objs.length->bs[i]? = some b->H.get b=some o1->o1.ro=false:=by
  intro i b o1 hi hb hg;obtain⟨o2,r1,r2,_⟩:=oab i b _ hb (List.getElem?_eq_getElem hi);rw[hg]at r1;cases r1
  exact r2
 have apart:∀b1 o1 b2 o2,b1≠b2->H.get b1=some o1->H.get b2=some o2->(o1.ro=false∨o2.ro=false)->∀T1 T2,μ b1=some T1->μ b2=some T2->∀x,((o1.isAbs=true/\φ b1 x)∨(o1.isAbs=false/\x=T1.c/\¬o1.void T1))->((o2.isAbs=true/\φ b2 x)∨(o2.isAbs=false/\x=T2.c/\¬o2.void T2))->False:=by
  intro b1 o1 b2 o2 hne12 g1 g2 hrr T1 T2 m1 m2 x p1 p2;rcases p1 with⟨a1,p1⟩ | ⟨a1,p1,v1⟩
  ·obtain⟨a,r,rfl⟩:=DY a1;rcases p2 with⟨a2,p2⟩ | ⟨a2,p2,v2⟩
   ·exact(q.ER b1 a r T1 g1 m1 b2 o2 T2 g2 m2 (Ne.symm hne12)).2 a2 x p1 p2
   ·rw[p2]at p1;exact(q.ER b1 a r T1 g1 m1 b2 o2 T2 g2 m2 (Ne.symm hne12)).1 v2 p1
  ·rcases p2 with⟨a2,p2⟩ | ⟨a2,p2,v2⟩
   ·obtain⟨a,r,rfl⟩:=DY a2;have hf:=q.ER b2 a r T2 g2 m2 b1 o1 T1 g1 m1 hne12;rw[p1]at p2;exact hf.1 v1 p2
   ·exact hne12 (h.inj b1 b2 o1 o2 g1 g2 T1 T2 m1 m2 v1 v2 (by rw[<-p1,<-p2]) hrr)
 have root:∀(i b:Nat) (o1:AK),bs[i]? = some b->H.get b=some o1->¬o1.void (tg b)->Fs i (tg b).c:=by
  intro i b o1 hb hg hv;cases hab:o1.isAbs
  ·exact(Fs_cell i b o1 hb hg hab _).2 ⟨rfl,hv⟩
  ·obtain⟨a,r,rfl⟩:=DY hab;exact(Fs_abs i b _ hb hg rfl _).2 ((DH.Gf _ _ _ _ (q.rep b a r _ hg (htg b (mem hb))).1).1 (Q2 hv))
 obtain⟨b0,hb0⟩:=bat 0 h0;let F:Nat->Prop:=fun x=>∃i,i < objs.length/\Fs i x
 have hrep:GM μ W s (tg b0) F:=by
  refine .mk s objs ts Fs _ F hr tsl (hts 0 b0 hb0) (fun o ho=>hroot o _ ho) ?_ ?_ ?_ ?_ ?_ ?_ ?_ (fun x=>Iff.rfl)
  ·intro i o T' ho ht;obtain⟨b,hb,rfl,hm⟩:=tsb i T' ht;obtain⟨o1,r1,r2,r3,r4,r5,r6⟩:=oab i b o hb ho;obtain⟨o',s1,s2⟩:=h.obj b o1 r1 _ hm;refine⟨r6,?_,o',s1,NO (ν:=μ) (fun p j X hp hX=>?_) r4 s2⟩
   ·cases o1<;>cases o<;>first | rfl | (simp[BV]at r4;done) | (cases r3;done) | skip
    all_goals (simp[BV]at r4)
   ·unfold WI at hp;split at hp
    ·rename_i hpl;rw[UK (by omega),hts p j hp];have:=htg j (mem hp);rw[hX]at this;exact this.symm
    ·rename_i hpl;unfold Ny;rw[if_neg (by omega),tsl,<-hlen,hp];exact hX
  ·intro i o T' ho ht hab x;obtain⟨b,hb,rfl,hm⟩:=tsb i T' ht;obtain⟨o1,r1,r2,r3,r4,r5,r6⟩:=oab i b o hb ho;rw[Fs_cell i b o1 hb r1 (by rw[<-r5];exact hab) x];exact and_congr_right fun _=>not_congr (B1 r4 _)
  ·intro i t e l r T' ho ht;obtain⟨b,hb,rfl,hm⟩:=tsb i T' ht;obtain⟨o1,r1,r2,r3,r4,r5,r6⟩:=oab i b _ hb ho;obtain⟨rfl,_⟩:=Fy r4;have h1:=(q.rep b _ r _ r1 hm).1;have h2:Fs i=φ b:=funext fun x=>propext (Fs_abs i b _ hb r1 rfl x)
   rw[h2];exact h1
  ·intro i k L r T' ho ht;obtain⟨b,hb,rfl,hm⟩:=tsb i T' ht;obtain⟨o1,r1,r2,r3,r4,r5,r6⟩:=oab i b _ hb ho;obtain⟨rfl,_⟩:=Fy r4;have h1:=(q.rep b _ r _ r1 hm).1;have h2:Fs i=φ b:=funext fun x=>propext (Fs_abs i b _ hb r1 rfl x)
   rw[h2];exact h1
  ·intro i s' r ho;obtain⟨b,hb⟩:=bat i (List.getElem?_eq_some_iff.1 ho).1;obtain⟨o1,r1,r2,r3,r4,r5,r6⟩:=oab i b _ hb ho;exact(Fy r4).2
  ·intro i s' r T' ho ht;obtain⟨b,hb,rfl,hm⟩:=tsb i T' ht;obtain⟨o1,r1,r2,r3,r4,r5,r6⟩:=oab i b _ hb ho;obtain⟨rfl,_⟩:=Fy r4;have h1:=(q.rep b _ r _ r1 hm).1;have h2:Fs i=φ b:=funext fun x=>propext (Fs_abs i b _ hb r1 rfl x)
   rw[h2];exact h1
  ·rintro i j x hi hj ⟨b1,o1,g1,g2,g3⟩ ⟨b2,o2,k1,k2,k3⟩;rcases Nat.decEq i j with hij | hij
   ·exfalso;have hne12:b1≠b2:=by rintro rfl;exact hij (uniq i j b1 g1 k1)
    exact apart b1 o1 b2 o2 hne12 g2 k2 (.inl (oro i b1 o1 hi g1 g2)) _ _ (htg b1 (mem g1)) (htg b2 (mem k1)) x g3 k3
   ·exact hij
 have hb0m:=htg b0 (mem hb0);obtain⟨o00,ho00⟩:∃o,objs[0]? = some o:=⟨_,List.getElem?_eq_getElem h0⟩
 obtain⟨o01,hg0,hro0,_,hr01,_,_⟩:=oab 0 b0 o00 hb0 ho00;have hv01:∀T,¬o01.void T:=fun T hw=>hroot o00 T ho00 ((B1 hr01 T).1 hw)
 have key:∀x o1,H'.get x=some o1->(x=b0/\o1= .abs (.pack s) false)∨(x∉bs/\H.get x=some o1):=by
  intro x o1 hx
  by_cases hxb:x∈bs
  ·obtain⟨i,hi,e⟩:=List.getElem_of_mem hxb;have hi':bs[i]? = some x:=by rw[List.getElem?_eq_getElem hi,e]
   by_cases e0:i=0
   ·subst e0;rw[hb0]at hi';cases hi'
    rw[hS.root b0 hb0]at hx;cases hx
    exact .inl ⟨rfl,rfl⟩
   ·rw[hS.rest i x (by omega) hi']at hx;cases hx
  ·exact .inr ⟨hxb,by rw[<-hS.C2 x hxb];exact hx⟩
 have Fown:∀x,F x->¬base.K x:=by
  rintro x ⟨i,hi,b,o1,g1,g2,g3⟩;obtain⟨o,ho⟩:∃o,objs[i]? = some o:=⟨_,List.getElem?_eq_getElem hi⟩
  obtain⟨o2,r1,r2,r3,r4,r5,r6⟩:=oab i b o g1 ho;rw[g2]at r1;cases r1
  rcases g3 with⟨a,g3⟩ | ⟨a,g3,gv⟩
  ·obtain⟨a',r,rfl⟩:=DY a;exact(q.rep b a' r _ g2 (htg b (mem g1))).2 r2 x g3
  ·rw[g3];exact h.own b o1 g2 r2 _ (htg b (mem g1)) gv
 have Fout:∀x,F x->∀y o2 T2,y∉bs->H.get y=some o2->μ y=some T2->((o2.isAbs=true/\φ y x)∨(o2.isAbs=false/\x=T2.c/\¬o2.void T2))->False:=by
  rintro x ⟨i,hi,b,o1,g1,g2,g3⟩ y o2 T2 hy hg hm hp;exact apart b o1 y o2 (by rintro rfl;exact hy (mem g1)) g2 hg (.inl (oro i b o1 hi g1 g2)) _ _ (htg b (mem g1)) hm x g3 hp
 have hroot2:F (tg b0).c:=⟨0,h0,root 0 b0 o01 hb0 hg0 (hv01 _)⟩;have cOf:∀y o2 T2,H.get y=some o2->μ y=some T2->¬o2.void T2->((o2.isAbs=true/\φ y T2.c)∨(o2.isAbs=false/\T2.c=T2.c/\¬o2.void T2)):=by
  intro y o2 T2 hg hm hv;cases hab:o2.isAbs
  ·exact .inr ⟨rfl,rfl,hv⟩
  ·obtain⟨a,r,rfl⟩:=DY hab;exact .inl ⟨rfl,(DH.Gf _ _ _ _ (q.rep y a r T2 hg hm).1).1 (Q2 hv)⟩
 refine⟨⟨?_,?_,?_,?_,h.bound,h.size,h.below,h.out,h.os,?_,h.le,h.grow⟩,⟨Ai.le_refl _,by rw[hS.next];exact Nat.le_refl _,?_⟩⟩
 ·intro x o1 hx T' hT';rcases key x o1 hx with⟨rfl,rfl⟩ | ⟨hxb,De⟩
  ·obtain⟨o',r1,_⟩:=h.obj _ _ hg0 T' hT';exact⟨o',r1,.abs T' _ _ _⟩
  ·exact h.obj x o1 De T' hT'
 ·intro x o1 hx hro T' hT' hv;rcases key x o1 hx with⟨rfl,rfl⟩ | ⟨hxb,De⟩
  ·exact h.own _ _ hg0 hro0 T' hT' (hv01 _)
  ·exact h.own x o1 De hro T' hT' hv
 ·intro x y o1 o2 hx hy T1 T2 h1 h2 v1 v2 hc hrr;rcases key x o1 hx with⟨rfl,rfl⟩ | ⟨hxb,De⟩
  ·rcases key y o2 hy with⟨rfl,rfl⟩ | ⟨hyb,hy2⟩
   ·rfl
   ·exact h.inj _ y _ o2 hg0 hy2 T1 T2 h1 h2 (hv01 _) v2 hc (.inl hro0)
  ·rcases key y o2 hy with⟨rfl,rfl⟩ | ⟨hyb,hy2⟩
   ·exact h.inj x _ o1 _ De hg0 T1 T2 h1 h2 v1 (hv01 _) hc (.inr hro0)
   ·exact h.inj x y o1 o2 De hy2 T1 T2 h1 h2 v1 v2 hc hrr
 ·intro x hx;rw[hS.next]at hx;refine⟨?_,(h.fresh x hx).2⟩;have:x∉bs:=fun hm=>by
   have:=htg x hm;rw[(h.fresh x hx).2]at this;cases this
  rw[hS.C2 x this];exact(h.fresh x hx).1
 ·refine⟨fun x=>if x=b0 then F else φ x,?_,?_⟩
  ·intro x a r T' hx hT';rcases key x _ hx with⟨rfl,e⟩ | ⟨hxb,De⟩
   ·cases e
    rw[hb0m]at hT';cases hT'
    simp only[if_true];exact⟨hrep,fun _=>Fown⟩
   ·have:x≠b0:=by rintro rfl;exact hxb (mem hb0)
    simp only[if_neg this];exact q.rep x a r T' De hT'
  ·intro x a r T' hx hT' y o2 T2 hy hT2 hne2;rcases key x _ hx with⟨rfl,e⟩ | ⟨hxb,De⟩
   ·cases e
    rcases key y o2 hy with⟨rfl,_⟩ | ⟨hyb,hy2⟩
    ·exact absurd rfl hne2
    ·simp only[if_true,if_neg hne2];exact⟨fun hv2 e=>Fout _ e y o2 T2 hyb hy2 hT2 (cOf y o2 T2 hy2 hT2 hv2),fun hab z hz hz2=>Fout z hz y o2 T2 hyb hy2 hT2 (.inl ⟨hab,hz2⟩)⟩
   ·have hxn:x≠b0:=by rintro rfl;exact hxb (mem hb0)
    rcases key y o2 hy with⟨rfl,e⟩ | ⟨hyb,hy2⟩
    ·rw[hb0m]at hT2;cases hT2
     simp only[if_true,if_neg hxn];exact⟨fun _ e=>Fout _ hroot2 x _ T' hxb De hT' (.inl ⟨rfl,e⟩),fun _ z hz hz2=>Fout z hz2 x _ T' hxb De hT' (.inl ⟨rfl,hz⟩)⟩
    ·have hyn:y≠b0:=by rintro rfl;exact hyb (mem hb0)
     simp only[if_neg hxn,if_neg hyn];exact q.ER x a r T' De hT' y o2 T2 hy2 hT2 hne2
 ·intro x hx hn;refine⟨hn,hS.C2 x fun hm=>?_⟩;have:=htg x hm;rw[hn]at this;cases this
end
theorem bz {laid:List (Nat × List Value)} {N:Nat} {bs:List Nat} {nx k b:Nat} (h:b < N):Fm laid N bs nx k b=Lh laid N b:=Ic h
theorem aZ {laid:List (Nat × List Value)} {N:Nat} {bs:List Nat} {nx k b:Nat} (h:N<=b) (h2:b < N+bs.length):Fm laid N bs nx k b=bs[b - N]?:=by
 unfold Fm;rw[EM h,List.getElem?_append_left (by omega)]
theorem c8 {laid:List (Nat × List Value)} {N:Nat} {bs:List Nat} {nx k b:Nat} (h:N+bs.length<=b) (h2:b < N+bs.length+k):Fm laid N bs nx k b=some (nx+(b - (N+bs.length))):=by
 unfold Fm;rw[EM (by omega),List.getElem?_append_right (by omega),List.getElem?_map,List.getElem?_range (by omega)];simp only[Option.map_some,Option.some.injEq];omega
theorem BY {P:Program} {laid:List (Nat × List Value)} {fs:List (FuncId × Cn)} (hfs:A4 P laid fs) (hm:P.follows .mixedOrders=true) {f:FuncId} {n N:Nat} (he:entry P f=some (n,BI P f [])) (hN:(laid.all fun p=>Nat.blt p.1 N)=true)
 {Bj:List Bool} {G:List Value->List AK->GT} (hG:∀argsc objs x,(G argsc objs).run=some x->(∀(j:Nat) (o:AK),objs[j]? = some o->Ch Bj j=true->o.ro=false)->
  argsc.length<=n/\Aq (Cx P laid fs) (N+objs.length) (fun b=>N<=b/\b < N+objs.length) f (fun v Hf=>CY laid N objs.length Bj x v Hf) (G3 f (Cb 0 argsc .leaf) n (BI P f []) (BH ⟨.leaf,N⟩ (GP Bj 0 objs)))):
 C3 P laid f (Al laid N Bj G):=by
 refine⟨⟨n,_,he⟩,?_⟩;intro base W0 μ H W args args' v H' hW hH hl ha hF;unfold Al at hF;generalize hbs:Am H N 200 (args.flatMap (Af 4)) []=bs at hF;have hreach:=FA hH (N:=N) 200 (args.flatMap (Af 4)) [] (JB ha) ⟨List.nodup_nil,fun b hb=>by cases hb⟩;rw[hbs]at hreach;obtain⟨hnd,hbs2⟩:=hreach;split at hF
 rotate_left
 ·cases hF
 rename_i argsc objs h1 h2;cases hmu:FD Bj H 0 bs
 ·simp only[hmu,cond_false]at hF;cases hF
 simp only[hmu,cond_true]at hF;split at hF
 rotate_left
 ·cases hF
 rename_i x hx;unfold Kz at hF;split at hF
 rotate_left
 ·cases hF
 rename_i va Hb e1 e2;split at hF
 rotate_left
 ·cases hF
 rename_i H2 e3;cases hF
 obtain⟨ol,oget⟩:=RZ h2;obtain⟨n1,n2,n3,n4⟩:=RQ e3;obtain⟨b1,b2,b3,b4⟩:=PH e2 hnd;have hbsAt:∀(j b:Nat),bs[j]? = some b->N<=b/\∃T,μ b=some T:=fun j b hb=>hbs2 b (List.mem_of_getElem? hb)
 have hro:∀(j:Nat) (o:AK),objs[j]? = some o->Ch Bj j=true->o.ro=false:=by
  intro j o ho hmj;have hj:j < bs.length:=by
   rcases Nat.lt_or_ge j objs.length with h | h
   ·omega
   ·rw[List.getElem?_eq_none h]at ho;cases ho
  obtain⟨p,p1,q1,q2,q3⟩:=oget j bs[j] (List.getElem?_eq_getElem hj);obtain⟨p',r1,r2⟩:=Nj hmu j bs[j] (List.getElem?_eq_getElem hj) (by rw[Nat.zero_add];exact hmj);rw[q1]at r1;cases r1
  rw[ho]at q3;cases q3
  rw[(DP q2).1];exact r2
 obtain⟨g1,g2⟩:=hG argsc objs x hx hro;have hout:∀b i,E5 laid N bs b=some i->(b < N/\laid.any (fun p=>Nat.beq b p.1)=true/\i=b)∨(N<=b/\bs[b - N]? = some i):=by
  intro b i hb;rcases Nat.lt_or_ge b N with h | h
  ·rw[Ic h]at hb;obtain⟨rfl,_,h3⟩:=Mr hb;exact .inl ⟨h,h3,rfl⟩
  ·rw[EM h]at hb;exact .inr ⟨h,hb⟩
 have hdomb:∀b i,E5 laid N bs b=some i->∃T,μ i=some T:=by
  intro b i hb;rcases hout b i hb with⟨_,h4,rfl⟩ | ⟨_,h4⟩
  ·obtain⟨T,h3,_⟩:=hl i h4;exact⟨T,h3⟩
  ·exact(hbsAt _ _ h4).2
 have hinj:∀b1 b2 i,E5 laid N bs b1=some i->E5 laid N bs b2=some i->b1=b2:=by
  intro c1 c2 i q1 q2;rcases hout c1 i q1 with⟨a1,_,a3⟩ | ⟨a1,a2⟩<;>rcases hout c2 i q2 with⟨d1,_,d3⟩ | ⟨d1,d2⟩
  ·omega
  ·have:=(hbsAt _ _ d2).1;omega
  ·have:=(hbsAt _ _ a2).1;omega
  ·have:=VB hnd a2 d2;omega
 have hiN:∀b i,E5 laid N bs b=some i->i < H.next:=fun b i hb=>let ⟨_,hT⟩:=hdomb b i hb;hH.NY hT
 have hHn:(BH ⟨.leaf,N⟩ (GP Bj 0 objs)).next=N+bs.length:=by rw[PC,Kw,ol]
 have hlt:∀b i,E5 laid N bs b=some i->b < (BH ⟨.leaf,N⟩ (GP Bj 0 objs)).next:=by
  intro b i hb;rw[hHn];rcases hout b i hb with⟨h4,_,_⟩ | ⟨h4,h5⟩
  ·omega
  ·have:b - N < bs.length:=by
    rcases Nat.lt_or_ge (b - N) bs.length with h | h
    ·exact h
    ·rw[List.getElem?_eq_none h]at h5;cases h5
   omega
 have hHg:∀b o,(BH ⟨.leaf,N⟩ (GP Bj 0 objs)).get b=some o->N<=b/\∃o0,objs[b - N]? = some o0/\o=(bif Ch Bj (b - N)then o0 else Ib o0):=by
  intro b o hb;rw[Ev]at hb;simp only at hb
  by_cases h4:b < N
  ·rw[if_pos h4]at hb;cases hb
  ·rw[if_neg h4,LH,Nat.zero_add]at hb;cases hq:objs[b - N]? with
   | none=>rw[hq]at hb;cases hb
   | some o0=>rw[hq]at hb;simp only[Option.map_some,Option.some.injEq]at hb;exact⟨by omega,o0,rfl,hb.symm⟩
 have hroV:∀b o,(BH ⟨.leaf,N⟩ (GP Bj 0 objs)).get b=some o->o.ro=false->Ch Bj (b - N)=true:=by
  intro b o hb hr;obtain⟨h4,o0,h5,rfl⟩:=hHg b o hb;cases hmm:Ch Bj (b - N)
  ·rw[hmm]at hr;simp only[cond_false]at hr;have hj:b - N < bs.length:=by
    rcases Nat.lt_or_ge (b - N) objs.length with h | h
    ·omega
    ·rw[List.getElem?_eq_none h]at h5;cases h5
   obtain⟨p,p1,q1,q2,q3⟩:=oget (b - N) _ (List.getElem?_eq_getElem hj);rw[h5]at q3;cases q3
   have:=(LN (Ry (fun _ _ h=>Sn h) q2)).2;rw[hr]at this;cases this
  ·rfl
 refine jA (X:=Cx P laid fs) (fun b W0 hW=>hfs.Ep b W0 hW) (GA hm rfl) hW hH hl he (Hc:=BH ⟨.leaf,N⟩ (GP Bj 0 objs)) (argsc:=argsc) (ρ:=E5 laid N bs) g1 (FW (QJ (fun _ _ h=>Sn h) 6) _ _ h1) ha hlt hdomb hinj
  (by rw[n1,b1];omega) (fun g hg=>?_) (fun b o hb=>?_) (fun i hi hno=>?_) (fun i hi=>?_) ?_
 ·have hg:laid.any (fun p=>Nat.beq g p.1)=true:=hg;have hgN:g < N:=by
   obtain⟨p,hp1,hp2⟩:=List.any_eq_true.1 hg;have:=List.all_eq_true.1 hN p hp1;rw[Nat.eq_of_beq_eq_true hp2];exact Nat.le_of_ble_eq_true this
  rw[Ic hgN];unfold Lh;rw[show Nat.blt g N=true from Nat.ble_eq_true_of_le hgN,hg];rfl
 ·obtain⟨h4,o0,h5,rfl⟩:=hHg b o hb;have hj:b - N < bs.length:=by
   rcases Nat.lt_or_ge (b - N) objs.length with h | h
   ·omega
   ·rw[List.getElem?_eq_none h]at h5;cases h5
  obtain⟨p,p1,q1,q2,q3⟩:=oget (b - N) _ (List.getElem?_eq_getElem hj);rw[h5]at q3;cases q3
  have hinv:=Ry (τ:=E5 laid N bs) (fun _ _ h=>Sn h) q2;refine⟨bs[b - N],p,by rw[EM h4];exact List.getElem?_eq_getElem hj,q1,?_⟩;cases hmm:Ch Bj (b - N)
  ·exact .inr ⟨(LN hinv).2,(LN hinv).1⟩
  ·exact .inl hinv
 ·rw[n2 i (by rw[b1];exact hi)]
  by_cases hi2:i∈bs
  ·obtain⟨j,hj,hje⟩:=List.getElem_of_mem hi2;have hjb:bs[j]? = some i:=by rw[List.getElem?_eq_getElem hj,hje]
   refine b3 j i hjb ?_;cases hmm:Ch Bj (0+j)
   ·rfl
   ·exfalso;rw[Nat.zero_add]at hmm;obtain⟨p,p1,q1,q2,q3⟩:=oget j i hjb;have hg:(BH ⟨.leaf,N⟩ (GP Bj 0 objs)).get (N+j)=some p1:=by
     rw[Ev];simp only;rw[if_neg (by omega),LH,Nat.zero_add,show N+j - N=j by omega,q3];simp only[Option.map_some,hmm,cond_true]
    exact hno (N+j) p1 hg (hro j p1 q3 hmm) (by rw[EM (by omega),show N+j - N=j by omega];exact hjb)
  ·exact b2 i hi2
 ·rw[n1,b1]at hi;rw[n4 i (by rw[b1];exact hi)];have hge:H.next<=i:=by omega
  have hnb:i∉bs:=by
   intro hb;obtain⟨_,T,hT⟩:=hbs2 i hb;have:=hH.NY hT;omega
  rw[b2 i hnb];exact(hH.fresh i hge).1
 ·rw[hHn,<-ol];refine(g2.mono fun vc Hf ⟨ns,m1,m2,m3,m4,m5,m6⟩=>?_).sub fun b hb=>⟨bs[b - N]'(by omega),by rw[EM hb.1];exact List.getElem?_eq_getElem _⟩
  have hcomp:∀c r,CY.ID laid N objs.length ns c=some r->(if r < N+objs.length then E5 laid N bs r else(posOf r ns).map (H.next+·))=Fm laid N bs H.next x.news.length c:=by
   intro c r hc;unfold CY.ID at hc
   by_cases c1:c < N
   ·rw[if_pos c1]at hc;obtain⟨rfl,_,_⟩:=Mr hc;rw[if_pos (by omega),Ic c1,bz c1]
   ·rw[if_neg c1]at hc
    by_cases c2:c < N+objs.length
    ·rw[if_pos c2]at hc;cases hc
     rw[if_pos c2,EM (by omega),aZ (by omega) (by omega)]
    ·rw[if_neg c2]at hc;have hj:c - (N+objs.length) < ns.length:=by
      rcases Nat.lt_or_ge (c - (N+objs.length)) ns.length with h | h
      ·exact h
      ·rw[List.getElem?_eq_none h]at hc;cases hc
     have hge:=m2 r (List.mem_of_getElem? hc);rw[if_neg (by omega),Ix m1 hc,c8 (by omega) (by omega),ol];rfl
  refine⟨fun b=>if b < N+objs.length then E5 laid N bs b else(posOf b ns).map (H.next+·),?_,?_,?_,?_,?_⟩
  ·intro c1 c2 i q1 q2
   by_cases d1:c1 < N+objs.length<;>by_cases d2:c2 < N+objs.length
   ·simp only[d1,d2,if_true]at q1 q2;exact hinj c1 c2 i q1 q2
   ·simp only[d1,d2,if_true,if_false]at q1 q2;obtain⟨j,_,rfl⟩:=Option.map_eq_some_iff.1 q2;have:=hiN _ _ q1;omega
   ·simp only[d1,d2,if_true,if_false]at q1 q2;obtain⟨j,_,rfl⟩:=Option.map_eq_some_iff.1 q1;have:=hiN _ _ q2;omega
   ·simp only[d1,d2,if_false]at q1 q2;obtain⟨j1,w1,w2⟩:=Option.map_eq_some_iff.1 q1;obtain⟨j2,w3,w4⟩:=Option.map_eq_some_iff.1 q2;have:j1=j2:=by omega
    subst this;have:=KR w1;rw[KR w3]at this;cases this;rfl
  ·intro b hb;rw[hHn,<-ol]at hb;simp only[hb,if_true]
  ·intro b i hb hge;rw[hHn,<-ol]at hge;simp only[show ¬b < N+objs.length by omega,if_false]at hb;obtain⟨j,w1,rfl⟩:=Option.map_eq_some_iff.1 hb;have:=KR w1;have hj:j < ns.length:=by
    rcases Nat.lt_or_ge j ns.length with h | h
    ·exact h
    ·rw[List.getElem?_eq_none h]at this;cases this
   rw[n1,b1];omega
  ·intro i o hi hc
   by_cases hge:H.next<=i
   ·have hiu:i < H.next+x.news.length:=by
     rcases Nat.lt_or_ge i (H.next+x.news.length)with h | h
     ·exact h
     ·rw[n4 i (by rw[b1];exact h)]at hi;have hnb:i∉bs:=by
       intro hb;obtain⟨_,T,hT⟩:=hbs2 i hb;have:=hH.NY hT;omega
      rw[b2 i hnb,(hH.fresh i hge).1]at hi;cases hi
    obtain⟨o0,w1,w2,w3⟩:=n3 i o (by rw[b1];exact hge) (by rw[b1];exact hiu) hi;rw[b1]at w1;have hj:i - H.next < ns.length:=by omega
    have hb:=List.getElem?_eq_getElem hj;obtain⟨o1,y1,y2⟩:=m5 (i - H.next) _ o0 hb w1;have hge2:=m2 _ (List.mem_of_getElem? hb);have hro1:BV (fun b=>if b < N+objs.length then E5 laid N bs b else(posOf b ns).map (H.next+·)) o1=some o:=by
     rw[PJ (υ:=Fm laid N bs H.next x.news.length) hcomp y1];exact w2
    refine⟨ns[i - H.next],o1,?_,y2,hro1,by rw[<-(DP hro1).1];exact w3⟩;simp only[show ¬ns[i - H.next] < N+objs.length by omega,if_false];rw[Ix m1 hb];show some (H.next+(i - H.next))=some i
    congr 1;omega
   ·rcases hc with hc | ⟨b,o0,q1,q2,q3⟩
    ·exact absurd hc hge
    ·have hmm:=hroV b o0 q1 q2;obtain⟨q4,p0,q5,q6⟩:=hHg b o0 q1;rw[EM q4]at q3;rw[n2 i (by rw[b1];omega)]at hi;obtain⟨o2,w1,w2,w3⟩:=b4 (b - N) i o q3 (by rw[Nat.zero_add];exact hmm) hi;have hj:b - N < objs.length:=by
      rcases Nat.lt_or_ge (b - N) objs.length with h | h
      ·exact h
      ·rw[List.getElem?_eq_none h]at q5;cases q5
     obtain⟨o1,y1,y2⟩:=m6 (b - N) o2 hj hmm w1;rw[show N+(b - N)=b by omega]at y2;have hro1:BV (fun b=>if b < N+objs.length then E5 laid N bs b else(posOf b ns).map (H.next+·)) o1=some o:=by
      rw[PJ (υ:=Fm laid N bs H.next x.news.length) hcomp y1];exact w2
     refine⟨b,o1,?_,y2,hro1,by rw[<-(DP hro1).1];exact w3⟩;simp only[show b < N+objs.length by omega,if_true];rw[EM q4];exact q3
  ·rw[show FC _ vc=FC (Fm laid N bs H.next x.news.length) x.v from NM hcomp 6 _ _ m4];exact e1
theorem RI {P:Program} {laid:List (Nat × List Value)} {fs:List (FuncId × Cn)} (hfs:A4 P laid fs) (hm:P.follows .mixedOrders=true) {f:FuncId} {n N:Nat} (he:entry P f=some (n,BI P f [])) (hN:(laid.all fun p=>Nat.blt p.1 N)=true)
 {Bj:List Bool} {G:List Value->List AK->GT} (hG:∀argsc objs x,(G argsc objs).run=some x->(∀(j:Nat) (o:AK),objs[j]? = some o->Ch Bj j=true->o.ro=false)->
  argsc.length<=n/\Ad (Cx P laid fs) (N+objs.length) f (fun v Hf=>CY laid N objs.length Bj x v Hf) (G3 f (Cb 0 argsc .leaf) n (BI P f []) (BH ⟨.leaf,N⟩ (GP Bj 0 objs)))):
 C3 P laid f (Al laid N Bj G):=
 BY hfs hm he hN fun argsc objs x hx hro=>⟨(hG argsc objs x hx hro).1,(hG argsc objs x hx hro).2.IC⟩
def OF:List Nat->AA->AA
 | [],H=>H
 | b::r,H=>OF r (H.del b)
theorem On:∀(r:List Nat) (H:AA),(OF r H).next=H.next
 | [],_=>rfl
 | b::r,H=>On r (H.del b)
theorem Ng:∀(r:List Nat) (H:AA) (x:Nat),(OF r H).get x=if x∈r then none else H.get x
 | [],H,x=>by simp[OF]
 | b::r,H,x=>by
  rw[OF,Ng r (H.del b) x,AA.Bb]
  by_cases h1:x∈r
  ·simp[h1]
  ·by_cases h2:x=b
   ·simp[h2]
   ·simp[h1,h2]
def DE (s:Pk):List Nat->AA->AA
 | [],H=>H
 | b::r,H=>(OF r H).put b (.abs (.pack s) false)
theorem B6 {s:Pk} {bs:List Nat} {H:AA} (hnd:bs.Nodup):iN H s bs (DE s bs H):=by
 cases bs with
 | nil=>exact⟨rfl,fun b h=>(by cases h),fun i b _ h=>(by cases h),fun x _=>rfl⟩
 | cons b r=>
  have hbr:b∉r:=(List.nodup_cons.1 hnd).1;refine⟨?_,?_,?_,?_⟩
  ·show(OF r H).next=H.next;exact On r H
  ·intro b' hb';cases hb'
   show((OF r H).put b _).get b=_;rw[AA.AQ,if_pos rfl]
  ·intro i b' hi hb';cases i with
   | zero=>omega
   | succ i=>
    have hm:b'∈r:=List.mem_of_getElem? (i:=i) hb';show((OF r H).put b _).get b'=_;rw[AA.AQ,if_neg (by rintro rfl;exact hbr hm),Ng,if_pos hm]
  ·intro x hx;simp only[List.mem_cons,not_or]at hx;show((OF r H).put b _).get x=_;rw[AA.AQ,if_neg hx.1,Ng,if_neg hx.2]
inductive CE (D:Nat->Prop) (v:Value):AA->AA->Prop where
 | refl (H:AA):CE D v H H
 | step {H H2:AA} (s:Pk) (objs:List AK) (bs rs:List Nat) (hr:Dv s objs) (hne:objs≠[]) (hlen:bs.length=objs.length) (hnd:bs.Nodup) (hrs:∀b∈rs,b∈Af 4 v∨D b)
  (hreach:∀b∈bs,b∈Am H 0 200 rs []) (hobj:∀(i b:Nat) (o:AK),bs[i]? = some b->objs[i]? = some o->∃o1,H.get b=some o1/\o1.ro=false/\o1.G7=true/\BV (WI bs (Eb s)) o=some o1) (hroot:∀o T,objs[0]? = some o->¬o.void T)
  (k:CE D v (DE s bs H) H2):CE D v H H2
theorem CE.ok {D:Nat->Prop} {v:Value} {H H2:AA} (h:CE D v H H2) {base:Env} {W0 W:World} {μ:Ai} {v':Value} (hD:∀b,D b->∃T,base.dF b=some T) (hv:AM μ v v'):AT base W0 μ H W->AT base W0 μ H2 W:=by
 induction h with
 | refl H=>exact fun h=>h
 | step s objs bs rs hr hne hlen hnd hrs hreach hobj hroot k ih=>
  intro hH;refine ih (hH.shut hr hnd hlen hne (fun b hb=>?_) hobj (B6 hnd) hroot).1;have hr2:=FA hH (N:=0) 200 rs [] (fun b hb=>?_) ⟨List.nodup_nil,fun b hb=>by cases hb⟩
  ·exact(hr2.2 b (hreach b hb)).2
  ·rcases hrs b hb with hb | hb
   ·exact JB (BD.cons hv .nil) b (by simpa using hb)
   ·obtain⟨T,hT⟩:=hD b hb;exact⟨T,hH.le b T hT⟩
section
variable {X:Ctx} {N:Nat} {D:Nat->Prop} {f:FuncId} {Q Q':Value->AA->Prop}
theorem Aq.opened {c:A8} {b:Nat} {s:Pk} {ro:Bool} (hD:D b) (hb:c.H.get b=some (.abs (.pack s) ro)) (hp:∀ops p k,c.fr.todo≠ .Dp ops p::k)
 (h:∀objs,Dv s objs->∃H',KG c.H b ro objs H' (Eb s)/\Aq X N D f Q ⟨c.fr,c.cs,H'⟩):Aq X N D f Q c:=by
 intro base W0 hb0 hDm hok hplan cs0 μ fr cs W hm;obtain⟨T,hT⟩:=hDm b hD;obtain⟨hH,hlaid,g,gs,hfr,hcs,hnd⟩:=hm;obtain⟨objs,hr,ho⟩:=hH.opened hb (hH.le b T hT);obtain⟨H',hO,hrun⟩:=h objs hr;obtain⟨μ',hH',hE⟩:=ho H' hO;refine hrun base W0 hb0 hDm hok hplan cs0 μ' fr cs W ⟨hH',hlaid.mono hE.le,g,gs,?_,hcs.mono (hE.keeps _),hnd⟩;obtain⟨f0,cs1,H1⟩:=c;cases hfr with
 | plain fn t n tm todo todo' ds ds' r kd rd rd' ht hi hd hr=>exact .plain fn t n tm todo todo' ds ds' r kd rd rd' (ht.mono hE.le) (hi.mono hE.le) (hd.mono hE.le) (hr.mono hE.le)
 | drawn fn t n tm ops Bu idx D G k k' ds ds' kd rd rd' hD hk hd hr=>exact absurd rfl (hp ops Bu k)
theorem Aq.shut {c:A8} (h:Aq X N D f Q c) (hq:∀v H,Q v H->∃H2,CE D v H H2/\Q' v H2):Aq X N D f Q' c:=by
 intro base W0 hb0 hDm hok hplan cs0 μ fr cs W hm;obtain⟨c',⟨v,H,v1,H1,h1,h2,h3⟩,h4⟩:=h base W0 hb0 hDm hok hplan cs0 μ fr cs W hm;obtain⟨H2,k1,k2⟩:=hq v1 H1 h3;refine⟨c',⟨v,H,v1,H2,h1,fun μ1 W1 v' hv hH=>?_,k2⟩,h4⟩;obtain⟨μ2,g0,g1,g2⟩:=h2 μ1 W1 v' hv hH;exact⟨μ2,g0,k1.ok hDm g2 g1,g2⟩
theorem Aq.tell {c:A8} (h:Aq X N D f Q c) (hq:∀v H,Q v H->∃v2 H2,(∀(base:Env) (W0:World) (μ:Ai) (W:World) (v':Value),(∀b,D b->∃T,μ b=some T)->AM μ v v'->AT base W0 μ H W->∃μ2,μ.le μ2/\AT base W0 μ2 H2 W/\AM μ2 v2 v')/\Q' v2 H2):Aq X N D f Q' c:=by
 intro base W0 hb0 hDm hok hplan cs0 μ fr cs W hm;obtain⟨c',⟨v,H,v1,H1,h1,h2,h3⟩,h4⟩:=h base W0 hb0 hDm hok hplan cs0 μ fr cs W hm;obtain⟨v2,H2,k1,k2⟩:=hq v1 H1 h3;refine⟨c',⟨v,H,v2,H2,h1,fun μ1 W1 v' hv hH=>?_,k2⟩,h4⟩;obtain⟨μ2,g0,g1,g2⟩:=h2 μ1 W1 v' hv hH;obtain⟨μ3,f0,f1,f2⟩:=k1 base W0 μ2 W1 v' (fun b hb=>by obtain⟨T,hT⟩:=hDm b hb;exact⟨T,g1.le b T hT⟩) g2 g1;exact⟨μ3,Ai.le_trans g0 f0,f1,f2⟩
theorem Aq.told {c:A8} (h:Aq X N D f Q c) (hq:∀v H,Q v H->∃H2,(∀(base:Env) (W0:World) (μ:Ai) (W:World),AT base W0 μ H W->AT base W0 μ H2 W)/\Q' v H2):Aq X N D f Q' c:=
 h.tell fun v H q=>let ⟨H2,k1,k2⟩:=hq v H q;⟨v,H2,fun base W0 μ W _ _ hv hH=>⟨μ,Ai.le_refl _,k1 base W0 μ W hH,hv⟩,k2⟩
theorem Aq.row {c:A8} {k:EK} (h:Aq X N D f Q c) (hq:∀v H,Q v H->∃b n l,v= .slice (some ⟨b,0,none⟩) n (AF+n)/\H.get b=some (.cells (A2 k l) k.length false)/\Q' (.slice (some ⟨b,0,some 0⟩) n AF) (H.put b (.vec k l false))) (hk0:k.length≠0:=by decide):Aq X N D f Q' c:=by
 intro base W0 hb0 hDm hok hplan cs0 μ fr cs W hm;obtain⟨c',⟨v,H,v1,H1,h1,h2,h3⟩,h4⟩:=h base W0 hb0 hDm hok hplan cs0 μ fr cs W hm;obtain⟨b,n,l,rfl,hg,k2⟩:=hq v1 H1 h3;refine⟨c',⟨v,H,_,_,h1,fun μ1 W1 v' hv hH=>?_,k2⟩,h4⟩;obtain⟨μ2,g0,g1,g2⟩:=h2 μ1 W1 v' hv hH;have g3:=g1.Mu hg;exact⟨μ2,g0,g3,M8 (j:=0) hk0 (Nat.le_refl _) (fun T hT=>g3.elem (by rw[AA.AQ,if_pos rfl]) hT) (by rw[Nat.zero_mul];exact Ht g2)⟩
end
def eC (sz bytes b off len i n:Nat) (new:List Value) (H:AA):Option (Value × AA):=
 match H.get b with
 | some (.cells cs e false)=>
  let C2:=(cs.drop off).take (len * sz)
  bif Nat.beq C2.length (len * sz)&&Nat.beq e sz&&C2.all Bh&&new.all Bh&&Nat.ble ((2 * (len+n)+192) * bytes) 281474976710656&&Nat.ble (len+n) 4611686018427387904 then
   some (.slice (some ⟨H.next,0,none⟩) (len+n) (AF+(len+n)),(H.del b).alloc (.cells (C2.take (i * sz)++(new++C2.drop (i * sz))) sz false))
  else none
 | _=>none
def Rd (o:Option AK):Bool:=
 match o with
 | some (.cells _ e false)=> !(Nat.beq e 1)
 | _=>false
def ML (sz bytes:Nat):Cn:=fun args H=>
 match args with
 | [.slice (some ⟨b,off,none⟩) len cap,.int .i64 (.ofNat i),.slice (some ⟨vb,voff,none⟩) m vcap]=>
  bif Nat.ble AF cap&&Nat.blt i len&& !(Nat.beq vb b)&& !(Nat.beq m 0)&&Rd (H.get vb)then
   match Dg sz (.slice (some ⟨vb,voff,none⟩) m vcap) H with
   | some (n,new)=>eC sz bytes b off len i n new H
   | none=>none
  else none
 | _=>none
theorem D1 (c:Nat) (t:TypeId) (fz:Nat × Nat):∀(l:List Value) (o:Nat) (a:Array Value) (w:World),w.heap[c]? = some (.cells a t fz)->o+l.length<=a.size->
 ∃a':Array Value,(w.setCells c o l).heap[c]? = some (.cells a' t fz)/\a'.toList=BX a.toList o l/\a'.size=a.size/\(w.setCells c o l).heap.size=w.heap.size/\(∀i,i≠c->(w.setCells c o l).heap[i]? = w.heap[i]?)/\(w.setCells c o l).output=w.output/\(w.setCells c o l).os=w.os:=by
 intro l;induction l with
 | nil=>intro o a w hw _;exact⟨a,hw,by rw[Hy],rfl,rfl,fun _ _=>rfl,rfl,rfl⟩
 | cons v l ih=>
  intro o a w hw hlen;simp only[List.length_cons]at hlen;have hw1:(w.setCell ⟨c,o,none⟩ v).heap[c]? = some (.cells (a.setIfInBounds o v) t fz):=by
   simp only[World.setCell,Array.getElem?_modify,if_true,hw];rfl
  obtain⟨a',r1,r2,r2b,r3,r4,r5,r6⟩:=ih (o+1) (a.setIfInBounds o v) (w.setCell ⟨c,o,none⟩ v) hw1 (by simp;omega);refine⟨a',r1,?_,by rw[r2b];simp,?_,?_,r5,r6⟩
  ·rw[r2,Fc _ _ _ _ (by simp;omega),Array.toList_setIfInBounds]
  ·show((w.setCell ⟨c,o,none⟩ v).setCells c (o+1) l).heap.size=_;rw[r3];simp[World.setCell]
  ·intro i hi;show((w.setCell ⟨c,o,none⟩ v).setCells c (o+1) l).heap[i]? = _;rw[r4 i hi];simp only[World.setCell,Array.getElem?_modify];rw[if_neg (Ne.symm hi)]
def Ri (P:Program) (f:FuncId) (k:Nat):Prop:=∀(b off n c i vb voff m vc:Nat) (cs vs:List Value) (w:World),i < n->0 < m->n+m<=c->c<=9223372036854775807->vb≠b->
 cs.length=n * k->vs.length=m * k->
 (∀j v,cs[j]? = some v->w.cell? ⟨b,off+j,none⟩=some v)->(∀j,j < (n+m) * k->(w.cell? ⟨b,off+j,none⟩).isSome=true)->(∀j,j < (n+m) * k->w.frozen? ⟨b,off+j,none⟩=false)->
 (∀j v,vs[j]? = some v->w.cell? ⟨vb,voff+j,none⟩=some v)->(∀v∈cs,v.oneCell'=true)->(∀v∈vs,v.oneCell'=true)->
 ∀(tA tB:TypeId) (kA kB:Nat),w.shape? vb=some (tA,kA)->w.shape? b=some (tB,kB)->kB≠0->w.frozen? ⟨vb,voff,none⟩=false->w.frozen? ⟨vb,kA,none⟩=false->
 Calls P f #[.slice (some ⟨b,off,none⟩) n c,.int .i64 i,.slice (some ⟨vb,voff,none⟩) m vc] w fun e w'=>
  e= .returned (.slice (some ⟨b,off,none⟩) (n+m) c)/\w'=(w.drew.setCells b (off+(i+m) * k) (cs.drop (i * k))).setCells b (off+i * k) vs
def Uv (P:Program) (f:FuncId) (k B:Nat) (E:TypeId):Prop:=∀(b off n c i vb voff m vc:Nat) (cs vs:List Value) (w:World),i < n->0 < m->n<=c->c < n+m->(2 * (n+m)+192) * B<=281474976710656->
 cs.length=n * k->vs.length=m * k->
 (∀j v,cs[j]? = some v->w.cell? ⟨b,off+j,none⟩=some v)->
 (∀j v,vs[j]? = some v->w.cell? ⟨vb,voff+j,none⟩=some v)->(∀v∈cs,v.oneCell'=true)->(∀v∈vs,v.oneCell'=true)->
 Calls P f #[.slice (some ⟨b,off,none⟩) n c,.int .i64 i,.slice (some ⟨vb,voff,none⟩) m vc] w fun e w'=>
  ∃(G:Nat) (ROW:Array Value),n+m<=G/\ROW.size=G * k/\ROW.toList.take (i * k)=cs.take (i * k)/\e= .returned (.slice (some ⟨w.heap.size,0,none⟩) (n+m) G)/\G<=9223372036854775807/\
   w'=(((w.alloc (.cells ROW E)).drew.setCells w.heap.size (i * k) vs).drew).setCells w.heap.size ((i+m) * k) (cs.drop (i * k))
theorem I8 (A B D:List Value) (y:Nat):BX (A++B) (A.length+y) D=A++BX B y D:=by
 unfold BX;rw[List.take_append,List.take_of_length_le (by omega),List.append_assoc]
 congr 1
 rw[show A.length+y - A.length=y by omega]
 congr 2
 rw[show A.length+y+D.length=A.length+(y+D.length) by omega,List.drop_append];rw[List.drop_eq_nil_of_le (by omega),List.nil_append,show A.length+(y+D.length) - A.length=y+D.length by omega]
theorem V9 (A D V:List Value) (x y:Nat) (hxy:x+V.length=y) (hy:y+D.length<=A.length):(BX (BX A y D) x V).take (x+V.length+D.length)=A.take x++(V++D):=by
 unfold BX;have h1:(A.take y++(D++A.drop (y+D.length))).take x=A.take x:=by
  rw[List.take_append_of_le_length (by rw[List.length_take];omega),List.take_take,Nat.min_eq_left (by omega)]
 have h2:(A.take y++(D++A.drop (y+D.length))).drop (x+V.length)=D++A.drop (y+D.length):=by
  rw[hxy,List.drop_append,List.drop_eq_nil_of_le (by rw[List.length_take];omega),List.nil_append,List.length_take,Nat.min_eq_left (by omega),Nat.sub_self,List.drop_zero]
 rw[h1,h2,<-List.append_assoc,<-List.append_assoc,<-List.append_assoc,List.take_append_of_le_length (by simp;omega),List.take_of_length_le (by simp;omega),List.append_assoc]
theorem TT (A D V:List Value) (x y:Nat) (hxy:x+V.length=y) (hy:y+D.length<=A.length):(BX (BX A x V) y D).take (x+V.length+D.length)=A.take x++(V++D):=by
 unfold BX;have h1:(A.take x++(V++A.drop (x+V.length))).take y=A.take x++V:=by
  rw[<-List.append_assoc,List.take_append_of_le_length (by simp;omega),List.take_of_length_le (by simp;omega)]
 rw[h1,<-List.append_assoc,List.take_append_of_le_length (by simp;omega),List.take_of_length_le (by simp;omega),List.append_assoc]
section
variable {P:Program} {laid:List (Nat × List Value)}
theorem IV {W:World} {c:Nat} {arr:Array Value} {t:TypeId} {fz:Nat × Nat} (hob:W.heap[c]? = some (.cells arr t fz)) {d n j:Nat} {v:Value} (h:((arr.toList.drop d).take n)[j]? = some v):W.cell? ⟨c,d+j,none⟩=some v:=by
 rw[List.getElem?_take]at h;split at h
 ·rw[List.getElem?_drop]at h;simp only[World.cell?,hob];simpa using h
 ·cases h
theorem IW {μ:Ai} {l l':List Value} (h:BD μ l l') (hok:l.all Bh=true):∀v∈l',v.oneCell'=true:=by
 intro q hq;obtain⟨k,hk,rfl⟩:=List.getElem_of_mem hq;have hl:=h.length;have hk2:k < l.length:=by omega
 exact H4 (h.idx k hk2 hk) (List.all_eq_true.1 hok _ (List.getElem_mem hk2))
theorem TF {f:FuncId} {k B:Nat} {E:TypeId} (hent:∃n c,entry P f=some (n,c)) (hk0:0 < k) (hk1:k≠1) (hS:Ri P f k) (hG:Uv P f k B E):C3 P laid f (ML k B):=by
 refine⟨hent,?_⟩;intro base W0 μ H W args args' v H' hW h hl ha hF;unfold ML at hF;split at hF
 ·rename_i b off len cap i vb voff m vcap;cases hc0:(Nat.ble AF cap&&Nat.blt i len&& !(Nat.beq vb b)&& !(Nat.beq m 0)&&Rd (H.get vb))
  ·simp only[hc0,cond_false]at hF;cases hF
  simp only[hc0,cond_true]at hF;simp only[Bool.and_eq_true,Bool.not_eq_true']at hc0;obtain⟨⟨⟨⟨g1,g2⟩,g3⟩,g4⟩,g5⟩:=hc0;have g1:=Nat.le_of_ble_eq_true g1;have g2:i < len:=Nat.le_of_ble_eq_true g2;have g3:vb≠b:=by rintro rfl;rw[Nat.beq_refl]at g3;cases g3
  have g4:m≠0:=by rintro rfl;cases g4
  generalize hq:args'.toList=q at ha;cases ha with
  | cons h1 ha=>cases ha with
   | cons h2 ha=>cases ha with
    | cons h3 ha=>
     cases ha
     cases h2
     cases h1 with
     | slice _ _ _ _ cap' o' T hm hcr ho=>
      cases h3 with
      | slice _ _ _ _ vcap' vo' T2 hm2 hcr2 ho2=>
       have hargs:args'=#[.slice (some ⟨T.c,o',none⟩) len cap',.int .i64 (Int.ofNat i),.slice (some ⟨T2.c,vo',none⟩) m vcap']:=by rw[<-Array.toList_inj,hq]
       subst hargs;have hcr':cap - AF<=cap'/\len<=cap'/\off+cap' * T.e<=T.r/\(T.e=1∨cap'<=9223372036854775807):=by
        rcases hcr with⟨c1,c2⟩ | ⟨c1,c2,c3,c4,c5⟩
        ·omega
        ·exact⟨c2,c3,c4,c5⟩
       obtain⟨c2,c3,c4,c5⟩:=hcr';have hoo:o'=T.d+off:=by
        rcases ho with ho | ⟨e1,_⟩
        ·exact ho
        ·omega
       subst hoo;have hoo2:vo'=T2.d+voff:=by
        rcases ho2 with ho | ⟨e1,_⟩
        ·exact ho
        ·omega
       subst hoo2;split at hF
       ·rename_i n new hsrc;have hmk:m * k≠0:=Nat.mul_ne_zero g4 (by omega);unfold Dg at hsrc;simp only at hsrc;cases hz:Nat.beq (m * k) 0
        ·simp only[hz,cond_false]at hsrc;split at hsrc
         ·rename_i vcs ve vro hgetv;cases hll:Nat.beq ((vcs.drop voff).take (m * k)).length (m * k)
          ·simp only[hll,cond_false]at hsrc;cases hsrc
          simp only[hll,cond_true,Option.some.injEq,Prod.mk.injEq]at hsrc;obtain⟨rfl,rfl⟩:=hsrc;have hvlen:=Nat.eq_of_beq_eq_true hll;have hvro:vro=false/\ve≠1:=by
           rw[hgetv]at g5;unfold Rd at g5;cases vro
           ·refine⟨rfl,?_⟩;rintro rfl;simp at g5
           ·simp at g5
          obtain⟨rfl,hve⟩:=hvro;unfold eC at hF;split at hF
          ·rename_i cs e hget;simp only at hF;cases hbb:(Nat.beq ((cs.drop off).take (len * k)).length (len * k)&&Nat.beq e k&&((cs.drop off).take (len * k)).all Bh&&((vcs.drop voff).take (m * k)).all Bh&&Nat.ble ((2 * (len+m)+192) * B) 281474976710656&&Nat.ble (len+m) 4611686018427387904)
           ·simp only[hbb,cond_false]at hF;cases hF
           simp only[hbb,cond_true,Option.some.injEq,Prod.mk.injEq]at hF;obtain⟨rfl,rfl⟩:=hF;simp only[Bool.and_eq_true]at hbb;obtain⟨⟨⟨⟨⟨b1,b2⟩,b3⟩,b4⟩,b5⟩,b6⟩:=hbb;have b1:=Nat.eq_of_beq_eq_true b1;have b2:=Nat.eq_of_beq_eq_true b2;have b5:=Nat.le_of_ble_eq_true b5;have b6:=Nat.le_of_ble_eq_true b6;subst b2;obtain⟨ob,hob,hor⟩:=h.obj b _ hget T hm;obtain⟨ov,hov,horv⟩:=h.obj vb _ hgetv T2 hm2;cases hor with
           | cells _ _ _ arr t lo hi2 hTe hcl hsz hfz=>
            cases horv with
            | cells _ _ _ varr vt vlo vhi hTe2 hclv hszv hfzv=>
             have hTc:T2.c≠T.c:=fun e1=>g3 (h.inj vb b _ _ hgetv hget T2 T hm2 hm id id e1 (.inr rfl))
             rw[<-hTe]at c4 c5;have hold:BD μ ((cs.drop off).take (len * e)) ((arr.toList.drop (T.d+off)).take (len * e)):=by
              have:=(hcl.drop off).take (len * e);rw[List.drop_take,List.drop_drop,List.take_take,Nat.min_eq_left (by rw[List.length_take,List.length_drop]at b1;omega)]at this;exact this
             have hnew:BD μ ((vcs.drop voff).take (m * e)) ((varr.toList.drop (T2.d+voff)).take (m * e)):=by
              have:=(hclv.drop voff).take (m * e);rw[List.drop_take,List.drop_drop,List.take_take,Nat.min_eq_left (by rw[List.length_take,List.length_drop]at hvlen;omega)]at this;exact this
             have hlo:=hold.length;have hln:=hnew.length;generalize hO:(cs.drop off).take (len * e)=O at hold hlo b1 b3 ⊢;generalize hV:(vcs.drop voff).take (m * e)=V at hnew hln hvlen b4 ⊢;generalize hO':(arr.toList.drop (T.d+off)).take (len * e)=O' at hold hlo;generalize hV':(varr.toList.drop (T2.d+voff)).take (m * e)=V' at hnew hln;have hcsC:∀j v,O'[j]? = some v->W.cell? ⟨T.c,T.d+off+j,none⟩=some v:=fun j v hj=>IV hob (by rw[hO'];exact hj)
             have hvsC:∀j v,V'[j]? = some v->W.cell? ⟨T2.c,T2.d+voff+j,none⟩=some v:=fun j v hj=>IV hov (by rw[hV'];exact hj)
             have h1O:=IW hold b3;have h1V:=IW hnew b4;have hie:i * e<=len * e:=Nat.mul_le_mul_right _ (by omega);have hmul:(i+m) * e=i * e+m * e:=Nat.add_mul _ _ _;have hmul2:(len+m) * e=len * e+m * e:=Nat.add_mul _ _ _;obtain⟨hdel,hdelE⟩:=h.del hm;have hrel:BD μ (O.take (i * e)++(V++O.drop (i * e))) (O'.take (i * e)++(V'++O'.drop (i * e))):=(hold.take _).append (hnew.append (hold.drop _));have hrl:(O.take (i * e)++(V++O.drop (i * e))).length=len * e+m * e:=by
              simp only[List.length_append,List.length_take,List.length_drop];omega
             have hdl:(O'.drop (i * e)).length=len * e - i * e:=by rw[List.length_drop];omega
             have hvsz:T2.d+voff+m * e<=varr.size:=by
              have:=hclv.length;have hx:((varr.toList.drop (T2.d+voff)).take (m * e)).length=m * e:=by rw[hV'];omega
              rw[List.length_take,List.length_drop,Array.length_toList]at hx;omega
             by_cases hfit:len+m<=cap'
             ·have hce:(len+m) * e<=cap' * e:=Nat.mul_le_mul_right _ hfit;refine Calls.mono (hS T.c (T.d+off) len cap' i T2.c (T2.d+voff) m vcap' O' V' W g2 (by omega) hfit (by omega) hTc (by omega) (by omega) hcsC ?_ ?_ hvsC h1O h1V vt t varr.size arr.size ?_ ?_ ?_ ?_ ?_) ?_
              ·intro j hj;simp only[World.cell?,hob];rw[Array.getElem?_eq_getElem (by omega)];rfl
              ·intro j hj;have:=hfz rfl (T.d+off+j) (.inl (by omega));simp only[World.frozen?,hob,Bool.and_eq_false_iff,decide_eq_false_iff_not];omega
              ·simp only[World.shape?,hov]
              ·simp only[World.shape?,hob]
              ·have:0 < (len+m) * e:=Nat.mul_pos (by omega) hk0;omega
              ·have:=hfzv rfl (T2.d+voff) (.inl (by have:0 < m * e:=Nat.pos_of_ne_zero hmk;omega));simp only[World.frozen?,hov,Bool.and_eq_false_iff,decide_eq_false_iff_not];omega
              ·have:=hfzv rfl varr.size (.inr ⟨rfl,hve⟩);simp only[World.frozen?,hov,Bool.and_eq_false_iff,decide_eq_false_iff_not];omega
              ·rintro ex W' ⟨rfl,rfl⟩;obtain⟨a1,r1,r2,r2b,r3,r4,r5,r6⟩:=D1 T.c t (lo,hi2) (O'.drop (i * e)) (T.d+off+(i+m) * e) arr W.drew hob (by omega);obtain⟨a2,s1,s2,s2b,s3,s4,s5,s6⟩:=D1 T.c t (lo,hi2) V' (T.d+off+i * e) a1 _ r1 (by omega);obtain⟨φ,q⟩:=h.abs;have hmap:=hdel.Hr (T:=⟨T.c,T.d+off,T.r - off,e⟩) (o:= .cells (O.take (i * e)++(V++O.drop (i * e))) e false) (W':=(W.drew.setCells T.c (T.d+off+(i+m) * e) (O'.drop (i * e))).setCells T.c (T.d+off+i * e) V')
                (by rw[s3,r3];exact Nat.le_refl _) (fun j _ hj=>by rw[s4 j hj,r4 j hj];rfl)
                (fun b' p T' hb' hm' hv=>by
                 intro e1;obtain⟨e2,hb2⟩:=AA.BJ hb';exact e2 (h.inj b' b _ _ hb2 hget T' T hm' hm hv id e1 (.inr rfl)))
                ⟨φ,⟨fun b' a ro T' h1 h2=>q.rep b' a ro T' (AA.BJ h1).2 h2,fun b' a ro T' h1 h2 b2 o2 T2 h3 h4 h5=>q.ER b' a ro T' (AA.BJ h1).2 h2 b2 o2 T2 (AA.BJ h3).2 h4 h5⟩,
                 fun b' a ro h1 ⟨T',h2⟩=>(q.ER b' a ro T' (AA.BJ h1).2 h2 b _ T hget hm (Ne.symm (AA.BJ h1).1)).1 id⟩
                s1 (h.own b _ hget rfl T hm id) ?_ (by rw[s5,r5];rfl) (by rw[s6,r6];rfl)
               ·exact⟨_,_,rfl,hmap.1,.slice H.next 0 _ _ _ _ ⟨T.c,T.d+off,T.r - off,e⟩ (Ai.Av _ _ _) (.inr ⟨by omega,by omega,hfit,by show 0+cap' * e<=T.r - off;omega,by show e=1∨_;omega⟩) (.inl rfl),hdelE.trans hmap.2⟩
               ·refine .cells ⟨T.c,T.d+off,T.r - off,e⟩ _ _ false _ t lo hi2 rfl ?_ ?_ ?_
                ·show BD μ _ (List.take _ (List.drop (T.d+off) a2.toList));have hA:arr.toList=arr.toList.take (T.d+off)++arr.toList.drop (T.d+off):=(List.take_append_drop _ _).symm;have hAl:(arr.toList.take (T.d+off)).length=T.d+off:=by rw[List.length_take,Array.length_toList];omega
                 generalize hA0:arr.toList.take (T.d+off)=A0 at hA hAl;generalize hA1:arr.toList.drop (T.d+off)=A1 at hA hO';have hA1l:(len+m) * e<=A1.length:=by rw[<-hA1,List.length_drop,Array.length_toList];omega
                 have hs2:a2.toList=A0++BX (BX A1 ((i+m) * e) (O'.drop (i * e))) (i * e) V':=by
                  rw[s2,r2,hA];rw[show T.d+off+(i+m) * e=A0.length+(i+m) * e by omega,I8];rw[show T.d+off+i * e=A0.length+i * e by omega,I8]
                 rw[hs2,hrl,List.drop_left' hAl];have hup:=V9 A1 (O'.drop (i * e)) V' (i * e) ((i+m) * e) (by omega) (by omega);rw[show i * e+V'.length+(O'.drop (i * e)).length=len * e+m * e by omega]at hup;rw[hup,show A1.take (i * e)=O'.take (i * e) by rw[<-hO',List.take_take,Nat.min_eq_left hie]];exact hrel
                ·show a2.size=T.d+off+(T.r - off);omega
                ·intro _ j hj;refine hfz rfl j ?_;have:a2.size=arr.size:=by omega
                 rw[<-this];exact hj
             ·refine Calls.mono (hG T.c (T.d+off) len cap' i T2.c (T2.d+voff) m vcap' O' V' W g2 (by omega) c3 (by omega) b5 (by omega) (by omega) hcsC hvsC h1O h1V) ?_;rintro ex W' ⟨G,ROW,z1,z2,z3,rfl,z4,rfl⟩;have hGe:(len+m) * e<=G * e:=Nat.mul_le_mul_right _ z1;have hal:(W.alloc (.cells ROW E)).drew.heap[W.heap.size]? = some (.cells ROW E (0,0)):=by
               show(W.heap.push _)[W.heap.size]? = _;simp
              obtain⟨a1,r1,r2,r2b,r3,r4,r5,r6⟩:=D1 W.heap.size E (0,0) V' (i * e) ROW (W.alloc (.cells ROW E)).drew hal (by omega);obtain⟨a2,s1,s2,s2b,s3,s4,s5,s6⟩:=D1 W.heap.size E (0,0) (O'.drop (i * e)) ((i+m) * e) a1 (((W.alloc (.cells ROW E)).drew.setCells W.heap.size (i * e) V').drew) r1 (by omega);have hpush:(W.alloc (.cells ROW E)).drew.heap.size=W.heap.size+1:=by
               show(W.heap.push _).size=_;simp
              obtain⟨φ,q⟩:=hdel.abs;have hmap:=hdel.Hr (T:=⟨W.heap.size,0,G * e,e⟩) (o:= .cells (O.take (i * e)++(V++O.drop (i * e))) e false) (W':=(((W.alloc (.cells ROW E)).drew.setCells W.heap.size (i * e) V').drew).setCells W.heap.size ((i+m) * e) (O'.drop (i * e)))
               (by
                rw[s3];show W.heap.size<=((W.alloc (.cells ROW E)).drew.setCells W.heap.size (i * e) V').heap.size;rw[r3,hpush];omega)
               (fun j hjl hj=>by
                rw[s4 j hj];show((W.alloc (.cells ROW E)).drew.setCells W.heap.size (i * e) V').heap[j]? = _;rw[r4 j hj];show(W.heap.push _)[j]? = _;rw[Array.getElem?_push,if_neg (by omega)])
               (fun b' p T' hb' hm' _=>by have:=hdel.bound b' T' hm';show T'.c≠W.heap.size;omega)
               ⟨φ,q,fun b' a ro hb' ⟨T',hm'⟩ hc=>by
                have:=(DH.Gf _ _ _ _ (q.rep b' a ro T' hb' hm').1).2 _ hc;exact absurd this (Nat.lt_irrefl _)⟩
               s1 (fun hk=>absurd (hdel.size _ hk) (Nat.lt_irrefl _)) ?_ (by rw[s5];show((W.alloc (.cells ROW E)).drew.setCells W.heap.size (i * e) V').output=_;rw[r5];rfl) (by rw[s6];show((W.alloc (.cells ROW E)).drew.setCells W.heap.size (i * e) V').os=_;rw[r6];rfl)
              ·exact⟨_,_,rfl,hmap.1,.slice H.next 0 _ _ _ _ ⟨W.heap.size,0,G * e,e⟩ (Ai.Av _ _ _) (.inr ⟨by omega,by omega,z1,by show 0+G * e<=G * e;omega,.inr z4⟩) (.inl rfl),hdelE.trans hmap.2⟩
              ·refine .cells ⟨W.heap.size,0,G * e,e⟩ _ _ false _ E 0 0 rfl ?_ ?_ (fun _ j _=>by omega)
               ·show BD μ _ (List.take _ (List.drop 0 a2.toList));rw[List.drop_zero,s2,r2,hrl];have hup:=TT ROW.toList (O'.drop (i * e)) V' (i * e) ((i+m) * e) (by omega) (by have e5:ROW.toList.length=ROW.size:=Array.length_toList;rw[e5];omega);rw[show i * e+V'.length+(O'.drop (i * e)).length=len * e+m * e by omega]at hup;rw[hup,z3];exact hrel
               ·show a2.size=0+G * e;omega
          ·cases hF
         ·cases hsrc
        ·exact absurd (Nat.eq_of_beq_eq_true hz) hmk
       ·cases hF
 ·cases hF
end
theorem Vi {P:Program} {laid:List (Nat × List Value)} {fs:List (FuncId × Cn)} (hfs:A4 P laid fs) {k:Ow} {n N:Nat} (hs:Ut P laid k n N=true)
 {c':A8} {H1:AA} (hrun:Iw (Cx P laid fs) (G3 k.f (Cb 0 k.args .leaf) n (BI P k.f []) (Gi laid N)) c') (hd:DX (Cx P laid fs) k.f c'=some (k.v,H1)):JL P laid k:=by
 simp only[Ut,Bool.and_eq_true]at hs;obtain⟨⟨⟨⟨⟨h1,h2⟩,h3⟩,h4⟩,h5⟩,h6⟩:=hs;have he:entry P k.f=some (n,BI P k.f []):=by
  cases h:entry P k.f with
  | none=>rw[h]at h6;cases h6
  | some p=>
   obtain⟨m,c⟩:=p;rw[h]at h6;rw[<-Nat.eq_of_beq_eq_true h6];rw[<-h];exact Xv h
 exact⟨⟨n,_,he⟩,fun _ _ _ _ _ _ hW hH ha=>Vr (X:=⟨P,laid,fun _=>none,J4 P⟩) (Cx P laid fs) rfl rfl hW (fun base W0 hW=>hfs.Ep base W0 hW) (GA h1 rfl) he h2 (Nat.le_of_ble_eq_true h3) (OD h4) hrun hd h5 hH ha⟩
end Go.AI
namespace Go.AI
open Go.Proofs
abbrev AR:EK:=[.str,.str]
def fh:List Value:=[.int .u64 1,.int .u64 10,.int .u64 100,.int .u64 1000,.int .u64 10000,.int .u64 100000,.int .u64 1000000,.int .u64 10000000,.int .u64 100000000,.int .u64 1000000000,.int .u64 10000000000,.int .u64 100000000000,.int .u64 1000000000000,.int .u64 10000000000000,.int .u64 100000000000000,.int .u64 1000000000000000,.int .u64 10000000000000000,.int .u64 100000000000000000,.int .u64 1000000000000000000,.int .u64 10000000000000000000]
def AL:List (Nat × List Value):=[(0,[.string ⟨#[97]⟩,.string ⟨#[98]⟩,.string ⟨#[99]⟩,.string ⟨#[97,98]⟩,.string ⟨#[107,49]⟩]),(2,fh),(5,[Bn]),(6,[Bn])]
def X0:Ctx:=Cx Tryz.prog AL []
def st (f:FuncId) (n:Nat) (args:List Value) (H:AA):A8:=G3 f (Cb 0 args .leaf) n (BI Tryz.prog f []) H
def Xo (b:Nat):Value:= .func (.func Ii) ⟨[]⟩ ⟨[.pointer (some ⟨b,0,none⟩)]⟩
def eh (l:List (EK.C AR)) (k:ByteArray):AA:=BH ⟨.leaf,9⟩ [.vec AR l true,.cells [.string k] 0 true]
def Tt (l:List (EK.C AR)) (k:ByteArray) (n:Nat) (low high:Int):A8:=
 ⟨⟨BS,Gr [(0,.slice (some ⟨9,0,some 0⟩) n AF),(1,Xo 10),(5,.int .i64 low),(6,.int .i64 high)],27,[.code (BI Tryz.prog 71 [1,1,0,0,0]),.inLoop (BI Tryz.prog 71 [1,1,0,0,0]),.inBlock 0,.code (BI Tryz.prog 71 [1,1,1])],[],false,.normal,none⟩,[],eh l k⟩
def bo:Stop:=⟨BS,0,3,11,[9,10],[0,1,5,6]⟩
theorem Z2 (l:List (EK.C AR)) (k:ByteArray) (n:Nat) (Q:Value->List (Option AK)->Prop) (R:A8->Prop):L1 X0 C4 BS [] bo Q R 100 (st BS 27 [.slice (some ⟨9,0,some 0⟩) n AF,Xo 10] (eh l k))=(
 (R (Tt l k n 0 (Int.ofNat n)))):=by kernel_rfl
theorem du (l:List (EK.C AR)) (k:ByteArray) (n:Nat) (low high:Int) (Q:Value->List (Option AK)->Prop) (R:A8->Prop):L1 X0 C4 BS [] bo Q R 200 (Tt l k n low high)=(
 (bif decide (low < high)then(bif decide (0<=IntKind.wrap .i64 (Int.tdiv (IntKind.wrap .i64 (low+high)) 2))&&Nat.blt (Int.toNat (IntKind.wrap .i64 (Int.tdiv (IntKind.wrap .i64 (low+high)) 2))) n then(bif Nat.blt (0+Int.toNat (IntKind.wrap .i64 (Int.tdiv (IntKind.wrap .i64 (low+high)) 2))) (List.length l)then(bif !Op.bytesLess (ByteArray.toList (Prod.fst (List.getD l (0+Int.toNat (IntKind.wrap .i64 (Int.tdiv (IntKind.wrap .i64 (low+high)) 2))) (EK.AZ AR)))) (ByteArray.toList k)then(R (Tt l k n low (IntKind.wrap .i64 (Int.tdiv (IntKind.wrap .i64 (low+high)) 2))))else(R (Tt l k n (IntKind.wrap .i64 (IntKind.wrap .i64 (Int.tdiv (IntKind.wrap .i64 (low+high)) 2)+1)) high)))else False)else False)else(Q (.int .i64 low) []))):=by kernel_rfl
theorem Zy (k:ByteArray) (Q:Value->List (Option AK)->Prop):Ex X0 C4 BS [] Q 100 (st BS 27 [.slice none 0 0,Xo 9] (BH ⟨.leaf,9⟩ [.cells [.string k] 0 true]))=(
 (Q (.int .i64 0) [])):=by kernel_rfl
end Go.AI
namespace Go.AI
theorem wrap64 {x:Int} (h1: -9223372036854775808<=x) (h2:x<=9223372036854775807):IntKind.wrap .i64 x=x:=by
 show(if (true&&decide (x % 18446744073709551616≥9223372036854775808))=true then x % 18446744073709551616 - 18446744073709551616 else x % 18446744073709551616)=x;simp only[Bool.true_and,decide_eq_true_eq];split<;>omega
theorem AU {p:Prop} [Decidable p] {A B:Prop} (h1:p->A) (h2:¬p->B):(bif decide p then A else B):=by
 by_cases h:p
 ·rw[decide_eq_true h];exact h1 h
 ·rw[decide_eq_false h];exact h2 h
theorem AH {b:Bool} {A B:Prop} (h:b=true) (h1:A):(bif b then A else B):=by rw[h];exact h1
theorem EY {b:Bool} {A B:Prop} (h:b=false) (h1:B):(bif b then A else B):=by rw[h];exact h1
theorem Ae {b:Bool} {A B:Prop} (h1:b=true->A) (h2:b=false->B):(bif b then A else B):=by
 cases b
 ·exact h2 rfl
 ·exact h1 rfl
end Go.AI
namespace Go.AI
open Go.Proofs
def HG (a b:ByteArray):Bool:=Op.bytesLess a.toList b.toList
theorem LD:∀l:List UInt8,Op.bytesLess l l=false:=by
 intro l;induction l with
 | nil=>rfl
 | cons a l ih=>simp[Op.bytesLess,ih]
theorem ME:∀a b c:List UInt8,Op.bytesLess a b=true->Op.bytesLess b c=true->Op.bytesLess a c=true:=by
 intro a;induction a with
 | nil=>intro b c h1 h2;cases c with
  | nil=>cases b<;>simp[Op.bytesLess]at h2
  | cons=>rfl
 | cons x a ih=>
  intro b c h1 h2;cases b with
  | nil=>simp[Op.bytesLess]at h1
  | cons y b=>cases c with
   | nil=>simp[Op.bytesLess]at h2
   | cons z c=>
    simp only[Op.bytesLess,Bool.or_eq_true,Bool.and_eq_true,decide_eq_true_eq,beq_iff_eq]at h1 h2 ⊢;rcases h1 with h1 | ⟨rfl,h1⟩
    ·rcases h2 with h2 | ⟨rfl,h2⟩
     ·exact .inl (UInt8.lt_trans h1 h2)
     ·exact .inl h1
    ·rcases h2 with h2 | ⟨rfl,h2⟩
     ·exact .inl h2
     ·exact .inr ⟨rfl,ih b c h1 h2⟩
theorem LG {a b c:ByteArray} (h1:HG a b=true) (h2:HG b c=true):HG a c=true:=ME _ _ _ h1 h2
def A5 (l:List (EK.C AR)):Prop:=l.Pairwise fun x y=>HG x.1 y.1=true
def AS (l:List (EK.C AR)) (k:ByteArray):Nat:=(l.takeWhile fun x=>HG x.1 k).length
theorem Mk (l:List (EK.C AR)) (k:ByteArray):AS l k<=l.length:=by
 induction l with
 | nil=>exact Nat.le_refl _
 | cons x l ih=>
  unfold AS at *;rw[List.takeWhile_cons];split
  ·simp only[List.length_cons];omega
  ·simp
theorem WA {l:List (EK.C AR)} (hs:A5 l) (k:ByteArray):∀(i:Nat) (h:i < l.length),HG (l[i]).1 k=true ↔ i < AS l k:=by
 induction l with
 | nil=>intro i h;cases h
 | cons x l ih=>
  have hs':=List.pairwise_cons.1 hs;have hr:AS (x::l) k=if HG x.1 k then AS l k+1 else 0:=by
   unfold AS;rw[List.takeWhile_cons];split<;>rfl
  intro i h;rw[hr];cases i with
  | zero=>
   by_cases c:HG x.1 k=true
   ·simp[c]
   ·simp[c]
  | succ i=>
   have:=ih hs'.2 i (by simpa using h)
   by_cases c:HG x.1 k=true
   ·rw[if_pos c];show HG (l[i]'(by simpa using h)).1 k=true ↔ _;rw[this];omega
   ·rw[if_neg c];show HG (l[i]'(by simpa using h)).1 k=true ↔ _;constructor
    ·intro hk;exact absurd (LG (hs'.1 _ (List.getElem_mem (by simpa using h))) hk) c
    ·intro hz;omega
theorem X3 {l:List (EK.C AR)} (hs:A5 l) (k:ByteArray) (hn:l.length < 4611686018427387904):∀(m low high:Nat),high - low=m->low<=AS l k->AS l k<=high->high<=l.length->
 Ad X0 11 BS (fun v _=>v= .int .i64 (AS l k)) (Tt l k l.length low high):=by
 intro m;induction m using Nat.strongRecOn with
 | _ m ih=>
  intro low high hm h1 h2 h3;refine CJ (A6 X0) (ids:=[]) (S:=bo) (by kernel_rfl) (Q:=fun v _=>v= .int .i64 (AS l k))
   (R:=fun c=>∃low' high':Nat,c=Tt l k l.length low' high'/\high' - low' < m/\low'<=AS l k/\AS l k<=high'/\high'<=l.length) (fun v H h=>h) (fun c ⟨low',high',e,g1,g2,g3,g4⟩=>by rw[e];exact ih _ g1 low' high' rfl g2 g3 g4) 200 _ ?_
  rw[du];refine AU (fun h=>?_) (fun h=>?_)
  ·have hlt:low < high:=by omega
   rw[wrap64 (x:=(low:Int)+high) (by omega) (by omega)];have hmid:Int.tdiv ((low:Int)+(high:Int)) 2=((low+high) / 2:Nat):=by
    rw[Int.tdiv_eq_ediv_of_nonneg (by omega)];omega
   rw[hmid,wrap64 (x:=(((low+high) / 2:Nat):Int)) (by omega) (by omega)];generalize hM:(low+high) / 2=M;have hM1:low<=M/\M < high:=by omega
   have hb:Nat.blt (Int.toNat (M:Int)) l.length=true:=Nat.ble_eq_true_of_le (by rw[Int.toNat_natCast];omega);have e1:(decide ((0:Int)<=(M:Int))&&Nat.blt (Int.toNat (M:Int)) l.length)=true:=by rw[hb];simp
   have e2:Nat.blt (0+Int.toNat (M:Int)) l.length=true:=by rw[Nat.zero_add];exact hb
   have hg:List.getD l (0+Int.toNat (M:Int)) (EK.AZ AR)=l[M]'(by omega):=by
    rw[Int.toNat_natCast,Nat.zero_add,List.getD_eq_getElem?_getD,List.getElem?_eq_getElem (by omega)];rfl
   refine AH e1 (AH e2 ?_);rw[hg];have hiff:=WA hs k M (by omega);refine Ae (fun hc=>?_) (fun hc=>?_)
   ·have hc:HG (l[M]'(by omega)).1 k=false:=by simpa [HG] using hc
    have:¬M < AS l k:=fun hlt=>by rw[hiff.2 hlt]at hc;cases hc
    exact⟨low,M,rfl,by omega,h1,by omega,by omega⟩
   ·have hc:HG (l[M]'(by omega)).1 k=true:=by simpa [HG] using hc
    have:=hiff.1 hc;rw[wrap64 (x:=(M:Int)+1) (by omega) (by omega)];exact⟨M+1,high,rfl,by omega,by omega,h2,h3⟩
  ·show Value.int .i64 _=_;have:low=AS l k:=by omega
   rw[this]
def QI (args:List Value) (objs:List AK):GT:=
 match args,objs with
 | [.slice (some ⟨9,0,some 0⟩) n c,.func (.func 72) ⟨[]⟩ ⟨[.pointer (some ⟨10,0,none⟩)]⟩],[.vec [.str,.str] l _,.cells [.string k] 0 _]=> .ask (n=l.length/\c=AF/\A5 l/\l.length < 4611686018427387904) (.ret ⟨.int .i64 (AS l k),[],[]⟩)
 | [.slice none 0 0,.func (.func 72) ⟨[]⟩ ⟨[.pointer (some ⟨9,0,none⟩)]⟩],[.cells [.string _] 0 _]=> .ret ⟨.int .i64 0,[],[]⟩
 | _,_=> .fail
theorem HK {laid:List (Nat × List Value)} {N m:Nat} {v:Value} {Hf:AA} {Lu:List (Option AK)} (hv:Ct 6 v=true):CY laid N m [] ⟨v,Lu,[]⟩ v Hf:=
 ⟨[],List.nodup_nil,fun b hb=>(by cases hb),rfl,IZ 6 v hv,fun j b o hj=>(by cases hj),fun j o _ hm=>(by cases hm)⟩
theorem Vz:C3 Tryz.prog AL BS (Al AL 9 [] QI):=by
 refine RI (fs:=[]) (A4.nil _ _) (by kernel_rfl) (n:=27) (by kernel_rfl) (by kernel_rfl) fun argsc objs x hx _=>?_
 unfold QI at hx;split at hx
 ·rename_i n c l ro k ro2 _;simp only[GT.run]at hx;split at hx
  ·rename_i hc;cases hx
   obtain⟨rfl,rfl,hs,hn⟩:=hc;refine⟨by simp,?_⟩;have h0:Ad X0 11 BS (fun v _=>v= .int .i64 (AS l k)) (st BS 27 [.slice (some ⟨9,0,some 0⟩) l.length AF,Xo 10] (eh l k)):=by
    refine CJ (A6 X0) (ids:=[]) (S:=bo) (by kernel_rfl) (Q:=fun _ _=>False) (R:=fun c=>c=Tt l k l.length 0 (l.length:Int)) (fun v H h=>h.elim) (fun c h=>by
     rw[h];exact X3 hs k hn l.length 0 l.length (by omega) (by omega) (Mk l k) (Nat.le_refl _)) 100 _ ?_
    rw[Z2];rfl
   refine Ad.mono (Q:=fun v _=>v= .int .i64 (AS l k)) h0 fun v H h=>?_
   subst h;exact HK (by rfl)
  ·cases hx
 ·rename_i k ro _;cases hx
  refine⟨by simp,?_⟩;have h0:Ad X0 10 BS (fun v _=>v= .int .i64 0) (st BS 27 [.slice none 0 0,Xo 9] (BH ⟨.leaf,9⟩ [.cells [.string k] 0 true])):=
   BW.Fk (Bt (A6 X0) (ids:=[]) (Q:=fun v _=>v= .int .i64 0) 100 _ (by rw[Zy]))
  refine Ad.mono (Q:=fun v _=>v= .int .i64 0) h0 fun v H h=>?_
  subst h;exact HK (by rfl)
 ·cases hx
end Go.AI
namespace Go.AI
theorem Kd {H:AA} {b:Nat} {ro:Bool} {o o1:AK} (hlt:b < H.next) (hf:∀x,H.next<=x->H.get x=none) (h0:BV (EN b H.next 1) (L3 ro o)=some o1):KG H b ro [o] (H.put b o1):=by
 refine⟨rfl,fun x hx _=>?_,fun x hx=>?_,fun i p hp=>?_⟩
 ·rw[AA.AQ,if_neg hx]
 ·have hx:H.next<=x:=hx;rw[AA.AQ,if_neg (by omega)];exact hf x hx
 ·cases i with
  | zero=>cases hp;exact⟨o1,h0,by show(H.put b o1).get b=_;rw[AA.AQ,if_pos rfl]⟩
  | succ i=>cases i<;>cases hp
theorem Hn {H:AA} {b:Nat} {ro:Bool} {o o1 p p1:AK} (hlt:b < H.next) (hf:∀x,H.next<=x->H.get x=none) (h0:BV (EN b H.next 2) (L3 ro o)=some o1) (h1:BV (EN b H.next 2) (L3 ro p)=some p1):
 KG H b ro [o,p] ((H.put b o1).alloc p1):=by
 refine⟨rfl,fun x hx De=>?_,fun x hx=>?_,fun i q hq=>?_⟩
 ·rw[AA.AW,if_neg (by show x≠H.next;omega),AA.AQ,if_neg hx]
 ·have hx:H.next+1<=x:=hx;rw[AA.AW,if_neg (by show x≠H.next;omega),AA.AQ,if_neg (by omega)];exact hf x (by omega)
 ·cases i with
  | zero=>
   cases hq
   refine⟨o1,h0,?_⟩;show((H.put b o1).alloc p1).get b=_;rw[AA.AW,if_neg (by show b≠H.next;omega),AA.AQ,if_pos rfl]
  | succ i=>cases i with
   | zero=>
    cases hq
    refine⟨p1,h1,?_⟩;show((H.put b o1).alloc p1).get H.next=_;rw[AA.AW,if_pos (show H.next=(H.put b o1).next from rfl)]
   | succ i=>cases i<;>cases hq
theorem As {H:AA} {b:Nat} {o:AK} {r seen:List Nat} {f:Nat} (h:H.get b=some o) (hs:seen.any (Nat.beq b)=false):Am H 0 (f+1) (b::r) seen=Am H 0 f (Eu o++r) (seen++[b]):=by
 rw[Am];have:Nat.blt b 0=false:=rfl;simp only[this,hs,Bool.or_false,cond_false,h]
theorem Bf (H:AA) (N:Nat):∀(f:Nat) (todo seen:List Nat) (x:Nat),x∈seen->x∈Am H N f todo seen
 | 0,_,_,_,h=>h
 | f+1,[],_,_,h=>h
 | f+1,b::r,seen,x,h=>by
  rw[Am];cases hc:(Nat.blt b N||seen.any (Nat.beq b))
  ·simp only[cond_false];split
   ·exact Bf H N f _ _ x (by simp[h])
   ·exact Bf H N f r seen x h
  ·simp only[cond_true];exact Bf H N f r seen x h
theorem No {D:Nat->Prop} {v:Value} {H H2:AA} {s:Pk} {b:Nat} {o o1:AK} (hr:Dv s [o]) (hD:b∈Af 4 v∨D b) (hg:H.get b=some o1) (hro:o1.ro=false) (hp:o1.G7=true) (hren:BV (fun i=>[b][i]?) o=some o1)
 (k:CE D v (DE s [b] H) H2)
 (hx0:Eb s=[]:=by rfl) (hroot:∀T,¬o.void T:=by intro _;exact id):CE D v H H2:=by
 refine .step s [o] [b] [b] hr (by simp) rfl (by simp) (fun x hx=>by simp at hx;rw[hx];exact hD) (fun x hx=>?_) (fun i x q hx hq=>?_) (fun q T hq=>by cases hq;exact hroot T) k
 ·simp only[List.mem_singleton]at hx;subst hx;rw[As hg rfl];exact Bf H 0 _ _ _ x (by simp)
 ·cases i with
  | zero=>cases hx;cases hq;exact⟨o1,hg,hro,hp,by rw[hx0,FX];exact hren⟩
  | succ i=>cases i<;>cases hx
theorem O2 {D:Nat->Prop} {v:Value} {H H2:AA} {s:Pk} {b n:Nat} {o o1 p p1:AK} (hr:Dv s [o,p]) (hD:b∈Af 4 v∨D b) (hne:n≠b) (hg:H.get b=some o1) (hro:o1.ro=false) (hp:o1.G7=true) (hren:BV (fun i=>[b,n][i]?) o=some o1)
 (href:Eu o1=[n]) (hg2:H.get n=some p1) (hro2:p1.ro=false) (hp2:p1.G7=true) (hren2:BV (fun i=>[b,n][i]?) p=some p1) (k:CE D v (DE s [b,n] H) H2)
 (hx0:Eb s=[]:=by rfl) (hroot:∀T,¬o.void T:=by intro _;exact id):CE D v H H2:=by
 have hn:Nat.beq n b=false:=by
  cases hq:Nat.beq n b
  ·rfl
  ·exact absurd (Nat.eq_of_beq_eq_true hq) hne
 have hreach:∀x,x=b∨x=n->x∈Am H 0 200 [b] []:=by
  intro x hx;rw[As hg rfl,href,List.append_nil,List.nil_append,As hg2 (by simp[hn])];refine Bf H 0 _ _ _ x ?_;rcases hx with rfl | rfl<;>simp
 refine .step s [o,p] [b,n] [b] hr (by simp) rfl (by simp[Ne.symm hne]) (fun x hx=>by simp at hx;rw[hx];exact hD) (fun x hx=>hreach x (by simpa using hx)) (fun i x q hx hq=>?_) (fun q T hq=>by cases hq;exact hroot T) k;cases i with
 | zero=>cases hx;cases hq;exact⟨o1,hg,hro,hp,by rw[hx0,FX];exact hren⟩
 | succ i=>cases i with
  | zero=>cases hx;cases hq;exact⟨p1,hg2,hro2,hp2,by rw[hx0,FX];exact hren2⟩
  | succ i=>cases i<;>cases hx
end Go.AI
namespace Go.AI
open Go.Proofs
theorem Ap {X:Ctx} {f:FuncId} {p:EB} {rest:Pf} (h:∀args H (K:Value->AA->Prop),p args H K->∃v H',Bd X f args .normal H=some (v,H')/\K v H') (hr:Eg X rest):Eg X (fun g=>bif Nat.beq g f then some p else rest g):=by
 intro g F hg args H K hF;cases hb:Nat.beq g f
 ·simp only[hb,cond_false]at hg;exact hr g F hg args H K hF
 ·simp only[hb,cond_true,Option.some.injEq]at hg;subst hg;have:=Nat.eq_of_beq_eq_true hb;subst this
  exact h args H K hF
def j7:List (FuncId × Cn):=[(BS,Al AL 9 [] QI)]
def XA:Ctx:=Cx Tryz.prog AL j7
def ak:Pf:=fun g=>bif Nat.beq g BS then some (BU AL 9 [] QI)else C4 g
theorem J7:Eg XA ak:=Ap (fun _ _ _ h=>A9 (by kernel_rfl) h) (A6 _)
theorem Xy:A4 Tryz.prog AL j7:=A4.cons Vz (A4.nil _ _)
def Nz:List AK:=[.cells [.bool true,.slice none 0 0] 0 false]
def LJ (l:List (EK.C AR)):List AK:=[.cells [.bool true,.slice (some ⟨10,0,some 0⟩) l.length AF] 0 false,.vec AR l false]
def p9:Value:= .pointer (some ⟨9,0,none⟩)
def Mf (H:AA) (l:List (EK.C AR)):Prop:=
 (l=[]/\H.get 9=some (.cells [.bool true,.slice none 0 0] 0 false))∨∃m,m≠9/\H.get 9=some (.cells [.bool true,.slice (some ⟨m,0,some 0⟩) l.length AF] 0 false)/\H.get m=some (.vec AR l false)
structure Aw where
 ok:List (EK.C AR)->List Value->Prop
 v:List (EK.C AR)->List Value->Value
 nx:List (EK.C AR)->List Value->List (EK.C AR)
def Aw.G (q:Aw) (args:List Value) (objs:List AK):GT:=
 match args,objs with
 | .pointer (some ⟨9,0,none⟩)::rest,[.abs (.pack (.table l)) _]=> .ask (q.ok l rest) (.ret ⟨q.v l rest,[some (.abs (.pack (.table (q.nx l rest))) false)],[]⟩)
 | _,_=> .fail
def IJ (l:List (EK.C AR)):AA:=BH ⟨.leaf,9⟩ [.abs (.pack (.table l)) false]
theorem HB (l:List (EK.C AR)):∀x,10<=x->(IJ l).get x=none:=by
 intro x hx;unfold IJ;rw[Ev];show(if x < 9 then _ else _)=_;rw[if_neg (by omega),List.getElem?_eq_none (by simp;omega)];rfl
theorem M4:(IJ []).put 9 (.cells [.bool true,.slice none 0 0] 0 false)=BH ⟨.leaf,9⟩ Nz:=by kernel_rfl
theorem Md (l:List (EK.C AR)):((IJ l).put 9 (.cells [.bool true,.slice (some ⟨10,0,some 0⟩) l.length AF] 0 false)).alloc (.vec AR l false)=BH ⟨.leaf,9⟩ (LJ l):=by kernel_rfl
theorem S1 {v:Value} {H:AA} {l:List (EK.C AR)} (hv:Ct 6 v=true) (h:H.get 9=some (.abs (.pack (.table l)) false)):CY AL 9 1 [true] ⟨v,[some (.abs (.pack (.table l)) false)],[]⟩ v H:=by
 refine⟨[],List.nodup_nil,fun b hb=>(by cases hb),rfl,IZ 6 v hv,fun j b o hj=>(by cases hj),fun j o hj hm ho=>?_⟩;cases j with
 | zero=>cases ho;exact⟨_,rfl,h⟩
 | succ j=>omega
theorem MT {fs:List (FuncId × Cn)} (hfs:A4 Tryz.prog AL fs) {f:FuncId} {n:Nat} (he:entry Tryz.prog f=some (n,BI Tryz.prog f [])) {q:Aw}
 (hrun:∀l rest,q.ok l rest->rest.length+1<=n/\Ct 6 (q.v l rest)=true/\Af 4 (q.v l rest)=[]/\
  (l=[]->Ad (Cx Tryz.prog AL fs) 10 f (fun v H=>v=q.v l rest/\Mf H (q.nx l rest)) (st f n (p9::rest) (BH ⟨.leaf,9⟩ Nz)))/\
  Ad (Cx Tryz.prog AL fs) 10 f (fun v H=>v=q.v l rest/\Mf H (q.nx l rest)) (st f n (p9::rest) (BH ⟨.leaf,9⟩ (LJ l)))):C3 Tryz.prog AL f (Al AL 9 [true] q.G):=by
 refine BY hfs (by kernel_rfl) he (by kernel_rfl) fun argsc objs x hx hro=>?_
 unfold Aw.G at hx;split at hx
 ·rename_i rest l ro;simp only[GT.run]at hx;split at hx
  ·rename_i hok;cases hx
   have hr0:ro=false:=hro 0 _ rfl rfl;subst hr0;obtain⟨g1,g2,g3,g4,g5⟩:=hrun l rest hok;refine⟨by simpa using g1,?_⟩;refine Aq.shut (Q:=fun v H=>v=q.v l rest/\Mf H (q.nx l rest)) ?_ ?_
   ·show Aq (Cx Tryz.prog AL fs) 10 (fun b=>9<=b/\b < 10) f _ (st f n (p9::rest) (IJ l));refine Aq.opened (b:=9) (s:= .table l) (ro:=false) ⟨by omega,by omega⟩ (by rfl) (fun ops p k h=>by cases h) fun objs hr=>?_
    cases hr with
    | DC=>
     have hN:Aq (Cx Tryz.prog AL fs) 10 (fun b=>9<=b/\b < 10) f (fun v H=>v=q.v [] rest/\Mf H (q.nx [] rest)) (st f n (p9::rest) ((IJ []).put 9 (.cells [.bool true,.slice none 0 0] 0 false))):=by
      rw[M4];exact(g4 rfl).IC
     exact⟨_,Kd (H:=IJ []) (b:=9) (ro:=false) (o1:= .cells [.bool true,.slice none 0 0] 0 false) (show 9 < 10 by decide) (HB []) rfl,hN⟩
    | table l=>
     have hN:Aq (Cx Tryz.prog AL fs) 10 (fun b=>9<=b/\b < 10) f (fun v H=>v=q.v l rest/\Mf H (q.nx l rest)) (st f n (p9::rest) (((IJ l).put 9 (.cells [.bool true,.slice (some ⟨10,0,some 0⟩) l.length AF] 0 false)).alloc (.vec AR l false))):=by
      rw[Md];exact g5.IC
     exact⟨_,Hn (H:=IJ l) (b:=9) (ro:=false) (o1:= .cells [.bool true,.slice (some ⟨10,0,some 0⟩) l.length AF] 0 false) (p1:= .vec AR l false) (show 9 < 10 by decide) (HB l) rfl rfl,hN⟩
   ·rintro v H ⟨rfl,hT⟩;rcases hT with⟨e,h9⟩ | ⟨m,hm,h9,hm2⟩
    ·refine⟨_,No (s:= .table (q.nx l rest)) (o:= .cells [.bool true,.slice none 0 0] 0 false) (by rw[e];exact .DC) (.inr ⟨Nat.le_refl 9,Nat.lt_succ_self 9⟩) h9 rfl rfl rfl (.refl _),S1 g2 ?_⟩;exact(B6 (by simp)).root 9 rfl
    ·refine⟨_,O2 (s:= .table (q.nx l rest)) (n:=m) (.table _) (.inr ⟨Nat.le_refl 9,Nat.lt_succ_self 9⟩) hm h9 rfl rfl rfl rfl hm2 rfl rfl rfl (.refl _),S1 g2 ?_⟩;exact(B6 (by simp[Ne.symm hm])).root 9 rfl
  ·cases hx
 ·cases hx
theorem Q9 {v:Value} {H:AA} {o:AK} (hv:Af 4 v=[]) (h:([9]++Af 4 v).map H.get=[some o]):H.get 9=some o:=by
 rw[hv]at h;simpa using h
theorem dC {v:Value} {H:AA} {m:Nat} {o p:AK} (hv:Af 4 v=[]) (h:([9,m]++Af 4 v).map H.get=[some o,some p]):H.get 9=some o/\H.get m=some p:=by
 rw[hv]at h;simpa using h
end Go.AI
