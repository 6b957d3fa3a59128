/-
  Part of the proof: the machine that runs a program by fixed orders, and that each of its runs is a run of the model; or a run of it in parts. No conditions.
-/
import Derived.Test.YtbojbpalkegahaaGreatDoorIdSim5
import Derived.Test.YtbojbpalkegahaaGreatDoorIdVec
import Derived.Test.YtbojbpalkegahaaGreatDoorChecked
import Derived.Test.YtbojbpalkegahaaGreatDoorIdIop
namespace Go.AD
section
variable {X:Ctx} {base:Env} {W0:World} {μ:Ah} {H:AA} {W:World}
theorem Pc {o:Oper} {fr:AU} {cs:List AU} {c':Ay} (hc:Bm X.P o≠2) (h:It X o fr cs H=some c'):∃v H' fr1,JF X.P (Bc X fr.tmps) o H=some (v,H')∧Bg fr v=some fr1∧c'=⟨fr1,cs,H'⟩:=by
 have key:(match JF X.P (Bc X fr.tmps) o H with
  | some (v,H')=>match Bg fr v with
   | some fr'=>some (⟨fr',cs,H'⟩:Ay)
   | none=>none
  | none=>none)=some c'→∃v H' fr1,JF X.P (Bc X fr.tmps) o H=some (v,H')∧Bg fr v=some fr1∧c'=⟨fr1,cs,H'⟩:=by
  intro hm
  split at hm
  ·rename_i v H' hio
   split at hm
   ·rename_i fr1 hfin
    cases hm
    exact⟨v,H',fr1,hio,hfin,rfl⟩
   ·cases hm
  ·cases hm
 unfold It at h
 split at h
 ·rename_i c hop
  split at h
  ·rename_i b hcal
   cases hb:isRec b
   ·simp only[hb,cond_false]at h;exact key h
   ·exfalso
    apply hc
    unfold Bm
    rw[hop]
    simp only[hcal]
    cases b<;>first | rfl | cases hb
  ·rename_i f hcal
   exfalso
   apply hc
   unfold Bm
   rw[hop]
   simp only[hcal]
  ·cases h
 ·rename_i c hop
  exact absurd hop (Nb hc c)
 ·exact key h
theorem EV.ahead {ops:Array Oper} {t:Tr Value} {n i d:Nat} {tm:Array Value} {D:List Nat} {rest:List PE} {idx:List Nat} {G G':List (Nat × Nat)} {o:Oper} {v:Value} {H':AA} (ho:ops[i]? = some o) (hd:o.dst=some d) (hdn:d < n) (hcls:Bm X.P o≠2)
 (h:EV X μ H ops t n tm D (.op i o::rest) idx G (DO X H t (.op i o::rest))) (hext:I9 H H') (hn:H.next≤H'.next)
 (hG:∀p∈G,p∈G') (hnew:JS X μ H' ops (t.put d (some v)) G' (DO X H' (t.put d (some v)) rest) i o) (hgnd:(G'.map Prod.snd).Nodup) (hglt:∀b∈G'.map Prod.snd,b < H'.next):
 EV X μ H' ops (t.put d (some v)) n tm (i::D) rest idx G' (DO X H' (t.put d (some v)) rest):=by
 obtain⟨hiD,hdeps,hok,_⟩:=FX h.VQ
 refine⟨h.stat,fun e he=>h.wf e (by simp[he]),hok,h.KK,?_,?_,h.sz,?_,?_,?_,hgnd,hglt⟩
 ·intro j oj hj hnj
  obtain⟨h1,h2⟩:=h.VM j oj hj hnj
  exact⟨by simp[h1],h2⟩
 ·intro j oj hj hjD q hq
  rcases List.mem_cons.1 hjD with rfl | hjD
  ·rw[ho]at hj;cases hj;simp[hdeps q hq]
  ·simp[h.Yq j oj hj hjD q hq]
 ·intro u hu
  have hui:i∈idx:=by
   rcases Classical.em (i∈idx)with q | q
   ·exact q
   ·exact absurd (h.VM i o ho q).1 hiD
  have hne:u≠d:=by rintro rfl;exact hu i o ho (by simp) hui hd
  rw[DV _ _ hne]
  exact h.tmp u fun j oj hj hjD hji=>hu j oj hj (by simp[hjD]) hji
 ·intro j oj hj hjD hji
  rcases List.mem_cons.1 hjD with rfl | hjD
  ·rw[ho]at hj;cases hj;exact hnew
  ·have hap:=h.apart ho hiD hd hj hjD (fun q=>absurd q hcls)
   have hlook:∀u,u≠d→look (t.put d (some v)) u=look t u:=fun u hu=>DV _ _ hu
   have hr:∀u∈DM ops oj,look (t.put d (some v)) u=look t u:=fun u hu=>hlook u (by rintro rfl;exact hap.1 hu)
   have hdj:∀q,oj.dst=some q→look (t.put d (some v)) q=look t q:=fun q hq=>hlook q (by rintro rfl;exact hap.2 hq)
   have hp:JS X μ H ops (t.put d (some v)) G (DO X H' (t.put d (some v)) rest) j oj:=by
    refine(h.YQ j oj hj hjD hji).congr hr hdj fun q hq _ hc0 hf=>?_
    rcases hf with hf | ⟨H1,hf⟩
    ·simp[lead]at hf
    ·refine .inr ⟨H',?_⟩
     rw[JJ hr,hdj q hq]
     exact(Mn hc0 hf).2 H' hext
   obtain⟨q,h1,h0,h2⟩:=hp
   refine⟨q,h1,h0,?_⟩
   rcases h2 with h2 | h2 | ⟨a,b,c,hc,obj,mk,e1,e2,e3,e4,e5⟩
   ·exact .inl h2
   ·exact .inr (.inl h2)
   ·exact .inr (.inr ⟨a,b,c,hG _ hc,obj,mk,e1,e2,Nat.lt_of_lt_of_le e3 hn,e4,hext _ _ e5⟩)
 ·intro j oj q hj hjD hq
  rcases List.mem_cons.1 hjD with rfl | hjD
  ·rw[ho]at hj;cases hj
   rw[hd]at hq;cases hq;exact hdn
  ·exact h.aE j oj q hj hjD hq
theorem Us (hok:Cr X base W0) {fn:FuncId} {t:Tr Value} {n:Nat} {tm:Array Value} {ops:Array Oper} {Bh:List PE} {idx D:List Nat} {G:List (Nat × Nat)} {k:List CH} {k':List Item} {ds ds':List Deferred} {kd:CallKind} {rd rd':Option Nat}
 {cs:List AU} {cs' cs0:List Frame} {gs:List Nat} {c':Ay} (hH:AP base W0 μ H W) (hlaid:Br X μ) (hD:EV X μ H ops t n tm D Bh idx G (DO X H t Bh)) (hk:C9 μ k k') (hd:Bw μ ds ds') (hr:FI μ rd rd')
 (hcs:Cu X μ H gs cs cs') (hnd:(G.map Prod.snd++gs).Nodup) (h:DQ X ⟨⟨fn,t,n,.DW ops Bh::k,ds,false,kd,rd⟩,cs,H⟩=some c'):
 CR X base W0 cs0 c' (lone ⟨fn,tm,.inRegion ops idx::k',ds',.run,kd,rd'⟩ (cs'++cs0) W):=by
 unfold DQ at h
 simp only[cond_false]at h
 cases Bh with
 | nil=>
  simp only[Option.some.injEq]at h
  subst h
  have hall:∀j∈idx,j∈D:=by
   intro j hj
   have hlt:∀(l:List Nat),R6 ops l→∀j∈l,j < ops.size:=by
    intro l
    induction l with
    | nil=>intro _ j hj;cases hj
    | cons a l ih=>
     intro ht j hj
     obtain⟨⟨o,ho,_⟩,_,h3⟩:=ht
     rcases List.mem_cons.1 hj with rfl | hj
     ·exact(Array.getElem?_eq_some_iff.1 ho).1
     ·exact ih h3 j hj
   have hok:=hD.VQ
   unfold DS at hok
   exact Du.1 (List.all_eq_true.1 hok j (by simpa using hlt idx hD.KK j hj))
  obtain⟨μ1,W1,tm1,G1,q1,q2,q3,q4⟩:=Xm (fn:=fn) (k':=k') (ds':=ds') (kd:=kd) (rd':=rd') (cs:=cs'++cs0) (gs:=gs) rfl idx μ W tm G hH hlaid hD hall hnd
  refine⟨μ1,_,cs',W1,q1.trans (.one Ki),q2,hlaid.mono q4.le,[],gs,.plain fn t n tm1 k k' ds ds' false kd rd rd' ⟨q3.sz,fun u=>q3.tmp u fun _ _ _ _ hm=>by cases hm⟩ (hk.mono q4.le) (hd.mono q4.le) (hr.mono q4.le),hcs.mono q4,(List.nodup_append.1 hnd).2.1⟩
 | cons e rest=>
  cases e with
  | Mw j o=>
   simp only at h
   have hoj:ops[j]? = some o:=hD.wf (.Mw j o) (by simp)
   have hokp:=hD.VQ
   unfold DS at hokp
   simp only[Bool.and_eq_true]at hokp
   have hwf:GR ops rest:=fun e he=>hD.wf e (by simp[he])
   have fin:(∀d,o.dst=some d→CS ops o t=some true→Bm X.P o=0→∃H1,JF X.P (Bc X t) o H=some (look t d,H1))→c'=⟨⟨fn,t,n,.DW ops rest::k,ds,false,kd,rd⟩,cs,H⟩→
    CR X base W0 cs0 c' (lone ⟨fn,tm,.inRegion ops idx::k',ds',.run,kd,rd'⟩ (cs'++cs0) W):=by
    rintro hfact rfl
    refine⟨μ,_,cs',W,.refl _ _,hH,hlaid,G.map Prod.snd,gs,.drawn fn t n tm ops rest idx D G k k' ds ds' kd rd rd' ⟨hD.stat,hwf,hokp.2,hD.KK,hD.VM,hD.Yq,hD.sz,hD.tmp,fun i oi hi hiD hii=>?_,hD.aE,hD.Xs,hD.VR⟩ hk hd hr,hcs,hnd⟩
    refine(hD.YQ i oi hi hiD hii).congr (fun _ _=>rfl) (fun _ _=>rfl) fun d hdd hw hc0 hf=>?_
    rcases hf with hf | hf
    ·simp only[lead,List.mem_cons]at hf
     rcases hf with rfl | hf
     ·rw[hoj]at hi;cases hi
      exact .inr (hfact d hdd hw hc0)
     ·exact .inl hf
    ·exact .inr hf
   split at h
   ·rename_i hw
    split at h
    ·rename_i d v H1 hdd hio
     cases hs:HQ 8 v (look t d)
     ·simp[hs]at h
     ·simp only[hs,cond_true,Option.some.injEq]at h
      refine fin (fun d2 hd2 _ _=>?_) h.symm
      rw[hdd]at hd2;cases hd2
      exact⟨H1,by rw[hio,PU 8 _ _ hs]⟩
    ·cases h
   ·rename_i hw
    simp only[Option.some.injEq]at h
    exact fin (fun d _ hw2 _=>by rw[hw]at hw2;cases hw2) h.symm
   ·cases h
  | op i o=>
   simp only at h
   have hoi:ops[i]? = some o:=hD.wf (.op i o) (by simp)
   obtain⟨hiD,hdeps,hokr,hX⟩:=FX hD.VQ
   have hii:i∈idx:=by
    rcases Classical.em (i∈idx)with q | q
    ·exact q
    ·exact absurd (hD.VM i o hoi q).1 hiD
   by_cases hcls:Bm X.P o=2
   ·
    obtain⟨μ1,W1,tm1,G1,idx1,q1,q2,q3,q4,q5⟩:=Yl (fn:=fn) (k':=k') (ds':=ds') (kd:=kd) (rd':=rd') (cs:=cs'++cs0) (gs:=gs) hcls idx μ W tm G hH hlaid hD hii hnd
    have hlaid1:=hlaid.mono q4.le
    have hcs1:=hcs.mono q4
    have hnd1:(G1.map Prod.snd++gs).Nodup:=hnd.sublist (q5.append (List.Sublist.refl _))
    have hsus:=q3.suspend hcls hoi
    have hfr:∀ds1 ds1',Bw μ1 ds1 ds1'→FH X μ1 H (G1.map Prod.snd) ⟨fn,t,n,.DW ops (.op i o::rest)::k,ds1,false,kd,rd⟩ ⟨fn,tm1,.inRegion ops (i::idx1)::k',ds1',.run,kd,rd'⟩:=fun ds1 ds1' hd1=>
     .Jg fn t n tm1 ops i o rest idx1 D G1 k k' ds1 ds1' kd rd rd' hoi hsus (hk.mono q4.le) hd1 (hr.mono q4.le)
    have hreads:=q3.reads hoi
    have hwant:∀b,CS ops o t=some b→Region.wanted o (yielded ops tm1)=b:=fun b hb=>H4 (fun q w u hg hu=>hreads u (Hk hg hu)) hb
    have after:∀{m:Machine},CR X base W0 cs0 c' m→Steps X.P (lone ⟨fn,tm,.inRegion ops idx::k',ds',.run,kd,rd'⟩ (cs'++cs0) W) m→CR X base W0 cs0 c' (lone ⟨fn,tm,.inRegion ops idx::k',ds',.run,kd,rd'⟩ (cs'++cs0) W):=by
     rintro m ⟨a1,a2,a3,a4,a5,a6⟩ hs
     exact⟨a1,a2,a3,a4,hs.trans a5,a6⟩
    split at h
    ·rename_i hw
     refine after (Q5 hok q2 hlaid1 hoi (hd.mono q4.le) (hr.mono q4.le) hcs1 hnd1 hfr (fun x hx=>J0 hlaid1 x fun u hu=>hreads u (J1 (by rw[←hu];exact hx))) (hwant true hw) h) q1
    ·rename_i hw
     split at h
     ·rename_i fr1 hfin
      cases h
      refine after ⟨μ1,_,cs',W1,.one (MT hoi (hwant false hw)),q2,hlaid1,G1.map Prod.snd,gs,Ce (hfr ds ds' (hd.mono q4.le)) (AH.undef μ1) hfin,hcs1,hnd1⟩ q1
     ·cases h
    ·cases h
   ·
    obtain⟨d,hdd⟩:=V4 hD.stat hoi hcls
    have hcl01:Bm X.P o=0∨Bm X.P o=1:=by
     have:Bm X.P o≤2:=by
      unfold Bm
      split<;>first | omega | (cases (Oz X.P _).isSome<;>decide) | (cases Fq X.P _<;>decide) | (split<;>first | omega | (split<;>omega))
     omega
    have hself:∀u∈DM ops o,u≠d:=fun u hu e=>(Iu hD.stat hoi hoi hu (by rw[e];exact hdd)).elim (fun q=>hiD (hdeps i q)) fun q=>hcls q.1
    have hrd:∀v:Value,∀u∈DM ops o,look (t.put d (some v)) u=look t u:=fun v u hu=>DV _ _ (hself u hu)
    have hfinI:∀v fr1,Bg ⟨fn,t,n,.DW ops (.op i o::rest)::k,ds,false,kd,rd⟩ v=some fr1→d < n∧fr1=⟨fn,t.put d (some v),n,.DW ops rest::k,ds,false,kd,rd⟩:=by
     intro v fr1 hf
     unfold Bg at hf
     rw[IN]at hf
     simp only[hdd]at hf
     cases hlt:Nat.blt d n
     ·simp[hlt]at hf
     ·simp only[hlt,cond_true,Option.some.injEq]at hf
      exact⟨Nat.le_of_ble_eq_true hlt,hf.symm⟩
    split at h
    ·rename_i hw
     obtain⟨v,H',fr1,hio,hfin,rfl⟩:=Pc hcls h
     obtain⟨hdn,rfl⟩:=hfinI v fr1 hfin
     have hio0:JF X.P (Bc X t) o H=some (v,H'):=hio
     rcases hcl01 with hc | hc
     ·obtain⟨rfl,_⟩:=Mn hc hio0
      refine⟨μ,_,cs',W,.refl _ _,hH,hlaid,G.map Prod.snd,gs,.drawn fn _ n tm ops rest idx (i::D) G k k' ds ds' kd rd rd' (hD.ahead hoi hdd hdn hcls (fun _ _ hb=>hb) (Nat.le_refl _) (fun _ hp=>hp) ⟨d,hdd,hcls,.inr (.inl ⟨by rw[Er (hrd v)];exact hw,hc,.inr ⟨H',?_⟩⟩)⟩ hD.Xs hD.VR) hk hd hr,hcs,hnd⟩
      rw[JJ (hrd v),DF];exact hio0
     ·obtain⟨obj,mk,rfl,rfl,h3,h4,_⟩:=TB hc hio0
      have hfresh:=hH.fresh H.next (Nat.le_refl _)
      have hnG:H.next∉G.map Prod.snd:=fun hm=>Nat.lt_irrefl _ (hD.VR _ hm)
      have hngs:H.next∉gs:=fun hm=>Nat.lt_irrefl _ (hcs.lt _ hm)
      have hext:=I9.alloc hH obj
      have hkeep:Dx gs μ H μ (H.alloc obj):=⟨Ah.le_refl _,by simp[AA.alloc],fun b _ hb hm=>⟨hm,by rw[AA.AR,if_neg (by omega)]⟩⟩
      refine⟨μ,_,cs',W,.refl _ _,hH.ghost obj,hlaid,((i,H.next)::G).map Prod.snd,gs,.drawn fn _ n tm ops rest idx (i::D) ((i,H.next)::G) k k' ds ds' kd rd rd' (hD.ahead hoi hdd hdn hcls hext (by simp[AA.alloc]) (fun _ hp=>by simp[hp])
       ⟨d,hdd,hcls,.inr (.inr ⟨by rw[Er (hrd _)];exact hw,hc,H.next,by simp,obj,mk,DF _ _ _,fun H2=>by rw[JJ (hrd _)];exact h3 H2,by simp[AA.alloc],hfresh.2,by rw[AA.AR,if_pos rfl]⟩)⟩
       (by simp only[List.map_cons,List.nodup_cons];exact⟨hnG,hD.Xs⟩) ?_) hk hd hr,hcs.mono hkeep,?_⟩
      ·intro b hb
       simp only[List.map_cons,List.mem_cons]at hb
       rcases hb with rfl | hb
       ·simp[AA.alloc]
       ·have:=hD.VR b hb;simp only[AA.alloc];omega
      ·simp only[List.map_cons,List.cons_append,List.nodup_cons]
       exact⟨fun hm=>(List.mem_append.1 hm).elim hnG hngs,hnd⟩
    ·rename_i hw
     split at h
     ·rename_i fr1 hfin
      cases h
      obtain⟨hdn,rfl⟩:=hfinI _ fr1 hfin
      exact⟨μ,_,cs',W,.refl _ _,hH,hlaid,G.map Prod.snd,gs,.drawn fn _ n tm ops rest idx (i::D) G k k' ds ds' kd rd rd' (hD.ahead hoi hdd hdn hcls (fun _ _ hb=>hb) (Nat.le_refl _) (fun _ hp=>hp) ⟨d,hdd,hcls,.inl ⟨by rw[Er (hrd _)];exact hw,DF _ _ _⟩⟩ hD.Xs hD.VR) hk hd hr,hcs,hnd⟩
     ·cases h
    ·cases h
end
end Go.AD

namespace Go.AD
section
variable {X:Ctx} {base:Env} {W0:World} {μ:Ah} {H:AA} {W:World}
theorem L7 (hok:Cr X base W0) (hplan:Ef X) {c c':Ay} {fr:Frame} {cs' cs0:List Frame} (hm:G6 X base W0 μ c fr cs' W) (h:DQ X c=some c'):
 CR X base W0 cs0 c' (lone fr (cs'++cs0) W):=by
 obtain⟨hH,hlaid,g,gs,hfr,hcs,hnd⟩:=hm
 obtain⟨f0,cs,H⟩:=c
 simp only at hH hfr hcs
 cases hfr with
 | drawn fn t n tm ops Bh idx D G k k' ds ds' kd rd rd' hD hk hd hr=>exact Us hok hH hlaid hD hk hd hr hcs hnd h
 | plain fn t n tm todo todo' ds ds' r kd rd rd' ht hi hd hrd=>
  unfold DQ at h
  simp only at h
  cases r with
  | true=>
   simp only[cond_true]at h
   exact Pj hH hlaid ht hi hd hrd hcs hnd h
  | false=>
   simp only[cond_false]at h
   have fin:∀(k2:List CH) (k2':List Item) ,C9 μ k2 k2'→step X.P (lone ⟨fn,tm,todo',ds',.run,kd,rd'⟩ (cs'++cs0) W)= .next (lone ⟨fn,tm,k2',ds',.run,kd,rd'⟩ (cs'++cs0) W)→
    c'=⟨⟨fn,t,n,k2,ds,false,kd,rd⟩,cs,H⟩→CR X base W0 cs0 c' (lone ⟨fn,tm,todo',ds',MV false,kd,rd'⟩ (cs'++cs0) W):=by
    rintro k2 k2' hk2 hs rfl
    exact⟨μ,_,cs',W,.one hs,hH,hlaid,[],gs,.plain fn t n tm k2 k2' ds ds' false kd rd rd' ht hk2 hd hrd,hcs,hnd⟩
   cases hi with
   | nil=>exact Ix hH hlaid ht .nil hd hrd hcs hnd (.inl ⟨rfl,rfl⟩) h
   | @cons it it' k k' h1 hk=>
    simp only at h
    cases h1 with
    | G0 ops l idx hidx=>
     simp only at h
     split at h
     ·cases idx with
      | nil=>exact fin k k' hk Ki (by cases h;rfl)
      | cons i idx=>simp at hidx
     ·rename_i o rest
      cases idx with
      | nil=>simp at hidx
      | cons i idx=>
       simp only[List.map_cons,List.cons.injEq]at hidx
       split at h
       ·rename_i hw
        refine Q5 hok hH hlaid hidx.1 hd hrd hcs hnd (fun ds1 ds1' hd1=> .plain fn t n tm _ _ ds1 ds1' false kd rd rd' ht (.cons (.G0 ops _ _ (by simp[hidx.1,hidx.2])) hk) hd1 hrd) (fun x _=>HY hlaid ht x) (I7 ht hw) h
       ·rename_i hw
        split at h
        ·rename_i fr1 hfin
         cases h
         refine⟨μ,_,cs',W,.one (MT hidx.1 (I7 ht hw)),hH,hlaid,[],gs,?_,hcs,hnd⟩
         exact Ce (.plain fn t n tm _ _ ds ds' false kd rd rd' ht (.cons (.G0 ops (o::rest) (i::idx) (by simp[hidx.1,hidx.2])) hk) hd hrd) (AH.undef μ) hfin
        ·cases h
       ·cases h
    | code c=>
     simp only at h
     split at h
     ·rename_i a b;exact fin _ _ (.cons (.code a) (.cons (.code b) hk)) ej (by cases h;rfl)
     ·rename_i id ops
      exact fin _ _ (.cons (.G0 ops ops.toList _ (T5 ops)) hk) YF (by cases h;rfl)
     ·rename_i id ops
      split at h
      ·rename_i p hp
       cases h
       obtain⟨hmix,hpl⟩:=hplan
       obtain⟨q1,q2,q3⟩:=hpl ops p hp
       obtain⟨s1,s2⟩:=XN q2 q3 (W.tape W.drawn (.order fn id))
       have hdr:=cw (P:=X.P) (W:=W) (fn:=fn) (tm:=tm) (k:=k') (ds:=ds') (kd:=kd) (rd:=rd') (cs:=cs'++cs0) (id:=id) (ops:=ops)
       rw[hmix]at hdr
       refine⟨μ,_,cs',_,.one hdr,hH.drawn _,hlaid,[],gs,?_,hcs,hnd⟩
       refine .drawn fn t n tm ops p _ [] [] k k' ds ds' kd rd rd' ⟨q1,q2,q3,s1,fun i o ho hni=>absurd (s2 i (Array.getElem?_eq_some_iff.1 ho).1) hni,(fun _ _ _ h=>by cases h),ht.1,fun u _=>ht.2 u,(fun _ _ _ h=>by cases h),(fun _ _ _ _ h=>by cases h),by simp,fun b hb=>by simp at hb⟩ hk hd hrd
      ·cases h
     ·rename_i cnd a b
      have hev:=HY (fr:=⟨fn,tm,.code (.cond cnd a b)::k',ds',.run,kd,rd'⟩) hlaid ht cnd
      split at h
      ·rename_i x hx
       rw[hx]at hev
       have hev':Frame.eval ⟨fn,tm,.code (.cond cnd a b)::k',ds',.run,kd,rd'⟩ cnd= .bool x:=by
        generalize Frame.eval ⟨fn,tm,.code (.cond cnd a b)::k',ds',.run,kd,rd'⟩ cnd=q at hev
        cases hev;rfl
       exact fin _ _ (.cons (.code _) hk) (c7 hev') (by cases h;rfl)
      ·cases h
     ·exact fin _ _ hk cM (by cases h;rfl)
     ·exact fin _ _ hk ZG (by cases h;rfl)
     ·rename_i id b;exact fin _ _ (.cons (.code b) (.cons (.inBlock id) hk)) YU (by cases h;rfl)
     ·rename_i b;exact fin _ _ (.cons (.code b) (.cons (.inLoop b) hk)) b7 (by cases h;rfl)
     ·rename_i b;exact fin _ _ (.cons (.code b) (.cons (.inScope b) hk)) ai (by cases h;rfl)
     ·rename_i id
      have hex:=R9 (id:=id) hk
      split at h
      ·rename_i k2 hq
       obtain⟨k2',q1,q2⟩:=hex.1 k2 hq
       exact fin _ _ q2 (bm q1) (by cases h;rfl)
      ·rename_i hq
       exact Ix hH hlaid ht (.cons (.code _) hk) hd hrd hcs hnd (.inr (.inr ⟨id,k',rfl,hex.2 hq,rfl⟩)) h
     ·exact Ix hH hlaid ht (.cons (.code _) hk) hd hrd hcs hnd (.inr (.inl ⟨k',rfl,rfl⟩)) h
     ·rename_i f ps a b
      split at h
      ·rename_i l
       cases hrd with
       | some _ T hT=>
        split at h
        ·rename_i q hget
         obtain⟨o',ho',hor⟩:=hH.obj l _ hget T hT
         cases hor with
         | loop _ aa R hta hda=>
          have hal:=hH.alloc (T:=⟨W.heap.size,0,0,0⟩) (o:= .loop ⟨.ready,none,fn,t,n,ps,a,b,q.defers⟩) rfl (.loop ⟨W.heap.size,0,0,0⟩ ⟨.ready,none,fn,t,n,ps,a,b,q.defers⟩ tm R ht hda)
          obtain⟨g1,g2⟩:=hal
          refine Ic hok (mark:=[]) (T:=⟨W.heap.size,0,0,0⟩) g1 (hlaid.mono g2.le) (ht.mono g2.le) (hk.mono g2.le) (hd.mono g2.le) (.some l T (g2.le _ _ hT)) (hcs.mono (g2.keeps gs)) hnd (Ah.A8 _ _ _) (Md ho') h
        ·cases h
      ·cases hrd
       have hal1:=hH.alloc (T:=⟨W.heap.size,0,0,0⟩) (o:= .deferred (some [])) (o':= .deferred (some [])) rfl (.deferred _ [] [] .nil)
       obtain⟨g1,g2⟩:=hal1
       have hal2:=g1.alloc (T:=⟨W.heap.size+1,0,0,0⟩) (o:= .loop ⟨.ready,none,fn,t,n,ps,a,b,H.next⟩) (by simp) (.loop ⟨W.heap.size+1,0,0,0⟩ ⟨.ready,none,fn,t,n,ps,a,b,H.next⟩ tm ⟨W.heap.size,0,0,0⟩ (ht.mono g2.le) (Ah.A8 _ _ _))
       obtain⟨g3,g4⟩:=hal2
       have g5:=g2.trans g4
       refine Ic hok (mark:=[{ target:= .collected W.heap.size,args:=#[] }]) (T:=⟨W.heap.size+1,0,0,0⟩) g3 (hlaid.mono g5.le) (ht.mono g5.le) (hk.mono g5.le) ?_ .none (hcs.mono (g5.keeps gs)) hnd (Ah.A8 _ _ _) MR h
       exact .cons ⟨.collected H.next ⟨W.heap.size,0,0,0⟩ (g4.le _ _ (Ah.A8 _ _ _)),.nil⟩ (hd.mono g5.le)
     ·cases h
    | inBlock id=>exact fin _ _ hk UA (by cases h;rfl)
    | inScope b=>exact fin _ _ hk Um (by cases h;rfl)
    | inLoop b=>exact fin _ _ (.cons (.code b) (.cons (.inLoop b) hk)) Vs (by cases h;rfl)
    | inRangeFunc l T hT=>cases h
    | beginRound=>
     simp only at h
     split at h
     ·rename_i l
      cases hrd with
      | some _ T hT=>
       split at h
       ·rename_i q hget
        split at h
        ·rename_i hst
         cases h
         obtain⟨r,hr,hst',hpe,hput⟩:=LL hH hget hT
         obtain⟨p1,p2⟩:=hput .busy q.pending
         refine⟨μ,_,cs',_,.one (Oj hr (by rw[hst',hst])),?_,hlaid,[],gs,.plain fn t n tm k k' ds ds' false kd (some l) (some T.c) ht hk hd (.some l T hT),hcs.mono (p2.keeps gs),hnd⟩
         have e1:({ r with state:=LoopState.busy }:Loop)={ r with state:= .busy,pending:=q.pending }:=by rw[←hpe]
         rw[e1];exact p1
        ·cases h
       ·cases h
     ·cases h
    | endRangeFunc l T hT=>
     simp only at h
     split at h
     ·rename_i q hget
      obtain⟨r,hr,hst',hpe,hput⟩:=LL hH hget hT
      obtain⟨p1,p2⟩:=hput .exhausted q.pending
      have p1':AP base W0 μ (H.put l (.loop { q with state:= .exhausted })) { W with heap:=W.heap.setIfInBounds T.c (.loop { r with state:= .exhausted }) }:=by
       have e1:({ r with state:=LoopState.exhausted }:Loop)={ r with state:= .exhausted,pending:=q.pending }:=by rw[←hpe]
       rw[e1];exact p1
      split at h
      ·cases h
      ·rename_i hnb
       have hs:r.state≠ .busy:=by rw[hst'];exact hnb
       have hce:=Ut (P:=X.P) (fn:=fn) (tm:=tm) (k:=k') (ds:=ds') (kd:=kd) (rd:=rd') (cs:=cs'++cs0) hr hs
       split at h
       ·rename_i hp
        cases h
        have htd:(r.pending.map Item.code).toList++k'=k':=by rw[hpe,hp];rfl
        rw[htd]at hce
        exact⟨μ,_,cs',_,.one hce,p1',hlaid,[],gs,.plain fn t n tm k k' ds ds' false kd rd rd' ht hk hd hrd,hcs.mono (p2.keeps gs),hnd⟩
       ·rename_i j hp
        cases h
        have htd:(r.pending.map Item.code).toList++k'= .code j::k':=by rw[hpe,hp];rfl
        rw[htd]at hce
        exact⟨μ,_,cs',_,.one hce,p1',hlaid,[],gs,.plain fn t n tm _ _ ds ds' false kd rd rd' ht (.cons (.code j) hk) hd hrd,hcs.mono (p2.keeps gs),hnd⟩
     ·cases h
end
end Go.AD

namespace Go.AD
section
variable {X:Ctx} {base:Env} {W0:World} {μ:Ah} {H:AA} {W:World}
theorem UU (n:Nat) (c:Ay):XO X (n+1) c=match DQ X c with
 | some c'=>XO X n c'
 | none=>none:=rfl
theorem Zb (hok:Cr X base W0) (hplan:Ef X) {cs0:List Frame}:∀(n:Nat) (c c':Ay) (μ:Ah) (fr:Frame) (cs:List Frame) (W:World),XO X n c=some c'→G6 X base W0 μ c fr cs W→
 ∃μ' fr1 cs1 W1,Steps X.P (lone fr (cs++cs0) W) (lone fr1 (cs1++cs0) W1)∧G6 X base W0 μ' c' fr1 cs1 W1:=by
 intro n
 induction n with
 | zero=>intro c c' μ fr cs W h hm;cases h;exact⟨μ,fr,cs,W,.refl _ _,hm⟩
 | succ n ih=>
  intro c c' μ fr cs W h hm
  rw[UU]at h
  split at h
  ·rename_i c1 hs
   obtain⟨μ1,fr1,cs1,W1,s1,m1⟩:=L7 (cs0:=cs0) hok hplan hm hs
   obtain⟨μ2,fr2,cs2,W2,s2,m2⟩:=ih c1 c' μ1 fr1 cs1 W1 h m1
   exact⟨μ2,fr2,cs2,W2,s1.trans s2,m2⟩
  ·cases h
noncomputable def EX (X:Ctx) (f:FuncId) (c:Ay):Option (Value × AA):=
 match c with
 | ⟨⟨fn,t,_,todo,ds,r,kd,_⟩,cs,H⟩=>
  match cs,ds,r,kd,todo with
  | [],[],true,.normal,_=>bif Nat.beq fn f then
   match Fg X fn t H with
   | some v=>some (v,H)
   | none=>none
   else none
  | _,_,_,_,_=>none
def GF (f:FuncId) (t:Tr Value) (n:Nat) (code:Code) (H:AA):Ay:=⟨⟨f,t,n,[.code code],[],false,.normal,none⟩,[],H⟩
theorem Gr (hH:AP base W0 μ H W) (hlaid:Br X μ) {f:FuncId} {n:Nat} {code:Code} (he:entry X.P f=some (n,code)) {args:List Value} {args':Array Value} (ha:Aq μ args args'.toList) (hn:args.length≤n):
 G6 X base W0 μ (GF f (B3 0 args .leaf) n code H) (Frame.enter X.P f args' .normal) [] W:=by
 refine⟨hH,hlaid,[],[],?_,.nil,by simp⟩
 rw[Ji he]
 exact .plain f _ n _ _ _ [] [] false .normal none none (IQ ha hn) (.cons (.code code) .nil) .nil .none
theorem Hn {f:FuncId} {c:Ay} {fr:Frame} {cs:List Frame} {v:Value} {H':AA} (hm:G6 X base W0 μ c fr cs W) (hd:EX X f c=some (v,H')):
 cs=[]∧fr.fn=f∧∃v',fr.leaving X.P W (.returned v')∧AP base W0 μ H' W∧AH μ v v':=by
 obtain⟨hH,hlaid,g,gs,hfr,hcs,hnd⟩:=hm
 unfold EX at hd
 obtain⟨⟨fn,t,n,todo,ds,r,kd,rd⟩,cs1,H1⟩:=c
 simp only at hd hfr hcs hH
 split at hd
 ·rename_i x1 x2 x3 x4 x5
  cases hcs
  cases hb:Nat.beq fn f
  ·simp[hb]at hd
  ·simp only[hb,cond_true]at hd
   have hf:=Nat.eq_of_beq_eq_true hb
   split at hd
   ·rename_i v0 hres
    cases hd
    cases hfr with
    | plain _ _ _ tm _ todo' _ ds' _ _ _ rd' ht hi hdd hr=>
     cases hdd
     obtain⟨fn',v',h1,h2,h3⟩:=Hi hH ht hres
     exact⟨rfl,hf,v',⟨rfl,rfl,rfl,fn',h1,h2⟩,hH,h3⟩
   ·cases hd
 ·cases hd
noncomputable def F3:List (Nat × List Value)→Nat→AA
 | [],n=>⟨.leaf,n⟩
 | (g,cs)::r,n=>(F3 r n).put g (.cells cs 0 true)
inductive Ie:List Value→List Value→Prop where
 | plain (l:List Value) (h:l.all flat=true):Ie l l
 | iface (te:TypeId) (pe:Value):Ie [A5] [.iface te pe]
theorem Ie.eq {l l':List Value} (h:Ie l l') (hf:l.all flat=true):l'=l:=by
 cases h with
 | plain=>rfl
 | iface=>cases hf
theorem Ie.isIface {l':List Value} (h:Ie [A5] l'):∃te pe,l'=[.iface te pe]:=by
 cases h with
 | plain _ hf=>cases hf
 | iface te pe=>exact⟨te,pe,rfl⟩
def DR (X:Ctx) (base:Env) (W0:World):Prop:=(X.laid.map Prod.fst).Nodup∧∀p∈X.laid,base.K p.1∧∃a t fz,W0.heap[p.1]? = some (.cells a t fz)∧Ie p.2 a.toList
noncomputable def LS (l:List (Nat × List Value)):Ah:=fun b=>match l.find? (fun p=>Nat.beq b p.1)with
 | some p=>some ⟨p.1,0,p.2.length,0⟩
 | none=>none
theorem Iv (l:List (Nat × List Value)) (n:Nat):(F3 l n).next=n:=by
 induction l with
 | nil=>rfl
 | cons p l ih=>exact ih
theorem GX:∀(l:List (Nat × List Value)) (n b:Nat) (o:AJ),(l.map Prod.fst).Nodup→(F3 l n).get b=some o→∃cs,(b,cs)∈l∧o= .cells cs 0 true:=by
 intro l
 induction l with
 | nil=>intro n b o _ h;simp[F3,AA.get,Tr.MD]at h
 | cons p l ih=>
  intro n b o hnd h
  obtain⟨g,cs⟩:=p
  simp only[F3]at h
  rw[AA.AN]at h
  simp only[List.map_cons,List.nodup_cons]at hnd
  by_cases e:b=g
  ·subst e;rw[if_pos rfl]at h;cases h;exact⟨cs,by simp,rfl⟩
  ·rw[if_neg e]at h
   obtain⟨cs',h1,h2⟩:=ih n b o hnd.2 h
   exact⟨cs',by simp[h1],h2⟩
theorem IA {l:List (Nat × List Value)} (_hnd:(l.map Prod.fst).Nodup) {b:Nat} {T:CN} (h:LS l b=some T):∃cs,(b,cs)∈l∧T=⟨b,0,cs.length,0⟩:=by
 unfold LS at h
 split at h
 ·rename_i p hp
  cases h
  have h1:=List.find?_some hp
  have h2:=List.mem_of_find?_eq_some hp
  have e:=Nat.eq_of_beq_eq_true h1
  obtain⟨g,cs⟩:=p
  simp only at e
  subst e
  exact⟨cs,h2,rfl⟩
 ·cases h
theorem mem_unique {l:List (Nat × List Value)} (hnd:(l.map Prod.fst).Nodup) {b:Nat} {x y:List Value} (h1:(b,x)∈l) (h2:(b,y)∈l):x=y:=by
 induction l with
 | nil=>cases h1
 | cons p l ih=>
  simp only[List.map_cons,List.nodup_cons]at hnd
  rcases List.mem_cons.1 h1 with e1 | h1'<;>rcases List.mem_cons.1 h2 with e2 | h2'
  ·rw[←e1]at e2;cases e2;rfl
  ·exact absurd (List.mem_map.2 ⟨_,h2',rfl⟩) (by rw[←e1]at hnd;exact hnd.1)
  ·exact absurd (List.mem_map.2 ⟨_,h1',rfl⟩) (by rw[←e2]at hnd;exact hnd.1)
  ·exact ih hnd.2 h1' h2'
theorem Ek:∀(l:List Value),l.all flat=true→Aq μ l l
 | [],_=> .nil
 | a::l,h=>by
  simp only[List.all_cons,Bool.and_eq_true]at h
  exact .cons (Cc h.1) (Ek l h.2)
theorem Ie.rel {l l':List Value} (h:Ie l l') (μ:Ah):Aq μ l l':=by
 cases h with
 | plain _ hf=>exact Ek _ hf
 | iface te pe=>exact .cons (.A5 _) .nil
theorem OI (hW:DR X base W0) (hmu:base.YO.le (LS X.laid)) (hsz:∀i,base.K i→i < W0.heap.size) {n:Nat} (hn:∀p∈X.laid,p.1 < n):AP base W0 (LS X.laid) (F3 X.laid n) W0∧Br X (LS X.laid):=by
 obtain⟨hnd,hall⟩:=hW
 refine⟨⟨?_,?_,?_,?_,?_,hsz,fun _ _=>rfl,rfl,rfl,?_,hmu,Nat.le_refl _⟩,?_⟩
 ·intro b o hb T hT
  obtain⟨cs,h1,rfl⟩:=GX _ _ _ _ hnd hb
  obtain⟨cs',h2,rfl⟩:=IA hnd hT
  obtain rfl:=mem_unique hnd h1 h2
  obtain⟨_,a,t,fz,ha,hl⟩:=hall _ h1
  have hrel:=hl.rel (LS X.laid)
  have hlen:=hrel.length
  have hlen:cs.length=a.toList.length:=hlen
  refine⟨_,ha,.cells _ _ _ true a t fz.1 fz.2 rfl ?_ ?_ (fun e=>by cases e)⟩
  ·show Aq _ cs (List.take cs.length (List.drop 0 a.toList))
   rw[List.drop_zero,hlen,List.take_length]
   exact hrel
  ·have hlen:cs.length=a.toList.length:=hlen
   have e:a.toList.length=a.size:=rfl
   show a.size=0+cs.length
   omega
 ·intro b o hb hr T hT
  obtain⟨cs,h1,rfl⟩:=GX _ _ _ _ hnd hb
  cases hr
 ·intro b1 b2 o1 o2 _ _ T1 T2 h1 h2 _ _ hc
  obtain⟨_,_,rfl⟩:=IA hnd h1
  obtain⟨_,_,rfl⟩:=IA hnd h2
  exact hc
 ·intro b hb
  rw[Iv]at hb
  refine⟨?_,?_⟩
  ·cases hg:(F3 X.laid n).get b with
   | none=>rfl
   | some o=>
    obtain⟨cs,h1,_⟩:=GX _ _ _ _ hnd hg
    have:=hn _ h1
    simp only at this
    omega
  ·cases hg:LS X.laid b with
   | none=>rfl
   | some T=>
    obtain⟨cs,h1,_⟩:=IA hnd hg
    have:=hn _ h1
    simp only at this
    omega
 ·intro b T hT
  obtain⟨cs,h1,rfl⟩:=IA hnd hT
  exact hsz _ (hall _ h1).1
 ·refine⟨fun _ _=>False,?_,?_⟩
  ·intro b a ro T hb
   obtain⟨cs,h1,e⟩:=GX _ _ _ _ hnd hb
   cases e
  ·intro b a ro T hb
   obtain⟨cs,h1,e⟩:=GX _ _ _ _ hnd hb
   cases e
 ·intro g hg
  obtain⟨p,hp,he⟩:=List.any_eq_true.1 hg
  have e:=Nat.eq_of_beq_eq_true he
  cases hm:LS X.laid g with
  | none=>
   unfold LS at hm
   split at hm
   ·cases hm
   ·rename_i hf
    rw[List.find?_eq_none]at hf
    exact absurd he (hf p hp)
  | some T=>
   obtain⟨cs,h1,rfl⟩:=IA hnd hm
   exact⟨_,rfl,rfl,rfl⟩
def Env.at (base:Env) (W:World):Env:={ base with K:=fun i=>i < W.heap.size,YO:=fun _=>none }
theorem none_le (μ:Ah):Ah.le (fun _=>none) μ:=fun _ _ h=>by cases h
theorem AP.carry {W':World} (h:AP base W0 μ H W) (hs:W.heap.size≤W'.heap.size) (hold:∀i,i < W.heap.size→W'.heap[i]? = W.heap[i]?) (ho:W'.output=W.output) (hos:W'.os=W.os):AP base W0 μ H W':=
 ⟨fun b o hb T hT=>let ⟨o',h1,h2⟩:=h.obj b o hb T hT;⟨o',by rw[hold _ (h.bound b T hT)];exact h1,h2⟩,h.own,h.inj,h.fresh,fun b T hT=>Nat.lt_of_lt_of_le (h.bound b T hT) hs,fun i hi=>Nat.lt_of_lt_of_le (h.size i hi) hs,
  fun i hi=>by rw[hold i (h.size i hi)];exact h.below i hi,by rw[ho];exact h.out,by rw[hos];exact h.os,
  let ⟨φ,q⟩:=h.abs;⟨φ,fun b a ro T h1 h2=>let ⟨r1,r2⟩:=q.rep b a ro T h1 h2;⟨Ct.loc _ _ _ _ _ hs r1 (fun i hi=>hold i ((Ct.FV _ _ _ _ r1).2 i hi)),r2⟩,q.Be⟩,h.le,Nat.le_trans h.grow hs⟩
theorem DR.carry (hW:DR X base W0) (h:AP base W0 μ H W):DR X (base.at W) W:=by
 refine⟨hW.1,fun p hp=>?_⟩
 obtain⟨h1,a,t,fz,h3,h4⟩:=hW.2 p hp
 exact⟨h.size _ h1,a,t,fz,by rw[h.below _ h1];exact h3,h4⟩
theorem HO {b0:Env} {W W':World} {μ':Ah} {H':AA} (h:AP (b0.at W) W μ' H' W'):W.heap.size≤W'.heap.size:=h.grow
end
end Go.AD

namespace Go.AD
theorem Zi {P:Program} {ops:Array Oper} {done:List Nat} {x:Oper}:GR ops (Rz P ops.toList done x):=by
 intro e he
 unfold Rz at he
 obtain⟨j,_,hj⟩:=List.mem_filterMap.1 he
 split at hj
 ·rename_i o ho
  cases hb:(Nat.beq (Bm P o) 0&& !((Il ops.toList x).any (Nat.beq j)))
  ·rw[hb]at hj;cases hj
  ·rw[hb]at hj;cases hj
   show ops[j]? = some o
   rw[←Array.getElem?_toList];exact ho
 ·cases hj
theorem UE {P:Program} {ops:Array Oper}:∀(f:Nat) (done:List Nat) (p:List PE),J5 P ops.toList f done=some p→GR ops p:=by
 have key:∀{q:Oper × Nat→Bool} {o:Oper} {i:Nat},ops.toList.zipIdx.find? q=some (o,i)→ops[i]? = some o:=by
  intro q o i h
  have:=List.mem_of_find?_eq_some h
  have:=List.mem_zipIdx_iff_getElem?.1 this
  rw[←Array.getElem?_toList]
  exact this
 intro f
 induction f with
 | zero=>
  intro done p h
  unfold J5 at h
  cases hb:Nat.beq done.length ops.toList.length
  ·rw[hb]at h;cases h
  ·rw[hb]at h;cases h;intro e he;cases he
 | succ f ih=>
  intro done p h
  unfold J5 at h
  split at h
  ·rename_i o i hf
   rw[Option.map_eq_some_iff]at h
   obtain⟨r,hr,rfl⟩:=h
   intro e he
   rcases List.mem_cons.1 he with rfl | he
   ·exact key hf
   ·exact ih _ _ hr e he
  ·split at h
   ·rename_i o i hf
    rw[Option.map_eq_some_iff]at h
    obtain⟨r,hr,rfl⟩:=h
    intro e he
    rcases List.mem_cons.1 he with rfl | he
    ·exact key hf
    ·rcases List.mem_append.1 he with he | he
     ·exact Zi e he
     ·exact ih _ _ hr e he
   ·cases h
theorem FY {X:Ctx} (hm:X.P.follows .mixedOrders=true) (hp:X.Bh=Iz X.P):Ef X:=by
 refine⟨hm,fun ops p h=>?_⟩
 rw[hp]at h
 unfold Iz at h
 split at h
 ·rename_i p' hg
  cases hb:(JA X.P ops&&DS X.P ops [] p')
  ·rw[hb]at h;cases h
  ·rw[hb]at h;cases h
   rw[Bool.and_eq_true]at hb
   exact⟨hb.1,UE _ _ _ hg,hb.2⟩
 ·cases h
end Go.AD

namespace Go.AD
noncomputable def Im (m:Tr AJ):List Nat→Tr AJ
 | []=> .leaf
 | i::r=>(Im m r).put i (m.get i)
def Gn:List CH→Bool
 | .DW _ _::_=>false
 | _=>true
def O7:Value→Option Nat
 | .pointer (some ⟨b,_,_⟩)=>some b
 | .slice (some ⟨b,_,_⟩) _ _=>some b
 | _=>none
noncomputable def HJ (P:Program) (ids:List Nat) (f:AU):Bool:=
 match f.todo with
 | .DW ops _::_=>ops.toList.all fun o=> !(Nat.beq (Bm P o) 1)||(match o.dst with
  | some d=>match O7 (look f.tmps d)with
   | some b=>ids.any (Nat.beq b)
   | none=>true
  | none=>true)
 | _=>true
noncomputable def La (P:Program) (ids:List Nat) (c:Ay):Bool:=Gn c.fr.todo&&c.cs.all fun f=>HJ P ids f
noncomputable def shrink (P:Program) (ids:List Nat) (c:Ay):Option Ay:=
 match c with
 | ⟨fr,cs,H⟩=>bif La P ids ⟨fr,cs,H⟩then some ⟨fr,cs,⟨Im H.m ids,H.next⟩⟩else none
noncomputable def Rq (X:Ctx) (n:Nat) (ids:List Nat) (c:Ay):Option Ay:=
 match XO X n c with
 | some c'=>shrink X.P ids c'
 | none=>none
noncomputable def LK:List Nat→Tr Value→Tr Value
 | [],t=>t
 | i::r,t=>(LK r t).put i (some A5)
noncomputable def forget (l:List Nat) (c:Ay):Option Ay:=
 match c with
 | ⟨⟨fn,t,n,todo,ds,r,kd,rd⟩,cs,H⟩=>bif Gn todo then some ⟨⟨fn,LK l t,n,todo,ds,r,kd,rd⟩,cs,H⟩else none
inductive Hp (X:Ctx):Ay→Ay→Prop where
 | run {c c':Ay} (n:Nat) (h:XO X n c=some c'):Hp X c c'
 | shrink {c c':Ay} (ids:List Nat) (h:Go.AD.shrink X.P ids c=some c'):Hp X c c'
 | forget {c c':Ay} (l:List Nat) (h:Go.AD.forget l c=some c'):Hp X c c'
 | trans {c c1 c2:Ay} (h:Hp X c c1) (h':Hp X c1 c2):Hp X c c2
theorem Hp.Rq {X:Ctx} {c c':Ay} {n:Nat} {ids:List Nat} (h:Rq X n ids c=some c'):Hp X c c':=by
 unfold AD.Rq at h
 split at h
 ·rename_i c1 h1
  exact .trans (.run n h1) (.shrink ids h)
 ·cases h
theorem Tk (m:Tr AJ):∀(ids:List Nat) (b:Nat) (o:AJ),(Im m ids).get b=some o→m.get b=some o:=by
 intro ids
 induction ids with
 | nil=>intro b o h;simp[Im,Tr.MD]at h
 | cons i r ih=>
  intro b o h
  simp only[Im]at h
  rw[Tr.AN]at h
  by_cases e:b=i
  ·subst e;rw[if_pos rfl]at h;exact h
  ·rw[if_neg e]at h;exact ih b o h
section
variable {X:Ctx} {base:Env} {W0:World} {μ:Ah} {H:AA} {W:World}
theorem AP.sub {H':AA} (h:AP base W0 μ H W) (hs:∀b o,H'.get b=some o→H.get b=some o) (hn:H'.next=H.next):AP base W0 μ H' W:=
 ⟨fun b o hb=>h.obj b o (hs b o hb),fun b o hb=>h.own b o (hs b o hb),fun b1 b2 o1 o2 h1 h2=>h.inj b1 b2 o1 o2 (hs _ _ h1) (hs _ _ h2),
  fun b hb=>(by
   have hb':H.next≤b:=by rw[←hn];exact hb
   refine⟨?_,(h.fresh b hb').2⟩
   cases hg:H'.get b with
   | none=>rfl
   | some o=>
    have:=(h.fresh b hb').1
    rw[hs _ _ hg]at this
    cases this),
  h.bound,h.size,h.below,h.out,h.os,
  let ⟨φ,q⟩:=h.abs;⟨φ,fun b' a ro T' h1 h2=>q.rep b' a ro T' (hs _ _ h1) h2,fun b' a ro T' h1 h2 b2 o2 T2 h3 h4 h5=>q.Be b' a ro T' (hs _ _ h1) h2 b2 o2 T2 (hs _ _ h3) h4 h5⟩,h.le,h.grow⟩
theorem Xw (m:Tr AJ):∀(ids:List Nat) (b:Nat),b∈ids→(Im m ids).get b=m.get b:=by
 intro ids
 induction ids with
 | nil=>intro b h;cases h
 | cons i r ih=>
  intro b h
  simp only[Im,Tr.AN]
  by_cases e:b=i
  ·rw[if_pos e,e]
  ·rw[if_neg e]
   rcases List.mem_cons.1 h with h | h
   ·exact absurd h e
   ·exact ih b h
theorem RF {P:Program} {ρ:Operand→Value} {o:Oper} {H H':AA} {v:Value} (hc:Bm P o=1) (hi:JF P ρ o H=some (v,H')):O7 v=some H.next:=by
 have hv:=S4 (ρ:=ρ) hc H
 unfold JF at hi
 rw[hv]at hi
 simp only at hi
 cases ho:o.op<;>simp only[Bm,ho]at hc<;>try (first | (cases hc;done) | (split at hc<;>cases hc;done))
 all_goals simp only[Km,ho]at hi
 ·split at hi
  ·cases hi;rfl
  ·cases hi
 ·rename_i t x
  cases hn:C7 (ρ x)
  ·simp[hn]at hi
  ·simp only[hn,cond_true,Option.some.injEq,Prod.mk.injEq]at hi
   obtain⟨rfl,_⟩:=hi
   rfl
 ·rename_i t len parts
  cases hn:(Nat.blt len AF&&parts.toList.all (fun p=>C7 (ρ p.2)))
  ·simp only[hn,cond_false]at hi;cases hi
  ·simp only[hn,cond_true,E8]at hi
   cases hu:P.underlying t with
   | none=>simp[hu]at hi
   | some d=>
    cases d<;>simp only[hu]at hi<;>try (cases hi;done)
    rename_i e
    cases hs:C0 P e with
    | none=>simp[hs]at hi
    | some n=>
     cases hz:Fl P e with
     | none=>simp[hs,hz]at hi
     | some z=>
      simp only[hs,hz]at hi
      cases hq:Nat.beq (len * n) 0
      ·simp only[hq,cond_false]at hi
       cases hb:Nat.ble (len * n) 16777216
       ·simp only[hb,cond_false]at hi;cases hi
       ·simp only[hb,cond_true,Option.map_eq_some_iff]at hi
        obtain⟨l,_,he⟩:=hi
        cases he;rfl
      ·simp only[hq,cond_true]at hi
       split at hi
       ·cases hi;rfl
       ·cases hi
 ·simp only[Fk]at hi
  split at hi
  ·split at hi
   ·rename_i i z _ _
    rename_i l c _ _
    revert hi
    generalize (Nat.ble _ _&&Nat.ble _ _&&Nat.blt _ _)=q
    cases q
    ·intro hi;cases hi
    ·intro hi;cases hi;rfl
   ·cases hi
  ·cases hi
theorem FH.kept {ids:List Nat} {g:List Nat} {f:AU} {f':Frame} (h:FH X μ H g f f') (hg:HJ X.P ids f=true):FH X μ ⟨Im H.m ids,H.next⟩ g f f':=by
 cases h with
 | plain fn t n tm todo todo' ds ds' r kd rd rd' ht hi hd hr=>exact .plain fn t n tm todo todo' ds ds' r kd rd rd' ht hi hd hr
 | Jg fn t n tm ops x o rest idx D G k k' ds ds' kd rd rd' ho hD hkk hd hr=>
  simp only[HJ,List.all_eq_true]at hg
  refine .Jg fn t n tm ops x o rest idx D G k k' ds ds' kd rd rd' ho ⟨hD.stat,hD.wf,hD.VQ,hD.KK,hD.VM,hD.Yq,hD.sz,hD.tmp,?_,hD.aE,hD.Xs,hD.VR⟩ hkk hd hr
  intro i o' ho' h1 h2
  obtain⟨d,e1,e0,e2⟩:=hD.YQ i o' ho' h1 h2
  refine⟨d,e1,e0,?_⟩
  rcases e2 with e2 | e2 | ⟨e2,e3,b,hb,obj,mk,a1,a2,a3,a4,a5⟩
  ·exact .inl e2
  ·exact .inr (.inl e2)
  ·refine .inr (.inr ⟨e2,e3,b,hb,obj,mk,a1,a2,a3,a4,?_⟩)
   have hm:o'∈ops.toList:=by
    rw[←Array.getElem?_toList]at ho'
    exact List.mem_of_getElem? ho'
   have hk:=hg o' hm
   have hbl:O7 (look t d)=some b:=by
    rw[a1]
    exact RF e3 (a2 ⟨.leaf,b⟩)
   simp only[e3,e1,hbl,Nat.beq_refl,Bool.not_true,Bool.false_or,List.any_eq_true]at hk
   obtain⟨b',hb',hbb⟩:=hk
   have hbe:=Nat.eq_of_beq_eq_true hbb
   subst hbe
   show(Im H.m ids).get b=some obj
   rw[Xw _ _ _ hb']
   exact a5
theorem Cu.kept {ids:List Nat} {gs:List Nat} {l:List AU} {l':List Frame} (h:Cu X μ H gs l l') (hg:l.all (fun f=>HJ X.P ids f)=true):Cu X μ ⟨Im H.m ids,H.next⟩ gs l l':=by
 induction h with
 | nil=>exact .nil
 | cons h _ ih=>
  simp only[List.all_cons,Bool.and_eq_true]at hg
  exact .cons (h.kept hg.1) (ih hg.2)
theorem R7 {ids:List Nat} {c c':Ay} {fr:Frame} {cs:List Frame} (h:shrink X.P ids c=some c') (hm:G6 X base W0 μ c fr cs W):G6 X base W0 μ c' fr cs W:=by
 obtain⟨f,l,H⟩:=c
 unfold shrink at h
 cases hb:La X.P ids ⟨f,l,H⟩
 ·simp only[hb,cond_false]at h;cases h
 ·simp only[hb,cond_true]at h;cases h
  simp only[La,Bool.and_eq_true]at hb
  obtain⟨h1,h2,g,gs,h3,h4,h5⟩:=hm
  refine⟨h1.sub (fun b o=>Tk H.m ids b o) rfl,h2,g,gs,?_,h4.kept hb.2,h5⟩
  simp only at h3 hb
  cases h3 with
  | plain fn t n tm todo todo' ds ds' r kd rd rd' ht hi hd hr=>exact .plain fn t n tm todo todo' ds ds' r kd rd rd' ht hi hd hr
  | drawn fn t n tm ops Bh idx D G k k' ds ds' kd rd rd' hD hk hd hr=>have:=hb.1;cases this
theorem Qt {n:Nat} {tm:Array Value}:∀(l:List Nat) {t:Tr Value},ES μ t n tm→ES μ (LK l t) n tm:=by
 intro l
 induction l with
 | nil=>intro t h;exact h
 | cons i r ih=>
  intro t h
  have h1:=ih h
  refine⟨h1.1,fun u=>?_⟩
  simp only[LK]
  by_cases e:u=i
  ·subst e;rw[DF];exact .A5 _
  ·rw[DV _ _ e];exact h1.2 u
theorem Rj {l:List Nat} {c c':Ay} {fr:Frame} {cs:List Frame} (h:forget l c=some c') (hm:G6 X base W0 μ c fr cs W):G6 X base W0 μ c' fr cs W:=by
 obtain⟨⟨fn,t,n,todo,ds,r,kd,rd⟩,l1,H⟩:=c
 unfold forget at h
 simp only at h
 cases hb:Gn todo
 ·simp only[hb,cond_false]at h;cases h
 ·simp only[hb,cond_true]at h;cases h
  obtain⟨h1,h2,g,gs,h3,h4,h5⟩:=hm
  refine⟨h1,h2,g,gs,?_,h4,h5⟩
  simp only at h3
  cases h3 with
  | plain _ _ _ tm _ todo' _ ds' _ _ _ rd' ht hi hd hr=>exact .plain fn _ n tm todo todo' ds ds' r kd rd rd' (Qt l ht) hi hd hr
  | drawn _ _ _ tm ops Bh idx D G k k' _ ds' _ _ rd' hD hk hd hr=>cases hb
theorem Q3 (hok:Cr X base W0) (hplan:Ef X) {cs0:List Frame} {c c':Ay} (hg:Hp X c c'):∀(μ:Ah) (fr:Frame) (cs:List Frame) (W:World),G6 X base W0 μ c fr cs W→
 ∃μ' fr1 cs1 W1,Steps X.P (lone fr (cs++cs0) W) (lone fr1 (cs1++cs0) W1)∧G6 X base W0 μ' c' fr1 cs1 W1:=by
 induction hg with
 | run n h=>intro μ fr cs W hm;exact Zb hok hplan n _ _ μ fr cs W h hm
 | shrink ids h=>intro μ fr cs W hm;exact⟨μ,fr,cs,W,.refl _ _,R7 h hm⟩
 | forget l h=>intro μ fr cs W hm;exact⟨μ,fr,cs,W,.refl _ _,Rj h hm⟩
 | trans _ _ ih1 ih2=>
  intro μ fr cs W hm
  obtain⟨μ1,fr1,cs1,W1,s1,m1⟩:=ih1 μ fr cs W hm
  obtain⟨μ2,fr2,cs2,W2,s2,m2⟩:=ih2 μ1 fr1 cs1 W1 m1
  exact⟨μ2,fr2,cs2,W2,s1.trans s2,m2⟩
theorem RW (hok:Cr X base W0) (hplan:Ef X) (hH:AP base W0 μ H W) (hlaid:Br X μ) {f:FuncId} {n:Nat} {code:Code} (he:entry X.P f=some (n,code)) {args:List Value} {args':Array Value} (ha:Aq μ args args'.toList) (hn:args.length≤n)
 {c':Ay} {v:Value} {H':AA} (hrun:Hp X (GF f (B3 0 args .leaf) n code H) c') (hd:EX X f c'=some (v,H')):
 Calls X.P f args' W fun e W'=>∃v' μ',e= .returned v'∧AP base W0 μ' H' W'∧AH μ' v v':=by
 intro cs
 obtain⟨μ',fr,cs1,W1,hs,hm⟩:=Q3 (cs0:=cs) hok hplan hrun μ _ [] W (Gr hH hlaid he ha hn)
 obtain⟨rfl,hf,v',h1,h2,h3⟩:=Hn hm hd
 have hs':Steps X.P (lone (Frame.enter X.P f args' .normal) cs W) (lone fr cs W1):=by simpa using hs
 exact⟨.returned v',W1,fr,⟨v',μ',rfl,h2,h3⟩,hs',hf,h1⟩
theorem T4 (Y:Ctx) (hP:Y.P=X.P) (hL:Y.laid=X.laid) (hW:DR X base W0) (hok:∀base W0,DR Y base W0→Cr Y base W0) (hplan:Ef Y) {f:FuncId} {n N:Nat} {code:Code} (he:entry Y.P f=some (n,code)) {args:List Value} (hfl:args.all flat=true)
 (hn:args.length≤n) (hN:∀p∈Y.laid,p.1 < N) {c':Ay} {v:Value} {H1:AA} (hrun:Hp Y (GF f (B3 0 args .leaf) n code (F3 Y.laid N)) c') (hd:EX Y f c'=some (v,H1)) (hv:flat v=true)
 (hH:AP base W0 μ H W) {args':Array Value} (ha:Aq μ args args'.toList):Calls X.P f args' W fun e W'=>∃v' μ',e= .returned v'∧AP base W0 μ' H W'∧AH μ' v v'∧Ac μ H μ' H:=by
 have hW1:DR Y (base.at W) W:=by
  have:=hW.carry hH
  unfold DR at this ⊢
  rw[hL];exact this
 obtain⟨s1,s2⟩:=OI (X:=Y) hW1 (none_le _) (fun _ hi=>hi) hN
 have hargs:args'.toList=args:=EJ args _ hfl ha
 have hc:=RW (args':=args') (hok _ _ hW1) hplan s1 s2 he (by rw[hargs];exact Ek args hfl) hn hrun hd
 rw[hP]at hc
 refine hc.mono fun e W' ⟨v',μ',h1,h2,h3⟩=>⟨v',μ,h1,hH.carry (HO h2) h2.below h2.out h2.os,?_,Ac.refl _ _⟩
 rw[FU hv h3];exact Cc hv
end
structure Nw where
 f:FuncId
 args:List Value
 v:Value
noncomputable def SQ (k:Nw):Cn:=fun args H=>bif Hg (HQ 8) args k.args then some (k.v,H)else none
def IH (P:Program) (laid:List (Nat × List Value)) (k:Nw):Prop:=
 (∃n c,entry P k.f=some (n,c))∧∀base W0 μ H W (args':Array Value),DR ⟨P,laid,fun _=>none,Iz P⟩ base W0→AP base W0 μ H W→Aq μ k.args args'.toList→
  Calls P k.f args' W fun e W'=>∃v' μ',e= .returned v'∧AP base W0 μ' H W'∧AH μ' k.v v'∧Ac μ H μ' H
noncomputable def Ib:List (Nat × Value)→Tr Value
 | []=> .leaf
 | (i,v)::r=>(Ib r).put i (some v)
noncomputable def fi:List (Nat × AJ)→Tr AJ
 | []=> .leaf
 | (i,v)::r=>(fi r).put i (some v)
def Kp:Code→List Nat→Code
 | c,[]=>c
 | .seq a b,i::r=>bif Nat.beq i 0 then Kp a r else Kp b r
 | .cond _ a b,i::r=>bif Nat.beq i 0 then Kp a r else Kp b r
 | .block _ b,_::r=>Kp b r
 | .loop b,_::r=>Kp b r
 | .scope b,_::r=>Kp b r
 | .rangeFunc _ _ a b,i::r=>bif Nat.beq i 0 then Kp a r else Kp b r
 | c,_::_=>c
def Bb (P:Program) (f:FuncId) (l:List Nat):Code:=match entry P f with
 | some (_,c)=>Kp c l
 | none=> .skip
def opsOf:Code→Array Oper
 | .region _ ops _=>ops
 | _=>#[]
def KU (c:Code) (k:Nat):CH:= .G0 (opsOf c) ((opsOf c).toList.drop k)
def cl (P:Program) (c:Code) (k:Nat):CH:= .DW (opsOf c) (match Iz P (opsOf c)with
 | some p=>p.drop k
 | none=>[])
def Xb (k:IntKind) (w:Nat):Nat→Nat→List Value
 | 0,_=>[]
 | n+1,m=> .int k (Int.ofNat (m % w))::Xb k w n (m / w)
def dX (l:List Nat):ByteArray:=⟨⟨l.map UInt8.ofNat⟩⟩
def pt (b o:Nat):Value:= .pointer (some ⟨b,o,none⟩)
def sl (b o l c:Nat):Value:= .slice (some ⟨b,o,none⟩) l c
def eF (n m:Nat):List Value:=Xb .u64 18446744073709551616 n m
theorem OU {laid:List (Nat × List Value)} {N:Nat} (h:laid.all (fun p=>Nat.blt p.1 N)=true):∀p∈laid,p.1 < N:=fun p hp=>Nat.le_of_ble_eq_true (List.all_eq_true.1 h p hp)
theorem X5 {P:Program} {f:FuncId} {n:Nat} {c:Code} (h:entry P f=some (n,c)):entry P f=some (n,Bb P f []):=by
 have hc:Kp c []=c:=by cases c<;>rfl
 unfold Bb;rw[h];show _=some (n,Kp c []);rw[hc]
noncomputable def TV (P:Program) (laid:List (Nat × List Value)) (k:Nw) (n N:Nat):Bool:=
 P.follows .mixedOrders&&k.args.all flat&&Nat.ble k.args.length n&&laid.all (fun p=>Nat.blt p.1 N)&&flat k.v&&(match entry P k.f with
  | some (m,_)=>Nat.beq m n
  | none=>false)
end Go.AD

namespace Go.AD
section
variable {X:Ctx} {base:Env} {W0:World} {μ:Ah} {H:AA} {W:World}
def ML (X:Ctx) (c c':Ay):Prop:=∀(base:Env) (W0:World),Cr X base W0→Ef X→∀(cs0:List Frame) (μ:Ah) (fr:Frame) (cs:List Frame) (W:World),G6 X base W0 μ c fr cs W→CR X base W0 cs0 c' (lone fr (cs++cs0) W)
theorem ML.refl (X:Ctx) (c:Ay):ML X c c:=fun _ _ _ _ _ μ fr cs W hm=>⟨μ,fr,cs,W,.refl _ _,hm⟩
theorem ML.trans {c c1 c2:Ay} (h:ML X c c1) (h':ML X c1 c2):ML X c c2:=by
 intro base W0 hok hplan cs0 μ fr cs W hm
 obtain⟨μ1,fr1,cs1,W1,s1,m1⟩:=h base W0 hok hplan cs0 μ fr cs W hm
 obtain⟨μ2,fr2,cs2,W2,s2,m2⟩:=h' base W0 hok hplan cs0 μ1 fr1 cs1 W1 m1
 exact⟨μ2,fr2,cs2,W2,s1.trans s2,m2⟩
theorem ML.step {c c':Ay} (h:DQ X c=some c'):ML X c c':=fun _ _ hok hplan _ _ _ _ _ hm=>L7 hok hplan hm h
theorem ML.fy {c c':Ay} (h:Hp X c c'):ML X c c':=fun _ _ hok hplan _ μ fr cs W hm=>Q3 hok hplan h μ fr cs W hm
def Reach (X:Ctx) (c:Ay) (Φ:Ay→Prop):Prop:=∀(base:Env) (W0:World),Cr X base W0→Ef X→∀(cs0:List Frame) (μ:Ah) (fr:Frame) (cs:List Frame) (W:World),G6 X base W0 μ c fr cs W→∃c',Φ c'∧CR X base W0 cs0 c' (lone fr (cs++cs0) W)
theorem Reach.here {c:Ay} {Φ:Ay→Prop} (h:Φ c):Reach X c Φ:=fun _ _ hok hplan cs0 μ fr cs W hm=>⟨c,h,ML.refl X c _ _ hok hplan cs0 μ fr cs W hm⟩
theorem ML.reach {c c':Ay} {Φ:Ay→Prop} (h:ML X c c') (hΦ:Φ c'):Reach X c Φ:=fun _ _ hok hplan cs0 μ fr cs W hm=>⟨c',hΦ,h _ _ hok hplan cs0 μ fr cs W hm⟩
theorem Reach.bind {c:Ay} {Φ Ψ:Ay→Prop} (h:Reach X c Φ) (h':∀c',Φ c'→Reach X c' Ψ):Reach X c Ψ:=by
 intro base W0 hok hplan cs0 μ fr cs W hm
 obtain⟨c1,p1,μ1,fr1,cs1,W1,s1,m1⟩:=h base W0 hok hplan cs0 μ fr cs W hm
 obtain⟨c2,p2,μ2,fr2,cs2,W2,s2,m2⟩:=h' c1 p1 base W0 hok hplan cs0 μ1 fr1 cs1 W1 m1
 exact⟨c2,p2,μ2,fr2,cs2,W2,s1.trans s2,m2⟩
theorem Reach.mono {c:Ay} {Φ Ψ:Ay→Prop} (h:Reach X c Φ) (hi:∀c',Φ c'→Ψ c'):Reach X c Ψ:=h.bind fun c' hc=> .here (hi c' hc)
theorem ML.then {c c':Ay} {Φ:Ay→Prop} (h:ML X c c') (h':Reach X c' Φ):Reach X c Φ:=Reach.bind (Φ:=fun d=>d=c') (h.reach rfl) fun _ e=>e ▸ h'
theorem ML.Mw {fn:FuncId} {t:Tr Value} {n:Nat} {ops:Array Oper} {j:Nat} {o:Oper} {rest:List PE} {k:List CH} {ds:List Deferred} {kd:CallKind} {rd:Option Nat} {cs:List AU} {H:AA}
 (hf:CS ops o t=some true→∃d H1,o.dst=some d∧JF X.P (Bc X t) o H=some (look t d,H1)):
 ML X ⟨⟨fn,t,n,.DW ops (.Mw j o::rest)::k,ds,false,kd,rd⟩,cs,H⟩ ⟨⟨fn,t,n,.DW ops rest::k,ds,false,kd,rd⟩,cs,H⟩:=by
 intro base W0 hok hplan cs0 μ fr cs' W hm
 obtain⟨hH,hlaid,g,gs,hfr,hcs,hnd⟩:=hm
 simp only at hH hfr hcs
 cases hfr with
 | plain fn t n tm todo todo' ds ds' r kd rd rd' ht hi hd hrd=>cases hi;rename_i h1 _;cases h1
 | drawn fn t n tm ops Bh idx D G k k' ds ds' kd rd rd' hD hk hd hr=>
  have hoj:ops[j]? = some o:=hD.wf (.Mw j o) (by simp)
  have hokp:=hD.VQ
  unfold DS at hokp
  simp only[Bool.and_eq_true]at hokp
  have hwf:GR ops rest:=fun e he=>hD.wf e (by simp[he])
  refine⟨μ,_,cs',W,.refl _ _,hH,hlaid,G.map Prod.snd,gs,.drawn fn t n tm ops rest idx D G k k' ds ds' kd rd rd' ⟨hD.stat,hwf,hokp.2,hD.KK,hD.VM,hD.Yq,hD.sz,hD.tmp,fun i oi hi hiD hii=>?_,hD.aE,hD.Xs,hD.VR⟩ hk hd hr,hcs,hnd⟩
  refine(hD.YQ i oi hi hiD hii).congr (fun _ _=>rfl) (fun _ _=>rfl) fun d hdd hw hc0 hf2=>?_
  rcases hf2 with hf2 | hf2
  ·simp only[lead,List.mem_cons]at hf2
   rcases hf2 with rfl | hf2
   ·rw[hoj]at hi;cases hi
    obtain⟨d2,H1,e1,e2⟩:=hf hw
    rw[hdd]at e1;cases e1
    exact .inr ⟨H1,e2⟩
   ·exact .inl hf2
  ·exact .inr hf2
end
noncomputable def ax {α:Type} (x:Option α) (p:FQ):Tr α→(Tr α→Prop)→Prop:=
 FQ.rec (motive:=fun _=>Tr α→(Tr α→Prop)→Prop)
  (fun t k=>Tr.casesOn (motive:=fun _=>Prop) t (k (.node .leaf x .leaf)) (fun l _ r=>k (.node l x r)))
  (fun _ ih t k=>Tr.casesOn (motive:=fun _=>Prop) t (ih .leaf fun l=>k (.node l none .leaf)) (fun l v r=>ih l fun l=>k (.node l v r)))
  (fun _ ih t k=>Tr.casesOn (motive:=fun _=>Prop) t (ih .leaf fun r=>k (.node .leaf none r)) (fun l v r=>ih r fun r=>k (.node l v r)))
  p
theorem Ws {α:Type} (x:Option α) (p:FQ):∀(t:Tr α) (k:Tr α→Prop),ax x p t k=k (t.Eb x p):=by
 induction p with
 | e=>intro t k;cases t<;>rfl
 | z p ih=>intro t k;cases t<;>exact ih _ _
 | o p ih=>intro t k;cases t<;>exact ih _ _
noncomputable def Y9 {α:Type} (t:Tr α) (n:Nat) (x:Option α) (k:Tr α→Prop):Prop:=ax x (FQ.of n) t k
theorem OF {α:Type} (t:Tr α) (n:Nat) (x:Option α) (k:Tr α→Prop):Y9 t n x k=k (t.put n x):=Ws _ _ _ _
noncomputable def St:Nat→List Value→Tr Value→(Tr Value→Prop)→Prop
 | _,[],t,k=>k t
 | i,v::r,t,k=>Y9 t i (some v) fun t=>St (i+1) r t k
theorem QH:∀(l:List Value) (i:Nat) (t:Tr Value) (k:Tr Value→Prop),St i l t k=k (B3 i l t)
 | [],_,_,_=>rfl
 | v::r,i,t,k=>by simp only[St,B3,OF,QH r]
noncomputable def H7 (f:AU) (v:Value):Option AU:=
 match f with
 | ⟨fn,t,n,todo,ds,r,kd,rd⟩=>
  match todo with
  | .G0 ops (o::rest)::k=>
   match o.dst with
   | some d=>bif Nat.blt d n then some ⟨fn,t.put d (some v),n,.G0 ops rest::k,ds,r,kd,rd⟩else none
   | none=>some ⟨fn,t,n,.G0 ops rest::k,ds,r,kd,rd⟩
  | .DW ops (.op _ o::rest)::k=>
   match o.dst with
   | some d=>bif Nat.blt d n then some ⟨fn,t.put d (some v),n,.DW ops rest::k,ds,r,kd,rd⟩else none
   | none=>some ⟨fn,t,n,.DW ops rest::k,ds,r,kd,rd⟩
  | .inRangeFunc l::k=>some ⟨fn,t,n,.endRangeFunc l::k,ds,r,kd,rd⟩
  | .beginRound::k=>some ⟨fn,t,n,k,ds,r,kd,rd⟩
  | _=>none
theorem SY (f:AU) (v:Value):Bg f v=H7 f v:=by
 unfold Bg
 rw[IN]
 rfl
noncomputable def Vl (f:AU) (v:Value) (cs:List AU) (H:AA) (K:Ay→Prop):Prop:=
 match f with
 | ⟨fn,t,n,todo,ds,r,kd,rd⟩=>
  match todo with
  | .G0 ops (o::rest)::k=>
   match o.dst with
   | some d=>bif Nat.blt d n then Y9 t d (some v) fun t=>K ⟨⟨fn,t,n,.G0 ops rest::k,ds,r,kd,rd⟩,cs,H⟩else False
   | none=>K ⟨⟨fn,t,n,.G0 ops rest::k,ds,r,kd,rd⟩,cs,H⟩
  | .DW ops (.op _ o::rest)::k=>
   match o.dst with
   | some d=>bif Nat.blt d n then Y9 t d (some v) fun t=>K ⟨⟨fn,t,n,.DW ops rest::k,ds,r,kd,rd⟩,cs,H⟩else False
   | none=>K ⟨⟨fn,t,n,.DW ops rest::k,ds,r,kd,rd⟩,cs,H⟩
  | _=>match H7 ⟨fn,t,n,todo,ds,r,kd,rd⟩ v with
   | some f'=>K ⟨f',cs,H⟩
   | none=>False
noncomputable def M7 (f:AU) (v:Value) (cs:List AU) (H:AA) (K:Ay→Prop):Prop:=
 match v with
 | .bool b=>bif b then Vl f (.bool true) cs H K else Vl f (.bool false) cs H K
 | v=>Vl f v cs H K
noncomputable def VT.Sv:VT→(Value→AA→Prop)→Prop
 | .fail,_=>False
 | .ret v H,K=>K v H
 | .test c a b,K=>bif c then a.Sv K else b.Sv K
theorem VT.Fa {K:Value→AA→Prop}:∀{t:VT},t.Sv K→∃v H',t.run=some (v,H')∧K v H'
 | .fail,h=>by cases h
 | .ret v H,h=>⟨v,H,rfl,h⟩
 | .test c a b,h=>by
  cases c
  ·exact VT.Fa (t:=b) h
  ·exact VT.Fa (t:=a) h
noncomputable def dY (P:Program) (ρ:Operand→Value) (o:Oper) (H:AA) (K:Value→AA→Prop):Prop:=
 match Q9 P ρ o H with
 | some t=>t.Sv K
 | none=>match Km P ρ o H with
  | some (v,H')=>K v H'
  | none=>False
theorem VV {P:Program} {ρ:Operand→Value} {o:Oper} {H:AA} {K:Value→AA→Prop} (h:dY P ρ o H K):∃v H',JF P ρ o H=some (v,H')∧K v H':=by
 unfold dY at h
 unfold JF
 cases hv:Q9 P ρ o H with
 | some t=>simp only[hv]at h;exact VT.Fa h
 | none=>
  simp only[hv]at h
  split at h
  ·rename_i v H' e;exact⟨v,H',e,h⟩
  ·cases h
noncomputable def Kz (X:Ctx) (f:FuncId) (args:List Value) (kind:CallKind) (fr:AU) (cs:List AU) (H:AA) (K:Ay→Prop):Prop:=
 match Bp X f args kind H with
 | some (v,H')=>M7 fr v cs H' K
 | none=>match entry X.P f with
  | some (n,c)=>bif Nat.ble args.length n then St 0 args .leaf fun t=>K ⟨⟨f,t,n,[.code c],[],false,kind,none⟩,fr::cs,H⟩else False
  | none=>match Fz X f args kind fr cs H with
   | some c'=>K c'
   | none=>False
abbrev FJ:=List Value→AA→(Value→AA→Prop)→Prop
abbrev Pf:=FuncId→Option FJ
def FD (X:Ctx) (pf:Pf):Prop:=∀f F,pf f=some F→∀args H K,F args H K→∃v H',Bp X f args .normal H=some (v,H')∧K v H'
noncomputable def Sd (X:Ctx) (pf:Pf) (f:FuncId) (args:List Value) (kind:CallKind) (fr:AU) (cs:List AU) (H:AA) (K:Ay→Prop):Prop:=
 match pf f with
 | some F=>match kind with
  | .normal=>F args H fun v H'=>M7 fr v cs H' K
  | kind=>Kz X f args kind fr cs H K
 | none=>Kz X f args kind fr cs H K
noncomputable def QZ (X:Ctx) (pf:Pf) (f:Value) (args:List Value) (fr:AU) (cs:List AU) (H:AA) (K:Ay→Prop):Prop:=
 match f with
 | .func (.func g) first captured=>Sd X pf g (first.toList++args++captured.toList) .normal fr cs H K
 | _=>match Jc X f args fr cs H with
  | some c'=>K c'
  | none=>False
noncomputable def Sl (X:Ctx) (pf:Pf) (o:Oper) (fr:AU) (cs:List AU) (H:AA) (K:Ay→Prop):Prop:=
 match o.op with
 | .call c=>match c.callee with
  | .builtin b=>bif isRec b then(match dD fr cs H with
   | some c'=>K c'
   | none=>False)else dY X.P (Bc X fr.tmps) o H fun v H'=>M7 fr v cs H' K
  | .value f=>QZ X pf (Bc X fr.tmps f) (c.args.toList.map (Bc X fr.tmps)) fr cs H K
  | _=>False
 | .defer _=>match It X o fr cs H with
  | some c'=>K c'
  | none=>False
 | _=>dY X.P (Bc X fr.tmps) o H fun v H'=>M7 fr v cs H' K
noncomputable def P3 (ops:Array Oper) (o:Oper) (t:Tr Value) (Kt Kf:Prop):Prop:=
 match o.guard with
 | none=>Kt
 | some (j,want)=>match Fy ops j with
  | some d=>match look t d with
   | .bool b=>bif want then(bif b then Kt else Kf)else(bif b then Kf else Kt)
   | .tuple _=>Kf
   | _=>False
  | none=>Kf
noncomputable def cy (kind:CallKind) (v:Value) (cs:List AU) (H:AA) (K:Ay→Prop):Prop:=
 match cs with
 | []=>False
 | c::rest=>match kind with
  | .normal=>M7 c v rest H K
  | .deferred=>bif c.ret then K ⟨c,rest,H⟩else False
  | _=>False
noncomputable def TN (l:List PE):(List PE→Prop)→Prop:=
 List.rec (motive:=fun _=>(List PE→Prop)→Prop) (fun k=>k []) (fun e _ ih k=>match e with
  | .op i ⟨d,op,ty,pos,af,g⟩=>Nat.rec (motive:=fun _=>Prop) (ih fun r=>k (.op 0 ⟨d,op,ty,pos,af,g⟩::r)) (fun j _=>ih fun r=>k (.op (j+1) ⟨d,op,ty,pos,af,g⟩::r)) i
  | .Mw i ⟨d,op,ty,pos,af,g⟩=>Nat.rec (motive:=fun _=>Prop) (ih fun r=>k (.Mw 0 ⟨d,op,ty,pos,af,g⟩::r)) (fun j _=>ih fun r=>k (.Mw (j+1) ⟨d,op,ty,pos,af,g⟩::r)) i) l
theorem Fi:∀(l:List PE) (k:List PE→Prop),TN l k=k l
 | [],_=>rfl
 | .op 0 o::r,k=>Fi r fun r=>k (.op 0 o::r)
 | .op (j+1) o::r,k=>Fi r fun r=>k (.op (j+1) o::r)
 | .Mw 0 o::r,k=>Fi r fun r=>k (.Mw 0 o::r)
 | .Mw (j+1) o::r,k=>Fi r fun r=>k (.Mw (j+1) o::r)
noncomputable def Gi (X:Ctx) (pf:Pf) (c:Ay) (K:Ay→Prop):Prop:=
 match c with
 | ⟨⟨fn,t,n,todo,ds,r,kd,rd⟩,cs,H⟩=>
  bif r then
   match ds with
   | []=>match Fg X fn t H with
    | some v=>cy kd v cs H K
    | none=>False
   | _::_=>match Jp X ⟨fn,t,n,todo,ds,r,kd,rd⟩ cs H with
    | some c'=>K c'
    | none=>False
  else
  match todo with
  | .G0 ops (o::_)::_=>P3 ops o t (Sl X pf o ⟨fn,t,n,todo,ds,r,kd,rd⟩ cs H K) (M7 ⟨fn,t,n,todo,ds,r,kd,rd⟩ Go.undef cs H K)
  | .DW ops (.op _ o::_)::_=>P3 ops o t (Sl X pf o ⟨fn,t,n,todo,ds,r,kd,rd⟩ cs H K) (M7 ⟨fn,t,n,todo,ds,r,kd,rd⟩ Go.undef cs H K)
  | .DW ops (.Mw _ o::rest)::k=>P3 ops o t
   (match o.dst with
    | some d=>dY X.P (Bc X t) o H fun v _=>v=look t d∧K ⟨⟨fn,t,n,.DW ops rest::k,ds,r,kd,rd⟩,cs,H⟩
    | none=>False)
   (K ⟨⟨fn,t,n,.DW ops rest::k,ds,r,kd,rd⟩,cs,H⟩)
  | .code (.cond c a b)::k=>match Bc X t c with
   | .bool x=>bif x then K ⟨⟨fn,t,n,.code a::k,ds,r,kd,rd⟩,cs,H⟩else K ⟨⟨fn,t,n,.code b::k,ds,r,kd,rd⟩,cs,H⟩
   | _=>False
  | .code (.region _ ops true)::k=>match X.Bh ops with
   | some p=>TN p fun p=>K ⟨⟨fn,t,n,.DW ops p::k,ds,r,kd,rd⟩,cs,H⟩
   | none=>False
  | .code (.rangeFunc f params assign body)::k=>
   match rd with
   | some l=>match H.get l with
    | some (.loop q)=>
     QZ X pf (Bc X t f) [.func (.yield H.next) ⟨[]⟩ ⟨[]⟩] ⟨fn,t,n,.inRangeFunc H.next::k,ds,r,kd,rd⟩ cs
      (H.alloc (.loop ⟨.ready,none,fn,t,n,params,assign,body,q.defers⟩)) K
    | _=>False
   | none=>
    QZ X pf (Bc X t f) [.func (.yield (H.next+1)) ⟨[]⟩ ⟨[]⟩] ⟨fn,t,n,.inRangeFunc (H.next+1)::k,{ target:= .collected H.next,args:=⟨[]⟩ }::ds,r,kd,rd⟩ cs
     ((H.alloc (.deferred (some []))).alloc (.loop ⟨.ready,none,fn,t,n,params,assign,body,H.next⟩)) K
  | _=>match DQ X ⟨⟨fn,t,n,todo,ds,r,kd,rd⟩,cs,H⟩with
   | some c'=>K c'
   | none=>False
section
variable {X:Ctx}
theorem Ox {f:AU} {v:Value} {cs:List AU} {H:AA} {K:Ay→Prop} (h:Vl f v cs H K):∃f',Bg f v=some f'∧K ⟨f',cs,H⟩:=by
 rw[SY]
 obtain⟨fn,t,n,todo,ds,r,kd,rd⟩:=f
 unfold Vl at h
 simp only at h
 split at h
 ·rename_i ops o rest k
  split at h
  ·rename_i d e
   cases hb:Nat.blt d n
   ·simp[hb]at h
   ·simp only[hb,cond_true,OF]at h
    exact⟨_,by simp only[H7,e,hb,cond_true],h⟩
  ·rename_i e;exact⟨_,by simp only[H7,e],h⟩
 ·rename_i ops i o rest k
  split at h
  ·rename_i d e
   cases hb:Nat.blt d n
   ·simp[hb]at h
   ·simp only[hb,cond_true,OF]at h
    exact⟨_,by simp only[H7,e,hb,cond_true],h⟩
  ·rename_i e;exact⟨_,by simp only[H7,e],h⟩
 ·split at h
  ·rename_i f' e;exact⟨f',e,h⟩
  ·cases h
theorem H5 {f:AU} {v:Value} {cs:List AU} {H:AA} {K:Ay→Prop} (h:M7 f v cs H K):∃f',Bg f v=some f'∧K ⟨f',cs,H⟩:=by
 unfold M7 at h
 split at h
 ·rename_i b
  cases b
  ·exact Ox h
  ·exact Ox h
 ·exact Ox h
theorem Ma {f:FuncId} {args:List Value} {kind:CallKind} {fr:AU} {cs:List AU} {H:AA} {K:Ay→Prop} (h:Kz X f args kind fr cs H K):∃c',Fz X f args kind fr cs H=some c'∧K c':=by
 unfold Kz at h
 cases hi:Bp X f args kind H with
 | some p=>
  obtain⟨v,H'⟩:=p
  simp only[hi]at h
  obtain⟨f',e1,e2⟩:=H5 h
  exact⟨_,by unfold Fz;simp only[hi,e1],e2⟩
 | none=>
  simp only[hi]at h
  cases he:entry X.P f with
  | some p=>
   obtain⟨n,c⟩:=p
   simp only[he]at h
   cases hb:Nat.ble args.length n
   ·simp[hb]at h
   ·simp only[hb,cond_true,QH]at h
    exact⟨_,by unfold Fz;simp only[hi,he,hb,cond_true],h⟩
  | none=>
   simp only[he]at h
   split at h
   ·rename_i c' e;exact⟨c',e,h⟩
   ·cases h
theorem VL {pf:Pf} (hpf:FD X pf) {f:FuncId} {args:List Value} {kind:CallKind} {fr:AU} {cs:List AU} {H:AA} {K:Ay→Prop} (h:Sd X pf f args kind fr cs H K):∃c',Fz X f args kind fr cs H=some c'∧K c':=by
 unfold Sd at h
 split at h
 ·rename_i F hF
  split at h
  ·obtain⟨v,H',e1,e2⟩:=hpf f F hF _ _ _ h
   obtain⟨f',e3,e4⟩:=H5 e2
   exact⟨_,by unfold Fz;simp only[e1,e3],e4⟩
  ·exact Ma h
 ·exact Ma h
theorem MC {pf:Pf} (hpf:FD X pf) {f:Value} {args:List Value} {fr:AU} {cs:List AU} {H:AA} {K:Ay→Prop} (h:QZ X pf f args fr cs H K):∃c',Jc X f args fr cs H=some c'∧K c':=by
 unfold QZ at h
 split at h
 ·obtain⟨c',e1,e2⟩:=VL hpf h
  exact⟨c',by unfold Jc;exact e1,e2⟩
 ·split at h
  ·rename_i c' e;exact⟨c',e,h⟩
  ·cases h
theorem Qm {pf:Pf} (hpf:FD X pf) {o:Oper} {fr:AU} {cs:List AU} {H:AA} {K:Ay→Prop} (h:Sl X pf o fr cs H K):∃c',It X o fr cs H=some c'∧K c':=by
 have key:dY X.P (Bc X fr.tmps) o H (fun v H'=>M7 fr v cs H' K)→∃v H' f',JF X.P (Bc X fr.tmps) o H=some (v,H')∧Bg fr v=some f'∧K ⟨f',cs,H'⟩:=by
  intro h
  obtain⟨v,H',e1,e2⟩:=VV h
  obtain⟨f',e3,e4⟩:=H5 e2
  exact⟨v,H',f',e1,e3,e4⟩
 unfold Sl at h
 unfold It
 cases ho:o.op
 case call c=>
  simp only[ho]at h ⊢
  cases hc:c.callee with
  | builtin b=>
   simp only[hc]at h ⊢
   cases hb:isRec b
   ·simp only[hb,cond_false]at h ⊢
    obtain⟨v,H',f',e1,e2,e3⟩:=key h
    exact⟨_,by simp only[e1,e2],e3⟩
   ·simp only[hb,cond_true]at h ⊢
    split at h
    ·rename_i c' e;exact⟨c',e,h⟩
    ·cases h
  | value f=>simp only[hc]at h ⊢;exact MC hpf h
  | invoke r m=>simp only[hc]at h
 case defer c=>
  simp only[ho]at h
  split at h
  ·rename_i c' e
   refine⟨c',?_,h⟩
   unfold It at e
   simp only[ho]at e ⊢
   exact e
  ·cases h
 all_goals
  simp only[ho]at h ⊢
  obtain⟨v,H',f',e1,e2,e3⟩:=key h
  exact⟨_,by simp only[e1,e2],e3⟩
theorem Li {ops:Array Oper} {o:Oper} {t:Tr Value} {Kt Kf:Prop} (h:P3 ops o t Kt Kf):(CS ops o t=some true∧Kt)∨(CS ops o t=some false∧Kf):=by
 unfold P3 at h
 unfold CS
 split at h
 ·rename_i e;exact .inl ⟨by simp only[e],h⟩
 ·rename_i j want e
  split at h
  ·rename_i d e1
   split at h
   ·rename_i b e2
    cases want<;>cases b<;>simp only[cond_true,cond_false]at h<;>simp[e,e1,e2,h]
   ·rename_i e2;exact .inr ⟨by simp only[e,e1,e2],h⟩
   ·cases h
  ·rename_i e1;exact .inr ⟨by simp only[e,e1],h⟩
theorem ZL {kind:CallKind} {v:Value} {cs:List AU} {H:AA} {K:Ay→Prop} (h:cy kind v cs H K):∃c',F5 kind v cs H=some c'∧K c':=by
 unfold cy at h
 unfold F5
 split at h
 ·cases h
 ·cases kind<;>simp only at h ⊢
  ·obtain⟨f',e1,e2⟩:=H5 h
   exact⟨_,by simp only[e1],e2⟩
  ·rename_i c rest
   cases hr:c.ret
   ·simp[hr]at h
   ·simp only[hr,cond_true]at h ⊢;exact⟨_,rfl,h⟩
  all_goals cases h
theorem UP {pf:Pf} (hpf:FD X pf) {c:Ay} {K:Ay→Prop} (h:Gi X pf c K):∃c',ML X c c'∧K c':=by
 obtain⟨⟨fn,t,n,todo,ds,r,kd,rd⟩,cs,H⟩:=c
 have fall:(match DQ X ⟨⟨fn,t,n,todo,ds,r,kd,rd⟩,cs,H⟩with | some c'=>K c' | none=>False)→∃c',ML X ⟨⟨fn,t,n,todo,ds,r,kd,rd⟩,cs,H⟩ c'∧K c':=by
  intro h
  split at h
  ·rename_i c' e;exact⟨c',.step e,h⟩
  ·cases h
 unfold Gi at h
 simp only at h
 cases r with
 | true=>
  simp only[cond_true]at h
  split at h
  ·split at h
   ·rename_i v e
    obtain⟨c',e1,e2⟩:=ZL h
    refine⟨c',.step ?_,e2⟩
    unfold DQ Jp
    simp only[cond_true,e,e1]
   ·cases h
  ·split at h
   ·rename_i c' e
    refine⟨c',.step ?_,h⟩
    unfold DQ
    simp only[cond_true];exact e
   ·cases h
 | false=>
  simp only[cond_false]at h
  split at h
  ·rename_i ops o l k
   rcases Li h with⟨hw,h⟩ | ⟨hw,h⟩
   ·obtain⟨c',e1,e2⟩:=Qm hpf h
    refine⟨c',.step ?_,e2⟩
    unfold DQ
    simp only[cond_false,hw];exact e1
   ·obtain⟨f',e1,e2⟩:=H5 h
    refine⟨_,.step ?_,e2⟩
    unfold DQ
    simp only[cond_false,hw,e1]
  ·rename_i ops i o l k
   rcases Li h with⟨hw,h⟩ | ⟨hw,h⟩
   ·obtain⟨c',e1,e2⟩:=Qm hpf h
    refine⟨c',.step ?_,e2⟩
    unfold DQ
    simp only[cond_false,hw];exact e1
   ·obtain⟨f',e1,e2⟩:=H5 h
    refine⟨_,.step ?_,e2⟩
    unfold DQ
    simp only[cond_false,hw,e1]
  ·rename_i ops j o rest k
   rcases Li h with⟨hw,h⟩ | ⟨hw,h⟩
   ·split at h
    ·rename_i d hd
     obtain⟨v,H',e1,e2,e3⟩:=VV h
     exact⟨_,.Mw fun _=>⟨d,H',hd,by rw[e1,e2]⟩,e3⟩
    ·cases h
   ·exact⟨_,.Mw fun hw2=>(by rw[hw]at hw2;cases hw2),h⟩
  ·rename_i cnd a b k
   split at h
   ·rename_i x e
    cases x
    ·refine⟨_,.step ?_,h⟩
     unfold DQ
     simp only[cond_false,e]
    ·refine⟨_,.step ?_,h⟩
     unfold DQ
     simp only[cond_false,cond_true,e]
   ·cases h
  ·rename_i ops k
   split at h
   ·rename_i p e
    rw[Fi]at h
    refine⟨_,.step ?_,h⟩
    unfold DQ
    simp only[cond_false,e]
   ·cases h
  ·rename_i f params assign body k
   split at h
   ·rename_i l
    split at h
    ·rename_i q e
     obtain⟨c',e1,e2⟩:=MC hpf h
     refine⟨c',.step ?_,e2⟩
     unfold DQ
     simp only[cond_false,e];exact e1
    ·cases h
   ·obtain⟨c',e1,e2⟩:=MC hpf h
    refine⟨c',.step ?_,e2⟩
    unfold DQ
    simp only[cond_false];exact e1
  ·exact fall h
def Af:Nat→Value→List Nat
 | 0,_=>[]
 | n+1,v=>match v with
  | .pointer (some a)=>[a.block]
  | .slice (some a) _ _=>[a.block]
  | .map (some b)=>[b]
  | .agg cs=>cs.toList.flatMap (Af n)
  | .tuple cs=>cs.toList.flatMap (Af n)
  | .iface _ v=>Af n v
  | .func _ a b=>a.toList.flatMap (Af n)++b.toList.flatMap (Af n)
  | _=>[]
noncomputable def Gv (X:Ctx) (pf:Pf) (f:FuncId) (ids:List Nat) (Q:Value→List (Option AJ)→Prop) (n:Nat):Ay→Prop:=
 Nat.rec (motive:=fun _=>Ay→Prop) (fun _=>False) (fun _ ih c=>match EX X f c with
  | some (v,H)=>Q v ((ids++Af 4 v).map H.get)
  | none=>Gi X pf c ih) n
noncomputable def Cv:Pf:=fun _=>none
theorem Av (X:Ctx):FD X Cv:=fun _ _ h=>by cases h
theorem Hl {pf:Pf} (hpf:FD X pf) {c:Ay} {K:Ay→Prop} (h:Gi X pf c K):Reach X c K:=let ⟨_,h1,h2⟩:=UP hpf h;h1.reach h2
def B8 (X:Ctx) (f:FuncId) (Q:Value→AA→Prop) (c:Ay):Prop:=Reach X c fun c'=>∃v H,EX X f c'=some (v,H)∧Q v H
theorem B6 {pf:Pf} (hpf:FD X pf) {f:FuncId} {ids:List Nat} {Q:Value→List (Option AJ)→Prop}:∀(n:Nat) (c:Ay),Gv X pf f ids Q n c→B8 X f (fun v H=>Q v ((ids++Af 4 v).map H.get)) c:=by
 intro n
 induction n with
 | zero=>intro c h;cases h
 | succ n ih=>
  intro c h
  have h:(match EX X f c with
   | some (v,H)=>Q v ((ids++Af 4 v).map H.get)
   | none=>Gi X pf c (Gv X pf f ids Q n)):=h
  split at h
  ·rename_i v H e;exact .here ⟨v,H,e,h⟩
  ·exact(Hl hpf h).bind fun c' hc=>ih c' hc
end
end Go.AD

namespace Go.AD
abbrev Ren:=Nat→Option Nat
def Cz (f:Value→Option Value):List Value→Option (List Value)
 | []=>some []
 | v::l=>match f v,Cz f l with
  | some w,some m=>some (w::m)
  | _,_=>none
def ON (ρ:Ren):Addr→Option Addr
 | ⟨b,o,s⟩=>match ρ b with
  | some i=>some ⟨i,o,s⟩
  | none=>none
def Bl (ρ:Ren):Nat→Value→Option Value
 | 0,_=>none
 | n+1,v=>match v with
  | .bool b=>some (.bool b)
  | .int k m=>some (.int k m)
  | .float k m=>some (.float k m)
  | .string s=>some (.string s)
  | .pointer none=>some (.pointer none)
  | .pointer (some a)=>(ON ρ a).map fun a=> .pointer (some a)
  | .slice none l c=>some (.slice none l c)
  | .slice (some a) l c=>(ON ρ a).map fun a=> .slice (some a) l c
  | .map none=>some (.map none)
  | .map (some b)=>(ρ b).map fun b=> .map (some b)
  | .nilFunc=>some .nilFunc
  | .nilIface=>some .nilIface
  | .iface t v=>(Bl ρ n v).map fun v=> .iface t v
  | .agg cs=>(Cz (Bl ρ n) cs.toList).map fun l=> .agg ⟨l⟩
  | .tuple cs=>(Cz (Bl ρ n) cs.toList).map fun l=> .tuple ⟨l⟩
  | .func (.func f) xs ys=>match Cz (Bl ρ n) xs.toList,Cz (Bl ρ n) ys.toList with
   | some a,some b=>some (.func (.func f) ⟨a⟩ ⟨b⟩)
   | _,_=>none
  | .chan (some 0)=>some (.chan (some 0))
  | _=>none
abbrev EG (ρ:Ren) (v:Value):Option Value:=Bl ρ 6 v
section
variable {ρ:Ren} {μ ν:Ah}
theorem Fb {f:Value→Option Value} (hf:∀v v1 v',f v=some v1→AH μ v v'→AH ν v1 v'):∀(l l1 l':List Value),Cz f l=some l1→Aq μ l l'→Aq ν l1 l'
 | [],_,_,h,hl=>by cases h;cases hl;exact .nil
 | v::l,l1,_,h,hl=>by
  cases hl with
  | cons h1 h2=>
   simp only[Cz]at h
   split at h
   ·rename_i w m e1 e2
    cases h
    exact .cons (hf _ _ _ e1 h1) (Fb hf l m _ e2 h2)
   ·cases h
theorem E2 {f:Value→Option Value} (hf:∀v v1 v',f v=some v1→AH ν v1 v'→AH μ v v'):∀(l l1 l':List Value),Cz f l=some l1→Aq ν l1 l'→Aq μ l l'
 | [],_,_,h,hl=>by cases h;cases hl;exact .nil
 | v::l,l1,l',h,hl=>by
  simp only[Cz]at h
  split at h
  ·rename_i w m e1 e2
   cases h
   cases hl with
   | cons h1 h2=>exact .cons (hf _ _ _ e1 h1) (E2 hf l m _ e2 h2)
  ·cases h
theorem Di {a a1:Addr} (h:ON ρ a=some a1):∃b o s i,a=⟨b,o,s⟩∧ρ b=some i∧a1=⟨i,o,s⟩:=by
 obtain⟨b,o,s⟩:=a
 unfold ON at h
 simp only at h
 split at h
 ·rename_i i e;cases h;exact⟨b,o,s,i,rfl,e,rfl⟩
 ·cases h
theorem Oi (hρ:∀b i T,ρ b=some i→μ b=some T→ν i=some T):∀(n:Nat) (v v1 v':Value),Bl ρ n v=some v1→AH μ v v'→AH ν v1 v':=by
 intro n
 induction n with
 | zero=>intro v v1 v' h;cases h
 | succ n ih=>
  intro v v1 v' h hr
  cases hr with
  | A5=>simp only[Bl,A5,Option.some.injEq]at h;subst h;exact .A5 _
  | bool b=>cases h;exact .bool b
  | int k m=>cases h;exact .int k m
  | float k m=>cases h;exact .float k m
  | string s=>cases h;exact .string s
  | F0=>cases h;exact .F0
  | Bu l c=>cases h;exact .Bu l c
  | Fx=>cases h;exact .Fx
  | nilFunc=>cases h;exact .nilFunc
  | nilIface=>cases h;exact .nilIface
  | ptr b o T hm=>
   simp only[Bl,Option.map_eq_some_iff]at h
   obtain⟨a,ha,rfl⟩:=h
   obtain⟨b1,o1,s1,i,e1,e2,rfl⟩:=Di ha
   cases e1
   exact .ptr i o T (hρ _ _ _ e2 hm)
  | GC b o j T hm=>
   simp only[Bl,Option.map_eq_some_iff]at h
   obtain⟨a,ha,rfl⟩:=h
   obtain⟨b1,o1,s1,i,e1,e2,rfl⟩:=Di ha
   cases e1
   exact .GC i o j T (hρ _ _ _ e2 hm)
  | slice b o l c c' o' T hm hc ho=>
   simp only[Bl,Option.map_eq_some_iff]at h
   obtain⟨a,ha,rfl⟩:=h
   obtain⟨b1,o1,s1,i,e1,e2,rfl⟩:=Di ha
   cases e1
   exact .slice i o l c c' o' T (hρ _ _ _ e2 hm) hc ho
  | Bt b j l c c' o' T hm hc ho hr=>
   simp only[Bl,Option.map_eq_some_iff]at h
   obtain⟨a,ha,rfl⟩:=h
   obtain⟨b1,o1,s1,i,e1,e2,rfl⟩:=Di ha
   cases e1
   exact .Bt i j l c c' o' T (hρ _ _ _ e2 hm) hc ho hr
  | DC b j c T z hm hc=>
   simp only[Bl,Option.map_eq_some_iff]at h
   obtain⟨a,ha,rfl⟩:=h
   obtain⟨b1,o1,s1,i,e1,e2,rfl⟩:=Di ha
   cases e1
   exact .DC i j c T z (hρ _ _ _ e2 hm) hc
  | Cl b j l c c' o' T M hm hm2 hc ho hr=>
   simp only[Bl,Option.map_eq_some_iff]at h
   obtain⟨a,ha,rfl⟩:=h
   obtain⟨b1,o1,s1,i,e1,e2,rfl⟩:=Di ha
   cases e1
   exact .Cl i j l c c' o' T M (hρ _ _ _ e2 hm) hm2 hc ho hr
  | Fe b j c T z hm hc=>
   simp only[Bl,Option.map_eq_some_iff]at h
   obtain⟨a,ha,rfl⟩:=h
   obtain⟨b1,o1,s1,i,e1,e2,rfl⟩:=Di ha
   cases e1
   exact .Fe i j c T z (hρ _ _ _ e2 hm) hc
  | map b T hm=>
   simp only[Bl,Option.map_eq_some_iff]at h
   obtain⟨i,hi,rfl⟩:=h
   exact .map i T (hρ _ _ _ hi hm)
  | iface t a a' ha=>
   simp only[Bl,Option.map_eq_some_iff]at h
   obtain⟨w,hw,rfl⟩:=h
   exact .iface t w a' (ih _ _ _ hw ha)
  | agg xs xs' hx ex=>
   obtain⟨ys,he,hl⟩:=AH.CT.1 (.agg xs xs' hx ex)
   cases he
   simp only[Bl,Option.map_eq_some_iff]at h
   obtain⟨l,hl1,rfl⟩:=h
   exact AH.CT.2 ⟨_,rfl,Fb ih _ _ _ hl1 hl⟩
  | tuple xs xs' hx ex=>
   obtain⟨ys,he,hl⟩:=AH.Bf.1 (.tuple xs xs' hx ex)
   cases he
   simp only[Bl,Option.map_eq_some_iff]at h
   obtain⟨l,hl1,rfl⟩:=h
   exact AH.Bf.2 ⟨_,rfl,Fb ih _ _ _ hl1 hl⟩
  | func fn fn' xs xs' ys ys' hf hx ex hy ey=>
   obtain⟨fn2,xs2,ys2,he,hf2,EB,hy2⟩:=AH.CC.1 (.func fn fn' xs xs' ys ys' hf hx ex hy ey)
   cases he
   cases hf2 with
   | func f=>
    simp only[Bl]at h
    split at h
    ·rename_i a b e1 e2
     cases h
     exact AH.CC.2 ⟨_,_,_,rfl,.func f,Fb ih _ _ _ e1 EB,Fb ih _ _ _ e2 hy2⟩
    ·cases h
   | _=>simp[Bl]at h
theorem On (hρ:∀b i T,ρ b=some i→ν i=some T→μ b=some T):∀(n:Nat) (v v1 v':Value),Bl ρ n v=some v1→AH ν v1 v'→AH μ v v':=by
 intro n
 induction n with
 | zero=>intro v v1 v' h;cases h
 | succ n ih=>
  intro v v1 v' h hr
  unfold Bl at h
  split at h
  ·cases h;cases hr;exact .bool _
  ·cases h;cases hr;exact .int _ _
  ·cases h;cases hr;exact .float _ _
  ·cases h;cases hr;exact .string _
  ·cases h;cases hr;exact .F0
  ·simp only[Option.map_eq_some_iff]at h
   obtain⟨a,ha,rfl⟩:=h
   obtain⟨b1,o1,s1,i,rfl,e2,rfl⟩:=Di ha
   cases hr with
   | ptr _ _ T hm=>exact .ptr b1 _ T (hρ _ _ _ e2 hm)
   | GC _ _ j T hm=>exact .GC b1 _ j T (hρ _ _ _ e2 hm)
  ·cases h;cases hr;exact .Bu _ _
  ·simp only[Option.map_eq_some_iff]at h
   obtain⟨a,ha,rfl⟩:=h
   obtain⟨b1,o1,s1,i,rfl,e2,rfl⟩:=Di ha
   cases hr with
   | slice _ _ _ _ c' o' T hm hc ho=>exact .slice b1 _ _ _ c' o' T (hρ _ _ _ e2 hm) hc ho
   | Bt _ j _ _ c' o' T hm hc ho hr=>exact .Bt b1 j _ _ c' o' T (hρ _ _ _ e2 hm) hc ho hr
   | DC _ j _ T z hm hc=>exact .DC b1 j _ T z (hρ _ _ _ e2 hm) hc
   | Cl _ j _ _ c' o' T M hm hm2 hc ho hr=>exact .Cl b1 j _ _ c' o' T M (hρ _ _ _ e2 hm) hm2 hc ho hr
   | Fe _ j _ T z hm hc=>exact .Fe b1 j _ T z (hρ _ _ _ e2 hm) hc
  ·cases h;cases hr;exact .Fx
  ·simp only[Option.map_eq_some_iff]at h
   obtain⟨i,hi,rfl⟩:=h
   cases hr with
   | map _ T hm=>exact .map _ T (hρ _ _ _ hi hm)
  ·cases h;cases hr;exact .nilFunc
  ·cases h;cases hr;exact .nilIface
  ·simp only[Option.map_eq_some_iff]at h
   obtain⟨w,hw,rfl⟩:=h
   cases hr with
   | iface _ _ a' ha=>exact .iface _ _ a' (ih _ _ _ hw ha)
  ·simp only[Option.map_eq_some_iff]at h
   obtain⟨l,hl,rfl⟩:=h
   obtain⟨ys,rfl,hl2⟩:=AH.CT.1 hr
   exact AH.CT.2 ⟨_,rfl,E2 ih _ _ _ hl hl2⟩
  ·simp only[Option.map_eq_some_iff]at h
   obtain⟨l,hl,rfl⟩:=h
   obtain⟨ys,rfl,hl2⟩:=AH.Bf.1 hr
   exact AH.Bf.2 ⟨_,rfl,E2 ih _ _ _ hl hl2⟩
  ·split at h
   ·rename_i a b e1 e2
    cases h
    obtain⟨fn2,xs2,ys2,rfl,hf2,EB,hy2⟩:=AH.CC.1 hr
    cases hf2
    exact AH.CC.2 ⟨_,_,_,rfl,.func _,E2 ih _ _ _ e1 EB,E2 ih _ _ _ e2 hy2⟩
   ·cases h
  ·exact .A5 _
  ·cases h
def HP:SK→Bool
 | .tok=>false
 | _=>true
theorem Gh (l:List (EK.C [.tok])):Ar [.tok] l=l:=by
 induction l with
 | nil=>rfl
 | cons x l ih=>rw[Cb,ih];rfl
def BR (ρ:Ren):AJ→Option AJ
 | .cells cs e ro=>(Cz (EG ρ) cs).map fun l=> .cells l e ro
 | .vec [.tok] l ro=>(Cz (EG ρ) l).map fun l=> .vec [.tok] l ro
 | .vec k l ro=>bif k.all HP then some (.vec k l ro)else none
 | .abs a ro=>bif a.Ff then some (.abs a ro)else none
 | _=>none
theorem G5 {ρ:Ren}:∀(k:EK) (_:k.all HP=true) (l:List (EK.C k)) (ro:Bool),BR ρ (.vec k l ro)=some (.vec k l ro)
 | [],_,_,_=>rfl
 | [.tok],hk,_,_=>by cases hk
 | [.int _],_,_,_=>rfl
 | [.bool],_,_,_=>rfl
 | [.str],_,_,_=>rfl
 | s::t::r,hk,l,ro=>by
  cases s with
  | tok=>cases hk
  | _=>show(bif List.all _ HP then some (AJ.vec _ l ro)else none)=_;rw[hk];rfl
theorem LM {ρ:Ren} {k:EK} {l:List (EK.C k)} {ro:Bool} {o1:AJ} (h:BR ρ (.vec k l ro)=some o1):
 (∃l' l1:List (EK.C [.tok]),(⟨k,l⟩:(k:EK) × List (EK.C k))=⟨[.tok],l'⟩∧Cz (EG ρ) l'=some l1∧o1= .vec [.tok] l1 ro)∨(k.all HP=true∧o1= .vec k l ro):=by
 unfold BR at h
 split at h
 ·rename_i heq;cases heq
 ·rename_i l2 ro2 he
  cases he
  simp only[Option.map_eq_some_iff]at h
  obtain⟨l1,hl,rfl⟩:=h
  exact .inl ⟨l2,l1,rfl,hl,rfl⟩
 ·rename_i k2 l2 ro2 hne he
  injection he with e1 e2 e3
  subst e1
  cases e2
  subst e3
  cases hk:k.all HP
  ·simp[hk]at h
  ·simp only[hk,cond_true,Option.some.injEq]at h
   exact .inr ⟨rfl,h.symm⟩
 ·rename_i heq;cases heq
 ·cases h
theorem MP {ρ:Ren} {l l1:List (EK.C [.tok])} {ro:Bool} (h:Cz (EG ρ) l=some l1):BR ρ (.vec [.tok] l ro)=some (.vec [.tok] l1 ro):=by
 show(Cz (EG ρ) l).map _=_
 rw[h];rfl
theorem EA {f:Value→Option Value}:∀(l l1:List Value),Cz f l=some l1→l1.length=l.length
 | [],_,h=>by cases h;rfl
 | v::l,l1,h=>by
  simp only[Cz]at h
  split at h
  ·rename_i w m e1 e2;cases h;simp[EA l m e2]
  ·cases h
theorem SK.FA (s:SK) (hs:HP s=true) (x:s.C):flat (s.enc x)=true:=by
 cases s<;>first | rfl | cases hs
theorem EK.FA:∀(k:EK),k.all HP=true→∀(x:EK.C k),∀v∈EK.enc k x,flat v=true
 | [],_,_,v,h=>by cases h
 | [s],hk,x,v,h=>by
  simp only[EK.enc,List.mem_singleton]at h
  subst h
  exact SK.FA s (by simpa using hk) x
 | s::t::r,hk,x,v,h=>by
  simp only[EK.enc,List.mem_cons]at h
  simp only[List.all_cons,Bool.and_eq_true]at hk
  rcases h with rfl | h
  ·exact SK.FA s hk.1 _
  ·exact EK.FA (t::r) (by simpa using hk.2) x.2 v (by simpa using h)
theorem KN:∀(l:List Value),(∀v∈l,flat v=true)→∀l',Aq μ l l'→Aq ν l l'
 | [],_,_,h=>by cases h;exact .nil
 | v::l,hf,_,h=>by
  cases h with
  | cons h1 h2=>
   have:=FU (hf v (by simp)) h1
   subst this
   exact .cons (Cc (hf _ (by simp))) (KN l (fun w hw=>hf w (by simp[hw])) _ h2)
theorem Nt {k:EK} (hk:k.all HP=true) (l:List (EK.C k)):∀v∈Ar k l,flat v=true:=by
 intro v hv
 simp only[Ar,List.mem_flatMap]at hv
 obtain⟨x,_,hx⟩:=hv
 exact EK.FA k hk x v hx
theorem Qk (hρ:∀b i T,ρ b=some i→μ b=some T→ν i=some T) {o o1:AJ} {T:CN} {o':Obj} (h:BR ρ o=some o1) (hr:CZ μ T o o'):CZ ν T o1 o':=by
 unfold BR at h
 split at h
 ·simp only[Option.map_eq_some_iff]at h
  obtain⟨l,hl,rfl⟩:=h
  cases hr with
  | cells _ _ _ c t lo hi he hc hr hf=>
   have:=EA _ _ hl
   exact .cells T l _ _ c t lo hi he (by rw[this];exact Fb (Oi hρ 6) _ _ _ hl hc) hr hf
 ·rename_i l ro
  simp only[Option.map_eq_some_iff]at h
  obtain⟨l1,hl,rfl⟩:=h
  have hl:Cz (EG ρ) l=some l1:=hl
  cases hr with
  | vec _ _ _ _ hc=>
   refine .vec T [.tok] l1 ro _ ?_
   rw[Gh]at hc ⊢
   cases hc with
   | cells _ _ _ c t lo hi he hc hr hf=>
    have:=EA _ _ hl
    exact .cells T l1 _ _ c t lo hi he (by rw[this];exact Fb (Oi hρ 6) _ _ _ hl hc) hr hf
  | FC _ _ _ he hr hk=>cases hl;exact .FC T _ _ _ he hr hk
 ·rename_i k l ro _
  cases hk:k.all HP
  ·simp[hk]at h
  ·simp only[hk,cond_true,Option.some.injEq]at h
   subst h
   cases hr with
   | vec _ _ _ _ hc=>cases hc with
    | cells _ _ _ c t lo hi he hc hr hf=>exact .vec T _ _ _ _ (.cells T _ _ _ c t lo hi he (KN _ (Nt hk l) _ hc) hr hf)
   | FC _ _ _ he hr hk=>exact .FC T _ _ _ he hr hk
 ·rename_i a ro
  cases hx:a.Ff
  ·simp[hx]at h
  ·simp only[hx,cond_true,Option.some.injEq]at h
   subst h;cases hr;exact .abs T _ _ _
 ·cases h
theorem Ls (hρ:∀b i T,ρ b=some i→ν i=some T→μ b=some T) {o o1:AJ} {T:CN} {o':Obj} (h:BR ρ o=some o1) (hr:CZ ν T o1 o'):CZ μ T o o':=by
 unfold BR at h
 split at h
 ·simp only[Option.map_eq_some_iff]at h
  obtain⟨l,hl,rfl⟩:=h
  cases hr with
  | cells _ _ _ c t lo hi he hc hr hf=>
   have:=EA _ _ hl
   exact .cells T _ _ _ c t lo hi he (by rw[←this];exact E2 (On hρ 6) _ _ _ hl hc) hr hf
 ·rename_i l ro
  simp only[Option.map_eq_some_iff]at h
  obtain⟨l1,hl,rfl⟩:=h
  have hl:Cz (EG ρ) l=some l1:=hl
  have hlen:=EA _ _ hl
  cases hr with
  | vec _ _ _ _ hc=>
   refine .vec T [.tok] l ro _ ?_
   rw[Gh]at hc ⊢
   cases hc with
   | cells _ _ _ c t lo hi he hc hr hf=>
    exact .cells T _ _ _ c t lo hi he (by rw[←hlen];exact E2 (On hρ 6) _ _ _ hl hc) hr hf
  | FC _ _ _ he hr hk=>
   have:l=[]:=List.eq_nil_of_length_eq_zero (by rw[←hlen];rfl)
   subst this
   exact .FC T _ _ _ he hr hk
 ·rename_i k l ro _
  cases hk:k.all HP
  ·simp[hk]at h
  ·simp only[hk,cond_true,Option.some.injEq]at h
   subst h
   cases hr with
   | vec _ _ _ _ hc=>cases hc with
    | cells _ _ _ c t lo hi he hc hr hf=>exact .vec T _ _ _ _ (.cells T _ _ _ c t lo hi he (KN _ (Nt hk l) _ hc) hr hf)
   | FC _ _ _ he hr hk=>exact .FC T _ _ _ he hr hk
 ·rename_i a ro
  cases hx:a.Ff
  ·simp[hx]at h
  ·simp only[hx,cond_true,Option.some.injEq]at h
   subst h;cases hr;exact .abs T _ _ _
 ·cases h
theorem DL {o o1:AJ} (h:BR ρ o=some o1):o1.ro=o.ro∧o1.isAbs=o.isAbs∧∀a ro,o1= .abs a ro→o= .abs a ro∧a.ext=[]:=by
 unfold BR at h
 split at h
 ·simp only[Option.map_eq_some_iff]at h
  obtain⟨l,hl,rfl⟩:=h
  exact⟨rfl,rfl,fun a ro e=>by cases e⟩
 ·rename_i l ro
  simp only[Option.map_eq_some_iff]at h
  obtain⟨l1,hl,rfl⟩:=h
  exact⟨rfl,rfl,fun a ro e=>by cases e⟩
 ·rename_i k l ro _
  cases hk:k.all HP
  ·simp[hk]at h
  ·simp only[hk,cond_true,Option.some.injEq]at h
   subst h
   exact⟨rfl,rfl,fun a ro e=>by cases e⟩
 ·rename_i a ro
  cases hx:a.Ff
  ·simp[hx]at h
  ·simp only[hx,cond_true,Option.some.injEq]at h
   subst h
   exact⟨rfl,rfl,fun a2 ro2 e=>by cases e;exact⟨rfl,AZ.Lw hx⟩⟩
 ·cases h
theorem Bo {o o1:AJ} (h:BR ρ o=some o1) (T:CN):o1.void T ↔ o.void T:=by
 unfold BR at h
 split at h
 ·simp only[Option.map_eq_some_iff]at h
  obtain⟨l,hl,rfl⟩:=h
  exact Iff.rfl
 ·rename_i l ro
  simp only[Option.map_eq_some_iff]at h
  obtain⟨l1,hl,rfl⟩:=h
  have hlen:=EA _ _ (show Cz (EG ρ) l=some l1 from hl)
  have e:l1=[] ↔ l=[]:=⟨fun e=>List.eq_nil_of_length_eq_zero (by rw[←hlen,e];rfl),fun e=>List.eq_nil_of_length_eq_zero (by rw[hlen,e];rfl)⟩
  exact and_congr e Iff.rfl
 ·rename_i k l ro _
  cases hk:k.all HP
  ·simp[hk]at h
  ·simp only[hk,cond_true,Option.some.injEq]at h
   subst h
   exact Iff.rfl
 ·rename_i a ro
  cases hx:a.Ff
  ·simp[hx]at h
  ·simp only[hx,cond_true,Option.some.injEq]at h
   subst h
   exact Iff.rfl
 ·cases h
end
end Go.AD

namespace Go.AD
def Z2 (Hc H H':AA) (ρ:Ren) (v vc:Value) (Hf:AA):Prop:=∃ρ':Ren,
 (∀b1 b2 i,ρ' b1=some i→ρ' b2=some i→b1=b2)∧(∀b,b < Hc.next→ρ' b=ρ b)∧(∀b i,ρ' b=some i→Hc.next≤b→H.next≤i∧i < H'.next)∧
 (∀i o,H'.get i=some o→(H.next≤i∨∃b o0,Hc.get b=some o0∧o0.ro=false∧ρ b=some i)→∃b o0,ρ' b=some i∧Hf.get b=some o0∧BR ρ' o0=some o∧o0.ro=false)∧
 EG ρ' vc=some v
end Go.AD

namespace Go.AD
abbrev Rn:=Nat→Option Nat
def V9 (ρ:Rn):Fn→Option Fn
 | .yield l=>(ρ l).map .yield
 | f=>some f
def RA (ρ:Rn):Nat→Value→Value
 | 0,_=>A5
 | n+1,v=>match v with
  | .pointer (some ⟨b,o,s⟩)=>match ρ b with
   | some i=> .pointer (some ⟨i,o,s⟩)
   | none=>A5
  | .slice (some ⟨b,o,s⟩) l c=>match ρ b with
   | some i=> .slice (some ⟨i,o,s⟩) l c
   | none=>A5
  | .map (some b)=>match ρ b with
   | some i=> .map (some i)
   | none=>A5
  | .iface t v=> .iface t (RA ρ n v)
  | .agg cs=> .agg ⟨cs.toList.map (RA ρ n)⟩
  | .tuple cs=> .tuple ⟨cs.toList.map (RA ρ n)⟩
  | .func f xs ys=>match V9 ρ f with
   | some f'=> .func f' ⟨xs.toList.map (RA ρ n)⟩ ⟨ys.toList.map (RA ρ n)⟩
   | none=>A5
  | v=>v
abbrev PF (ρ:Rn) (v:Value):Value:=RA ρ 8 v
section
variable {ρ:Rn} {μ ν:Ah}
theorem P9 (hρ:∀b i T,ρ b=some i→μ b=some T→ν i=some T) {f g f':Fn} (h:V9 ρ f=some g) (hr:F7 μ f f'):F7 ν g f':=by
 cases hr with
 | func f=>cases h;exact .func f
 | method n=>cases h;exact .method n
 | methodOf t n=>cases h;exact .methodOf t n
 | via t p f b=>cases h;exact .via t p f b
 | yield l T hm=>
  simp only[V9,Option.map_eq_some_iff]at h
  obtain⟨i,hi,rfl⟩:=h
  exact .yield i T (hρ _ _ _ hi hm)
theorem FM {f:Value→Value} (hf:∀v v',AH μ v v'→AH ν (f v) v'):∀{l l':List Value},Aq μ l l'→Aq ν (l.map f) l'
 | _,_,.nil=> .nil
 | _,_,.cons h t=> .cons (hf _ _ h) (FM hf t)
theorem Hz (hρ:∀b i T,ρ b=some i→μ b=some T→ν i=some T):∀(n:Nat) (v v':Value),AH μ v v'→AH ν (RA ρ n v) v':=by
 intro n
 induction n with
 | zero=>intro v v' _;exact .A5 _
 | succ n ih=>
  intro v v' hr
  cases hr with
  | A5=>exact .A5 _
  | bool b=>exact .bool b
  | int k m=>exact .int k m
  | float k m=>exact .float k m
  | string s=>exact .string s
  | F0=>exact .F0
  | Bu l c=>exact .Bu l c
  | Fx=>exact .Fx
  | nilFunc=>exact .nilFunc
  | nilIface=>exact .nilIface
  | ptr b o T hm=>
   simp only[RA]
   cases hb:ρ b with
   | none=>exact .A5 _
   | some i=>exact .ptr i o T (hρ _ _ _ hb hm)
  | GC b o j T hm=>
   simp only[RA]
   cases hb:ρ b with
   | none=>exact .A5 _
   | some i=>exact .GC i o j T (hρ _ _ _ hb hm)
  | slice b o l c c' o' T hm hc ho=>
   simp only[RA]
   cases hb:ρ b with
   | none=>exact .A5 _
   | some i=>exact .slice i o l c c' o' T (hρ _ _ _ hb hm) hc ho
  | Bt b j l c c' o' T hm hc ho hr=>
   simp only[RA]
   cases hb:ρ b with
   | none=>exact .A5 _
   | some i=>exact .Bt i j l c c' o' T (hρ _ _ _ hb hm) hc ho hr
  | DC b j c T z hm hc=>
   simp only[RA]
   cases hb:ρ b with
   | none=>exact .A5 _
   | some i=>exact .DC i j c T z (hρ _ _ _ hb hm) hc
  | Cl b j l c c' o' T M hm hm2 hc ho hr=>
   simp only[RA]
   cases hb:ρ b with
   | none=>exact .A5 _
   | some i=>exact .Cl i j l c c' o' T M (hρ _ _ _ hb hm) hm2 hc ho hr
  | Fe b j c T z hm hc=>
   simp only[RA]
   cases hb:ρ b with
   | none=>exact .A5 _
   | some i=>exact .Fe i j c T z (hρ _ _ _ hb hm) hc
  | map b T hm=>
   simp only[RA]
   cases hb:ρ b with
   | none=>exact .A5 _
   | some i=>exact .map i T (hρ _ _ _ hb hm)
  | iface t a a' ha=>exact .iface t _ a' (ih _ _ ha)
  | agg xs xs' hx ex=>
   obtain⟨ys,he,hl⟩:=AH.CT.1 (.agg xs xs' hx ex)
   cases he
   exact AH.CT.2 ⟨_,rfl,FM ih hl⟩
  | tuple xs xs' hx ex=>
   obtain⟨ys,he,hl⟩:=AH.Bf.1 (.tuple xs xs' hx ex)
   cases he
   exact AH.Bf.2 ⟨_,rfl,FM ih hl⟩
  | func fn fn' xs xs' ys ys' hf hx ex hy ey=>
   obtain⟨fn2,xs2,ys2,he,hf2,EB,hy2⟩:=AH.CC.1 (.func fn fn' xs xs' ys ys' hf hx ex hy ey)
   cases he
   simp only[RA]
   cases hb:V9 ρ fn with
   | none=>exact .A5 _
   | some g=>exact AH.CC.2 ⟨_,_,_,rfl,P9 hρ hb hf2,FM ih EB,FM ih hy2⟩
end
noncomputable def Tr.YH (f:Value→Value) (t:Tr Value):Tr Value:=
 Tr.rec (motive:=fun _=>Tr Value) .leaf (fun _ v _ ihl ihr=> .node ihl (v.map f) ihr) t
theorem Tr.WN (f:Value→Value) (t:Tr Value) (i:Nat):(t.YH f).get i=(t.get i).map f:=by
 unfold Tr.get
 generalize FQ.of i=p
 induction t generalizing p with
 | leaf=>cases p<;>rfl
 | node l v r ihl ihr=>
  cases p with
  | e=>rfl
  | z p=>exact ihl p
  | o p=>exact ihr p
noncomputable def Ly (f:Value→Value) (t:Tr Value):List Nat→Tr Value
 | []=> .leaf
 | i::r=>(Ly f t r).put i (some (f (look t i)))
theorem Iy (f:Value→Value) (t:Tr Value):∀(l:List Nat) (i:Nat),look (Ly f t l) i=A5∨look (Ly f t l) i=f (look t i)
 | [],i=> .inl rfl
 | j::r,i=>by
  unfold Ly look
  rw[Tr.AN]
  by_cases e:i=j
  ·subst e;rw[if_pos rfl];exact .inr rfl
  ·rw[if_neg e];exact Iy f t r i
section
variable {ρ:Rn} {μ ν:Ah}
theorem PX (hρ:∀b i T,ρ b=some i→μ b=some T→ν i=some T) {t:Tr Value} {n:Nat} {a:Array Value} (h:ES μ t n a):ES ν (t.YH (PF ρ)) n a:=by
 refine⟨h.1,fun i=>?_⟩
 have:=h.2 i
 unfold look at this ⊢
 rw[Tr.WN]
 cases hg:t.get i with
 | none=>exact .A5 _
 | some v=>rw[hg]at this;exact Hz hρ 8 _ _ this
theorem UK (hρ:∀b i T,ρ b=some i→μ b=some T→ν i=some T) {t:Tr Value} {n:Nat} {a:Array Value} (h:ES μ t n a) (l:List Nat):ES ν (Ly (PF ρ) t l) n a:=by
 refine⟨h.1,fun i=>?_⟩
 rcases Iy (PF ρ) t l i with e | e
 ·rw[e];exact .A5 _
 ·rw[e];exact Hz hρ 8 _ _ (h.2 i)
end
def Xl (ρ:Rn):CH→Option CH
 | .DW _ _=>none
 | .inRangeFunc l=>(ρ l).map .inRangeFunc
 | .endRangeFunc l=>(ρ l).map .endRangeFunc
 | x=>some x
def Nv (ρ:Rn):List CH→Option (List CH)
 | []=>some []
 | x::r=>match Xl ρ x,Nv ρ r with
  | some y,some l=>some (y::l)
  | _,_=>none
def Yr (ρ:Rn):Target→Option Target
 | .collected b=>(ρ b).map .collected
 | .fn f ys=>(V9 ρ f).map fun g=> .fn g ⟨ys.toList.map (PF ρ)⟩
 | t=>some t
def WQ (ρ:Rn):List Deferred→Option (List Deferred)
 | []=>some []
 | d::r=>match Yr ρ d.target,WQ ρ r with
  | some t,some l=>some (⟨t,⟨d.args.toList.map (PF ρ)⟩⟩::l)
  | _,_=>none
def ck (ρ:Rn):Option Nat→Option (Option Nat)
 | none=>some none
 | some l=>(ρ l).map some
section
variable {ρ:Rn} {μ ν:Ah}
theorem Wn (hρ:∀b i T,ρ b=some i→μ b=some T→ν i=some T) {x y:CH} {x':Item} (h:Xl ρ x=some y) (hr:F2 μ x x'):F2 ν y x':=by
 cases hr with
 | code c=>cases h;exact .code c
 | inBlock i=>cases h;exact .inBlock i
 | inLoop c=>cases h;exact .inLoop c
 | inScope c=>cases h;exact .inScope c
 | G0 ops l idx hh=>cases h;exact .G0 ops l idx hh
 | beginRound=>cases h;exact .beginRound
 | inRangeFunc l T hm=>
  simp only[Xl,Option.map_eq_some_iff]at h
  obtain⟨i,hi,rfl⟩:=h
  exact .inRangeFunc i T (hρ _ _ _ hi hm)
 | endRangeFunc l T hm=>
  simp only[Xl,Option.map_eq_some_iff]at h
  obtain⟨i,hi,rfl⟩:=h
  exact .endRangeFunc i T (hρ _ _ _ hi hm)
theorem Na (hρ:∀b i T,ρ b=some i→μ b=some T→ν i=some T) {l l1:List CH} {l':List Item} (h:Nv ρ l=some l1) (hr:C9 μ l l'):C9 ν l1 l':=by
 induction hr generalizing l1 with
 | nil=>cases h;exact .nil
 | cons hx _ ih=>
  simp only[Nv]at h
  split at h
  ·rename_i y m e1 e2;cases h;exact .cons (Wn hρ e1 hx) (ih e2)
  ·cases h
theorem XK (hρ:∀b i T,ρ b=some i→μ b=some T→ν i=some T) {t t1 t':Target} (h:Yr ρ t=some t1) (hr:GB μ t t'):GB ν t1 t':=by
 cases hr with
 | nil=>cases h;exact .nil
 | builtin b ts t cs=>cases h;exact .builtin b ts t cs
 | collected r T hm=>
  simp only[Yr,Option.map_eq_some_iff]at h
  obtain⟨i,hi,rfl⟩:=h
  exact .collected i T (hρ _ _ _ hi hm)
 | fn fn fn' ys ys' hf hy=>
  simp only[Yr,Option.map_eq_some_iff]at h
  obtain⟨g,hg,rfl⟩:=h
  exact .fn _ _ _ _ (P9 hρ hg hf) (FM (Hz hρ 8) hy)
theorem Lm (hρ:∀b i T,ρ b=some i→μ b=some T→ν i=some T) {l l1 l':List Deferred} (h:WQ ρ l=some l1) (hr:Bw μ l l'):Bw ν l1 l':=by
 induction hr generalizing l1 with
 | nil=>cases h;exact .nil
 | cons hx _ ih=>
  simp only[WQ]at h
  split at h
  ·rename_i t m e1 e2;cases h;exact .cons ⟨XK hρ e1 hx.eJ,FM (Hz hρ 8) hx.args⟩ (ih e2)
  ·cases h
theorem PG (hρ:∀b i T,ρ b=some i→μ b=some T→ν i=some T) {x y:Option Nat} {x':Option Nat} (h:ck ρ x=some y) (hr:FI μ x x'):FI ν y x':=by
 cases hr with
 | none=>cases h;exact .none
 | some l T hm=>
  simp only[ck,Option.map_eq_some_iff]at h
  obtain⟨i,hi,rfl⟩:=h
  exact .some i T (hρ _ _ _ hi hm)
end
def GS:SK→Bool
 | .tok=>false
 | _=>true
def cL (ρ:Rn) (l:List MapEntry):List MapEntry:=l.map fun e=>⟨PF ρ e.key,PF ρ e.val,e.born⟩
noncomputable def PD (ρ:Rn):AJ→Option AJ
 | .cells cs e ro=>some (.cells (cs.map (PF ρ)) e ro)
 | .vec [.tok] l ro=>some (.vec [.tok] (List.map (PF ρ) l) ro)
 | .vec k l ro=>bif k.all GS then some (.vec k l ro)else none
 | .abs a ro=>bif a.Ff then some (.abs a ro)else none
 | .CD s p=>some (.CD s p)
 | .deferred none=>some (.deferred none)
 | .deferred (some l)=>(WQ ρ l).map fun l=> .deferred (some l)
 | .map es clock=>some (.map (cL ρ es) clock)
 | .loop q=>(ρ q.defers).map fun d=> .loop ⟨q.state,q.pending,q.fn,q.tmps.YH (PF ρ),q.n,q.params,q.assign,q.body,d⟩
section
variable {ρ:Rn} {μ ν:Ah}
theorem Sx:∀(k:EK),k.all GS=true→∀(x:EK.C k) (v:Value),v∈EK.enc k x→∃s y,GS s=true∧v=SK.enc s y
 | [],_,_,v,h=>by cases h
 | [s],hk,x,v,h=>by
  simp only[EK.enc,List.mem_singleton]at h
  exact⟨s,x,by simpa using hk,h⟩
 | s::t::r,hk,x,v,h=>by
  simp only[EK.enc,List.mem_cons]at h
  have hk:GS s=true∧(t::r).all GS=true:=by simpa only[List.all_cons,Bool.and_eq_true] using hk
  rcases h with h | h
  ·exact⟨s,x.1,hk.1,h⟩
  ·exact Sx (t::r) hk.2 x.2 v h
theorem OP (k:EK) (hk:k.all GS=true) (l:List (EK.C k)) {l':List Value} (h:Aq μ (Ar k l) l'):Aq ν (Ar k l) l':=by
 have hs:∀(s:SK),GS s=true→∀(x:s.C) (v':Value),AH μ (s.enc x) v'→AH ν (s.enc x) v':=by
  intro s hs x v' h
  cases s with
  | int k=>have h:AH μ (.int k x) v':=h;cases h;exact .int _ _
  | bool=>have h:AH μ (.bool x) v':=h;cases h;exact .bool _
  | str=>have h:AH μ (.string x) v':=h;cases h;exact .string _
  | tok=>cases hs
 have key:∀(vs:List Value),(∀v∈vs,∃s x,GS s=true∧v=SK.enc s x)→∀l',Aq μ vs l'→Aq ν vs l':=by
  intro vs
  induction vs with
  | nil=>intro _ l' h;cases h;exact .nil
  | cons v vs ih=>
   intro hv l' h
   cases h with
   | cons h1 h2=>
    obtain⟨s,x,a,rfl⟩:=hv v (by simp)
    exact .cons (hs s a x _ h1) (ih (fun w hw=>hv w (by simp[hw])) _ h2)
 refine key _ ?_ _ h
 intro v hv
 unfold Ar at hv
 rw[List.mem_flatMap]at hv
 obtain⟨x,_,hx⟩:=hv
 exact Sx k hk x v hx
theorem U0 (l:List (EK.C [.tok])):Ar [.tok] l=l:=by
 induction l with
 | nil=>rfl
 | cons x l ih=>rw[Cb,ih];rfl
theorem LA {k:EK} {l:List (EK.C k)} {ro:Bool} {o1:AJ} (h:PD ρ (.vec k l ro)=some o1):(∃l':List (EK.C [.tok]),(⟨k,l⟩:(k:EK) × List (EK.C k))=⟨[.tok],l'⟩∧o1= .vec [.tok] (List.map (PF ρ) l') ro)∨(k.all GS=true∧o1= .vec k l ro):=by
 unfold PD at h
 split at h
 ·rename_i heq;cases heq
 ·rename_i l2 ro2 he
  cases he
  cases h
  exact .inl ⟨l2,rfl,rfl⟩
 ·rename_i k2 l2 ro2 hne he
  injection he with e1 e2 e3
  subst e1
  cases e2
  subst e3
  cases hk:k.all GS
  ·simp[hk]at h
  ·simp only[hk,cond_true,Option.some.injEq]at h
   exact .inr ⟨rfl,h.symm⟩
 all_goals (rename_i heq;cases heq)
theorem Yx (hρ:∀b i T,ρ b=some i→μ b=some T→ν i=some T) {o o1:AJ} {T:CN} {o':Obj} (h:PD ρ o=some o1) (hr:CZ μ T o o'):CZ ν T o1 o':=by
 cases hr with
 | cells cs e ro c t lo hi he hc hs hf=>
  simp only[PD,Option.some.injEq]at h
  subst h
  refine .cells T _ e ro c t lo hi he ?_ hs hf
  rw[List.length_map]
  exact FM (Hz hρ 8) hc
 | loop l a R ht hd=>
  simp only[PD,Option.map_eq_some_iff]at h
  obtain⟨d,hd1,rfl⟩:=h
  exact .loop T ⟨l.state,l.pending,l.fn,l.tmps.YH (PF ρ),l.n,l.params,l.assign,l.body,d⟩ a R (PX hρ ht) (hρ _ _ _ hd1 hd)
 | Cm=>cases h;exact .Cm T
 | deferred l l' hl=>
  simp only[PD,Option.map_eq_some_iff]at h
  obtain⟨d,hd1,rfl⟩:=h
  exact .deferred T _ _ (Lm hρ hd1 hl)
 | CD s p hd=>cases h;exact .CD T s p hd
 | map es es' clock he=>
  simp only[PD,Option.some.injEq]at h
  subst h
  refine .map T _ es' clock ?_
  generalize es'.toList=q at he
  induction he with
  | nil=>exact .nil
  | cons hk hv hb _ ih=>exact .cons (Hz hρ 8 _ _ hk) (Hz hρ 8 _ _ hv) hb ih
 | vec k l ro o hc=>
  rcases LA h with⟨l2,e,rfl⟩ | ⟨hk,rfl⟩
  ·cases e
   refine .vec T [.tok] _ ro o' ?_
   rw[U0]at hc ⊢
   cases hc with
   | cells cs e ro c t lo hi he hc hs hf=>
    refine .cells T _ _ ro c t lo hi he ?_ hs hf
    rw[List.length_map]
    exact FM (Hz hρ 8) hc
  ·refine .vec T k l ro o' ?_
   cases hc with
   | cells cs e ro c t lo hi he hc hs hf=>exact .cells T _ _ ro c t lo hi he (OP k hk l hc) hs hf
 | FC k ro o he hr hk0=>
  rcases LA h with⟨l2,e,rfl⟩ | ⟨hk,rfl⟩
  ·cases e
   exact .FC T [.tok] ro _ he hr hk0
  ·exact .FC T k ro _ he hr hk0
 | abs a ro o=>
  simp only[PD]at h
  cases hx:a.Ff
  ·simp[hx]at h
  ·simp only[hx,cond_true,Option.some.injEq]at h
   subst h;exact .abs T a ro o'
theorem JZ {o o1:AJ} (h:PD ρ o=some o1) (T:CN):o1.void T ↔ o.void T:=by
 cases o with
 | cells cs e ro=>cases h;exact Iff.rfl
 | vec k l ro=>
  rcases LA h with⟨l2,e,rfl⟩ | ⟨hk,rfl⟩
  ·cases e
   exact and_congr (by simp) Iff.rfl
  ·exact Iff.rfl
 | abs a ro=>
  simp only[PD]at h
  cases hx:a.Ff
  ·simp[hx]at h
  ·simp only[hx,cond_true,Option.some.injEq]at h;subst h;exact Iff.rfl
 | CD s p=>cases h;exact Iff.rfl
 | deferred d=>
  cases d with
  | none=>cases h;exact Iff.rfl
  | some l=>
   simp only[PD,Option.map_eq_some_iff]at h
   obtain⟨d,_,rfl⟩:=h
   exact Iff.rfl
 | map es clock=>cases h;exact Iff.rfl
 | loop q=>
  simp only[PD,Option.map_eq_some_iff]at h
  obtain⟨d,_,rfl⟩:=h
  exact Iff.rfl
theorem OQ {o o1:AJ} (h:PD ρ o=some o1):o1.ro=o.ro∧o1.isAbs=o.isAbs∧∀a ro,o1= .abs a ro→o= .abs a ro∧a.ext=[]:=by
 cases o with
 | cells cs e ro=>cases h;exact⟨rfl,rfl,fun _ _ e=>by cases e⟩
 | vec k l ro=>
  rcases LA h with⟨l2,e,rfl⟩ | ⟨hk,rfl⟩
  ·cases e
   exact⟨rfl,rfl,fun _ _ e=>by cases e⟩
  ·exact⟨rfl,rfl,fun _ _ e=>by cases e⟩
 | abs a ro=>
  simp only[PD]at h
  cases hx:a.Ff
  ·simp[hx]at h
  ·simp only[hx,cond_true,Option.some.injEq]at h;subst h
   exact⟨rfl,rfl,fun _ _ e=>by cases e;exact⟨rfl,AZ.Lw hx⟩⟩
 | CD s p=>cases h;exact⟨rfl,rfl,fun _ _ e=>by cases e⟩
 | deferred d=>
  cases d with
  | none=>cases h;exact⟨rfl,rfl,fun _ _ e=>by cases e⟩
  | some l=>
   simp only[PD,Option.map_eq_some_iff]at h
   obtain⟨d,_,rfl⟩:=h
   exact⟨rfl,rfl,fun _ _ e=>by cases e⟩
 | map es c=>cases h;exact⟨rfl,rfl,fun _ _ e=>by cases e⟩
 | loop q=>
  simp only[PD,Option.map_eq_some_iff]at h
  obtain⟨d,_,rfl⟩:=h
  exact⟨rfl,rfl,fun _ _ e=>by cases e⟩
end
def Qo (b:Nat):List Nat→Nat→Option Nat
 | [],_=>none
 | i::r,k=>bif Nat.beq b i then some k else Qo b r (k+1)
def LP (N:Nat) (ids:List Nat):Rn:=fun b=>bif Nat.blt b N then some b else Qo b ids N
theorem MM {b:Nat}:∀{ids:List Nat} {k i:Nat},Qo b ids k=some i→k≤i∧i < k+ids.length∧ids[i - k]? = some b
 | [],k,i,h=>by cases h
 | a::r,k,i,h=>by
  unfold Qo at h
  cases hb:Nat.beq b a
  ·simp only[hb,cond_false]at h
   obtain⟨h1,h2,h3⟩:=MM h
   refine⟨by omega,by simp only[List.length_cons];omega,?_⟩
   rw[show i - k=(i - (k+1))+1 by omega,List.getElem?_cons_succ]
   exact h3
  ·simp only[hb,cond_true,Option.some.injEq]at h
   subst h
   refine⟨Nat.le_refl _,by simp,?_⟩
   rw[Nat.sub_self,Nat.eq_of_beq_eq_true hb];rfl
def En (N:Nat) (ids:List Nat) (i:Nat):Option Nat:=if i < N then some i else ids[i - N]?
theorem IM {N:Nat} {ids:List Nat} {b i:Nat} (h:LP N ids b=some i):En N ids i=some b:=by
 unfold LP at h
 unfold En
 cases hb:Nat.blt b N
 ·simp only[hb,cond_false]at h
  obtain⟨h1,h2,h3⟩:=MM h
  rw[if_neg (by omega)];exact h3
 ·simp only[hb,cond_true,Option.some.injEq]at h
  subst h
  rw[if_pos (show b < N from Nat.le_of_ble_eq_true hb)]
noncomputable def N6 (ρ:Rn) (m:Tr AJ):List Nat→Option (Tr AJ)
 | []=>some .leaf
 | b::r=>match N6 ρ m r with
  | some t=>match ρ b,m.get b with
   | some i,some o=>match PD ρ o with
    | some o1=>some (t.put i (some o1))
    | none=>none
   | _,_=>none
  | none=>none
theorem C6 {ρ:Rn} {m:Tr AJ}:∀{l:List Nat} {t:Tr AJ},N6 ρ m l=some t→∀i o1,t.get i=some o1→∃b o,ρ b=some i∧m.get b=some o∧PD ρ o=some o1
 | [],t,h,i,o1,hg=>by cases h;cases hg
 | b::r,t,h,i,o1,hg=>by
  simp only[N6]at h
  split at h
  ·rename_i t0 h0
   split at h
   ·rename_i j o hj ho
    split at h
    ·rename_i o2 h2
     cases h
     rw[Tr.AN]at hg
     by_cases e:i=j
     ·subst e;rw[if_pos rfl]at hg;cases hg;exact⟨b,o,hj,ho,h2⟩
     ·rw[if_neg e]at hg;exact C6 h0 i o1 hg
    ·cases h
   ·cases h
  ·cases h
noncomputable def Tb (ρ:Rn) (live:Option (List Nat)):AU→Option AU
 | ⟨fn,t,n,todo,ds,r,kd,rd⟩=>match Nv ρ todo,WQ ρ ds,ck ρ rd with
  | some todo',some ds',some rd'=>some ⟨fn,match live with | some l=>Ly (PF ρ) t l | none=>t.YH (PF ρ),n,todo',ds',r,kd,rd'⟩
  | _,_,_=>none
noncomputable def Su (ρ:Rn):List AU→Option (List AU)
 | []=>some []
 | f::r=>match Tb ρ none f,Su ρ r with
  | some g,some l=>some (g::l)
  | _,_=>none
noncomputable def fJ (N:Nat) (HS ids:List Nat) (live:List Nat) (c:Ay):Option Ay:=
 match Tb (LP N ids) (some live) c.fr,Su (LP N ids) c.cs,N6 (LP N ids) c.H.m HS with
 | some fr,some cs,some m=>some ⟨fr,cs,⟨m,N+ids.length⟩⟩
 | _,_,_=>none
def A6 (X:Ctx) (N:Nat) (c:Ay) (Φ:Ay→Prop):Prop:=∀(base:Env) (W0:World),(∀b T,base.YO b=some T→b < N)→Cr X base W0→Ef X→∀(cs0:List Frame) (μ:Ah) (fr:Frame) (cs:List Frame) (W:World),G6 X base W0 μ c fr cs W→∃c',Φ c'∧CR X base W0 cs0 c' (lone fr (cs++cs0) W)
section
variable {X:Ctx} {N:Nat}
theorem Reach.Gq {c:Ay} {Φ:Ay→Prop} (h:Reach X c Φ):A6 X N c Φ:=fun base W0 _=>h base W0
theorem A6.here {c:Ay} {Φ:Ay→Prop} (h:Φ c):A6 X N c Φ:=(Reach.here h).Gq
theorem A6.bind {c:Ay} {Φ Ψ:Ay→Prop} (h:A6 X N c Φ) (h':∀c',Φ c'→A6 X N c' Ψ):A6 X N c Ψ:=by
 intro base W0 hb hok hplan cs0 μ fr cs W hm
 obtain⟨c1,p1,μ1,fr1,cs1,W1,s1,m1⟩:=h base W0 hb hok hplan cs0 μ fr cs W hm
 obtain⟨c2,p2,μ2,fr2,cs2,W2,s2,m2⟩:=h' c1 p1 base W0 hb hok hplan cs0 μ1 fr1 cs1 W1 m1
 exact⟨c2,p2,μ2,fr2,cs2,W2,s1.trans s2,m2⟩
theorem A6.mono {c:Ay} {Φ Ψ:Ay→Prop} (h:A6 X N c Φ) (hi:∀c',Φ c'→Ψ c'):A6 X N c Ψ:=h.bind fun c' hc=> .here (hi c' hc)
theorem Kd {ρ:Rn} {l m:List CH} (h:Nv ρ l=some m):∀ops p k,l≠ .DW ops p::k:=by
 rintro ops p k rfl
 simp[Nv,Xl]at h
theorem Tc {ρ:Rn} {μ ν:Ah} {H H':AA} (hρ:∀b i T,ρ b=some i→μ b=some T→ν i=some T) {g:List Nat} {l l1:List AU} {l':List Frame} (h:Su ρ l=some l1) (hr:Cu X μ H g l l'):Cu X ν H' [] l1 l':=by
 induction hr generalizing l1 with
 | nil=>cases h;exact .nil
 | cons hf _ ih=>
  simp only[Su]at h
  split at h
  ·rename_i f1 m e1 e2
   cases h
   refine .cons (g:=[]) (gs:=[]) ?_ (ih e2)
   cases hf with
   | plain fn t n tm todo todo' ds ds' r kd rd rd' ht hi hd hr=>
    simp only[Tb]at e1
    split at e1
    ·rename_i a b c h1 h2 h3
     cases e1
     exact .plain _ _ _ _ _ _ _ _ _ _ _ _ (PX hρ ht) (Na hρ h1 hi) (Lm hρ h2 hd) (PG hρ h3 hr)
    ·cases e1
   | Jg fn t n tm ops x o rest idx D G k k' ds ds' kd rd rd' ho hD hk hd hr=>
    simp only[Tb]at e1
    split at e1
    ·rename_i a b c h1 h2 h3
     exact absurd rfl (Kd h1 _ _ _)
    ·cases e1
  ·cases h
theorem O5 {HS ids live:List Nat} {c c':Ay} {Φ:Ay→Prop} (hl:(X.laid.all fun p=>Nat.blt p.1 N)=true) (_hN:N≤c.H.next) (_hids:(ids.all fun b=>Nat.blt b c.H.next)=true) (h:fJ N HS ids live c=some c') (hr:A6 X N c' Φ):A6 X N c Φ:=by
 intro base W0 hb hok hplan cs0 μ fr cs W hm
 suffices hs:∃μ',G6 X base W0 μ' c' fr cs W by
  obtain⟨μ',hm'⟩:=hs
  exact hr base W0 hb hok hplan cs0 μ' fr cs W hm'
 obtain⟨hH,hlaid,g,gs,hfr,hcs,hnd⟩:=hm
 unfold fJ at h
 split at h
 ·rename_i fr1 cs1 m1 e1 e2 e3
  cases h
  let ν:Ah:=fun i=>(En N ids i).bind μ
  have hν:∀b i T,LP N ids b=some i→μ b=some T→ν i=some T:=by
   intro b i T h1 h2
   show(En N ids i).bind μ=_
   rw[IM h1];exact h2
  have hν':∀b i T,LP N ids b=some i→ν i=some T→μ b=some T:=by
   intro b i T h1 h2
   have h2:(En N ids i).bind μ=some T:=h2
   rw[IM h1]at h2;exact h2
  have hlow:∀i,i < N→ν i=μ i:=by
   intro i hi
   show(En N ids i).bind μ=_
   unfold En
   rw[if_pos hi];rfl
  refine⟨ν,⟨?_,?_,?_,?_,?_,hH.size,hH.below,hH.out,hH.os,?_,?_,hH.grow⟩,?_,[],[],?_,Tc hν e2 hcs,by simp⟩
  ·intro i o1 hi T hT
   obtain⟨b,o,r1,r2,r3⟩:=C6 e3 i o1 hi
   obtain⟨o',q1,q2⟩:=hH.obj b o r2 T (hν' _ _ _ r1 hT)
   exact⟨o',q1,Yx hν r3 q2⟩
  ·intro i o1 hi hro T hT hv
   obtain⟨b,o,r1,r2,r3⟩:=C6 e3 i o1 hi
   exact hH.own b o r2 (by rw[←(OQ r3).1];exact hro) T (hν' _ _ _ r1 hT) (fun hw=>hv ((JZ r3 T).2 hw))
  ·intro i1 i2 o1 o2 h1 h2 T1 T2 t1 t2 v1 v2 hcc
   obtain⟨b1,p1,r1,r2,r3⟩:=C6 e3 i1 o1 h1
   obtain⟨b2,p2,s1,s2,s3⟩:=C6 e3 i2 o2 h2
   have:=hH.inj b1 b2 p1 p2 r2 s2 T1 T2 (hν' _ _ _ r1 t1) (hν' _ _ _ s1 t2) (fun hw=>v1 ((JZ r3 T1).2 hw)) (fun hw=>v2 ((JZ s3 T2).2 hw)) hcc
   subst this
   rw[r1]at s1;cases s1;rfl
  ·intro i hi
   have hi:N+ids.length≤i:=hi
   have hnone:En N ids i=none:=by
    unfold En
    rw[if_neg (by omega),List.getElem?_eq_none (by omega)]
   constructor
   ·cases hg:(AA.mk m1 (N+ids.length)).get i with
    | none=>rfl
    | some o1=>
     obtain⟨b,o,r1,_⟩:=C6 e3 i o1 hg
     rw[IM r1]at hnone;cases hnone
   ·show(En N ids i).bind μ=none
    rw[hnone];rfl
  ·intro i T hT
   have hT:(En N ids i).bind μ=some T:=hT
   cases hbk:En N ids i with
   | none=>rw[hbk]at hT;cases hT
   | some b=>rw[hbk]at hT;exact hH.bound b T hT
  ·obtain⟨φ,q⟩:=hH.abs
   refine⟨fun i=>match En N ids i with | some b=>φ b | none=>fun _=>False,?_,?_⟩
   ·intro i a ro T hi hT
    obtain⟨b,o,r1,r2,r3⟩:=C6 e3 i _ hi
    obtain⟨this,hext⟩:=(OQ r3).2.2 a ro rfl
    subst this
    simp only[IM r1]
    obtain⟨w1,w2⟩:=q.rep b a ro T r2 (hν' _ _ _ r1 hT)
    exact⟨w1.closed _ hext,w2⟩
   ·intro i a ro T hi hT i2 o2 T2 hi2 hT2 hne hv2
    obtain⟨b,o,r1,r2,r3⟩:=C6 e3 i _ hi
    obtain⟨this,hext⟩:=(OQ r3).2.2 a ro rfl
    subst this
    obtain⟨b2,p2,s1,s2,s3⟩:=C6 e3 i2 _ hi2
    simp only[IM r1,IM s1]
    obtain⟨u1,u2⟩:=q.Be b a ro T r2 (hν' _ _ _ r1 hT) b2 p2 T2 s2 (hν' _ _ _ s1 hT2) (by rintro rfl;rw[r1]at s1;cases s1;exact hne rfl) (fun hw=>hv2 ((JZ s3 T2).2 hw))
    exact⟨u1,fun ea=>u2 (by rw[←(OQ s3).2.1];exact ea)⟩
  ·intro b T hT
   rw[hlow b (hb b T hT)]
   exact hH.le b T hT
  ·intro gl hgl
   obtain⟨T,h1,h2⟩:=hlaid gl hgl
   have:gl < N:=by
    rw[List.any_eq_true]at hgl
    obtain⟨p,hp,hpe⟩:=hgl
    have h3:=List.all_eq_true.1 hl p hp
    rw[Nat.eq_of_beq_eq_true hpe]
    exact Nat.le_of_ble_eq_true h3
   exact⟨T,by rw[hlow gl this];exact h1,h2⟩
  ·generalize c.fr=cf at e1 hfr
   cases hfr with
   | plain fn t n tm todo todo' ds ds' r kd rd rd' ht hi hd hrr=>
    simp only[Tb]at e1
    split at e1
    ·rename_i a b c h1 h2 h3
     cases e1
     exact .plain _ _ _ _ _ _ _ _ _ _ _ _ (UK hν ht live) (Na hν h1 hi) (Lm hν h2 hd) (PG hν h3 hrr)
    ·cases e1
   | drawn fn t n tm ops Bh idx D G k k' ds ds' kd rd rd' hD hk hd hrr=>
    simp only[Tb]at e1
    split at e1
    ·rename_i a b c h1 h2 h3
     exact absurd rfl (Kd h1 _ _ _)
    ·cases e1
 ·cases h
end
end Go.AD

namespace Go.AD
structure Stop where
 fn:FuncId
 depth:Nat
 len:Nat
 N:Nat
 Ja:List Nat
 live:List Nat
def cP:List CH→Bool
 | .inLoop _::_=>true
 | .code (.loop _)::_=>true
 | _=>false
def Stop.here (S:Stop) (c:Ay):Bool:=
 match c with
 | ⟨⟨fn,_,_,todo,_,r,_,_⟩,cs,_⟩=> !r&&cP todo&&Nat.beq fn S.fn&&Nat.beq cs.length S.depth&&Nat.beq todo.length S.len
noncomputable def bP (t:Tr Value):List Value:=
 Tr.rec (motive:=fun _=>List Value) [] (fun _ v _ l r=>l++((match v with | some x=>[x] | none=>[])++r)) t
noncomputable def Sw:AJ→List Nat
 | .cells cs _ _=>cs.flatMap (Af 4)
 | .loop q=>q.defers::(bP q.tmps).flatMap (Af 4)
 | .deferred (some l)=>l.flatMap fun d=>d.args.toList.flatMap (Af 4)
 | .map es _=>es.flatMap fun e=>Af 4 e.key++Af 4 e.val
 | _=>[]
def YL:CH→List Nat
 | .inRangeFunc l=>[l]
 | .endRangeFunc l=>[l]
 | _=>[]
def bS (d:Deferred):List Nat:=(match d.target with
 | .collected b=>[b]
 | .fn _ ys=>ys.toList.flatMap (Af 4)
 | _=>[])++d.args.toList.flatMap (Af 4)
noncomputable def cd (f:AU):List Nat:=
 (match f.round with | some l=>[l] | none=>[])++f.defers.flatMap bS++f.todo.flatMap YL++(bP f.tmps).flatMap (Af 4)
noncomputable def H9 (H:AA) (N:Nat):Nat→List Nat→List Nat→List Nat
 | 0,_,seen=>seen
 | f+1,todo,seen=>match todo with
  | []=>seen
  | b::r=>bif Nat.blt b N||seen.any (Nat.beq b)then H9 H N f r seen else
   match H.get b with
   | some o=>H9 H N f (r++Sw o) (seen++[b])
   | none=>H9 H N f r seen
noncomputable def Stop.ids (S:Stop) (c:Ay):List Nat:=
 H9 c.H S.N 1000 ((S.live.flatMap fun i=>Af 4 (look c.fr.tmps i))++(match c.fr.round with | some l=>[l] | none=>[])++c.fr.defers.flatMap bS++c.fr.todo.flatMap YL++c.cs.flatMap cd++(S.Ja.flatMap fun b=>match c.H.get b with | some o=>Sw o | none=>[])) []
noncomputable def Stop.can (X:Ctx) (S:Stop) (c:Ay):Option Ay:=
 match DQ X c with
 | some c1=>bif Nat.ble S.N c1.H.next&&(S.ids c1).all (fun b=>Nat.blt b c1.H.next)then fJ S.N (S.Ja++S.ids c1) (S.ids c1) S.live c1 else none
 | none=>none
noncomputable def JI (X:Ctx) (pf:Pf) (f:FuncId) (ids:List Nat) (S:Stop) (Q:Value→List (Option AJ)→Prop) (R:Ay→Prop) (n:Nat):Ay→Prop:=
 Nat.rec (motive:=fun _=>Ay→Prop) (fun _=>False) (fun _ ih c=>match EX X f c with
  | some (v,H)=>Q v ((ids++Af 4 v).map H.get)
  | none=>bif S.here c then(match S.can X c with
   | some c2=>R c2
   | none=>False)
   else Gi X pf c ih) n
def As (X:Ctx) (N:Nat) (f:FuncId) (Q:Value→AA→Prop) (c:Ay):Prop:=A6 X N c fun c'=>∃v H,EX X f c'=some (v,H)∧Q v H
section
variable {X:Ctx}
theorem B8.Gq {N:Nat} {f:FuncId} {Q:Value→AA→Prop} {c:Ay} (h:B8 X f Q c):As X N f Q c:=Reach.Gq h
theorem As.mono {N:Nat} {f:FuncId} {Q Q':Value→AA→Prop} {c:Ay} (h:As X N f Q c) (hi:∀v H,Q v H→Q' v H):As X N f Q' c:=
 A6.mono h fun _ ⟨v,H,a,b⟩=>⟨v,H,a,hi v H b⟩
theorem Bd {pf:Pf} (hpf:FD X pf) {f:FuncId} {ids:List Nat} {S:Stop} (hl:(X.laid.all fun p=>Nat.blt p.1 S.N)=true) {Q:Value→List (Option AJ)→Prop} {R:Ay→Prop} {Q':Value→AA→Prop}
 (hQ:∀v H,Q v ((ids++Af 4 v).map H.get)→Q' v H) (hR:∀c,R c→As X S.N f Q' c):∀(n:Nat) (c:Ay),JI X pf f ids S Q R n c→As X S.N f Q' c:=by
 intro n
 induction n with
 | zero=>intro c h;cases h
 | succ n ih=>
  intro c h
  have h:(match EX X f c with
   | some (v,H)=>Q v ((ids++Af 4 v).map H.get)
   | none=>bif S.here c then(match S.can X c with
    | some c2=>R c2
    | none=>False)
    else Gi X pf c (JI X pf f ids S Q R n)):=h
  split at h
  ·rename_i v H e;exact A6.here ⟨v,H,e,hQ v H h⟩
  ·cases hs:S.here c
   ·simp only[hs,cond_false]at h
    exact A6.bind (Reach.Gq (Hl hpf h)) fun c' hc=>ih c' hc
   ·simp only[hs,cond_true]at h
    split at h
    ·rename_i c2 hc
     unfold Stop.can at hc
     split at hc
     ·rename_i c1 h1
      cases hb:(Nat.ble S.N c1.H.next&&(S.ids c1).all (fun b=>Nat.blt b c1.H.next))
      ·simp only[hb,cond_false]at hc;cases hc
      ·simp only[hb,cond_true]at hc
       simp only[Bool.and_eq_true]at hb
       have hr:=O5 (X:=X) hl (Nat.le_of_ble_eq_true hb.1) hb.2 hc (hR c2 h)
       exact A6.bind (Reach.Gq ((ML.step h1).reach (Φ:=fun c'=>c'=c1) rfl)) fun c' e=>e ▸ hr
     ·cases hc
    ·cases h
def A4 (X:Ctx) (N:Nat) (D:Nat→Prop) (f:FuncId) (Q:Value→AA→Prop) (c:Ay):Prop:=
 ∀(base:Env) (W0:World),(∀b T,base.YO b=some T→b < N)→(∀b,D b→∃T,base.YO b=some T)→Cr X base W0→Ef X→∀(cs0:List Frame) (μ:Ah) (fr:Frame) (cs:List Frame) (W:World),G6 X base W0 μ c fr cs W→
  ∃c',(∃v H v2 H2,EX X f c'=some (v,H)∧(∀μ1 W1 v',AH μ1 v v'→AP base W0 μ1 H W1→∃μ2,μ1.le μ2∧AP base W0 μ2 H2 W1∧AH μ2 v2 v')∧Q v2 H2)∧CR X base W0 cs0 c' (lone fr (cs++cs0) W)
theorem As.Ko {N:Nat} {D:Nat→Prop} {f:FuncId} {Q:Value→AA→Prop} {c:Ay} (h:As X N f Q c):A4 X N D f Q c:=by
 intro base W0 hb _ hok hplan cs0 μ fr cs W hm
 obtain⟨c',⟨v,H,h1,h2⟩,h3⟩:=h base W0 hb hok hplan cs0 μ fr cs W hm
 exact⟨c',⟨v,H,v,H,h1,fun μ1 _ _ g h=>⟨μ1,Ah.le_refl _,h,g⟩,h2⟩,h3⟩
theorem A4.mono {N:Nat} {D:Nat→Prop} {f:FuncId} {Q Q':Value→AA→Prop} {c:Ay} (h:A4 X N D f Q c) (hi:∀v H,Q v H→Q' v H):A4 X N D f Q' c:=by
 intro base W0 hb hD hok hplan cs0 μ fr cs W hm
 obtain⟨c',⟨v,H,v2,H2,h1,h2,h3⟩,h4⟩:=h base W0 hb hD hok hplan cs0 μ fr cs W hm
 exact⟨c',⟨v,H,v2,H2,h1,h2,hi v2 H2 h3⟩,h4⟩
theorem A4.sub {N:Nat} {D D':Nat→Prop} {f:FuncId} {Q:Value→AA→Prop} {c:Ay} (h:A4 X N D f Q c) (hs:∀b,D b→D' b):A4 X N D' f Q c:=
 fun base W0 hb hD=>h base W0 hb fun b hb'=>hD b (hs b hb')
end
end Go.AD

namespace Go.AD
def IZ:AJ→AJ
 | .cells cs e _=> .cells cs e true
 | .vec k l _=> .vec k l true
 | .abs a _=> .abs a true
 | o=>o
theorem QY {μ:Ah} {T:CN} {o:AJ} {o':Obj} (h:CZ μ T o o'):CZ μ T (IZ o) o':=by
 cases h with
 | cells cs e ro c t lo hi he hc hr hf=>exact .cells T cs e true c t lo hi he hc hr (fun e=>by cases e)
 | loop l a R ht hd=>exact .loop T l a R ht hd
 | Cm=>exact .Cm T
 | deferred l l' h=>exact .deferred T l l' h
 | CD s p hd=>exact .CD T s p hd
 | map es es' clock h=>exact .map T es es' clock h
 | vec k l ro o h=>
  refine .vec T k l true o' ?_
  cases h with
  | cells cs e ro c t lo hi he hc hr hf=>exact .cells T _ _ true c t lo hi he hc hr (fun e=>by cases e)
 | FC k ro o he hr hk=>exact .FC T k true o' he hr hk
 | abs a ro o=>exact .abs T a true o'
theorem NK {o:AJ} {T:CN}:(IZ o).void T ↔ o.void T:=by
 cases o<;>exact Iff.rfl
theorem Gu {ρ:Ren} {o o1:AJ} (h:BR ρ o=some o1∨(o.ro=true∧BR ρ o=some (IZ o1))) (T:CN):o1.void T ↔ o.void T:=by
 rcases h with h | ⟨_,h⟩
 ·exact Bo h T
 ·exact NK.symm.trans (Bo h T)
theorem FR {ρ:Ren} {a:AZ} {ro:Bool} {o1:AJ} (h:BR ρ (.abs a ro)=some o1):o1= .abs a ro∧a.ext=[]:=by
 simp only[BR]at h
 cases hx:a.Ff
 ·simp[hx]at h
 ·simp only[hx,cond_true,Option.some.injEq]at h
  exact⟨h.symm,AZ.Lw hx⟩
theorem Qe {ρ:Ren} {a:AZ} {ro:Bool} {o1:AJ} (h:BR ρ (.abs a ro)=some o1∨((AJ.abs a ro).ro=true∧BR ρ (.abs a ro)=some (IZ o1))):(∃ro1,o1= .abs a ro1)∧a.ext=[]:=by
 rcases h with h | ⟨_,h⟩
 ·obtain⟨rfl,hx⟩:=FR h
  exact⟨⟨ro,rfl⟩,hx⟩
 ·obtain⟨h,hx⟩:=FR h
  cases o1<;>simp only[IZ,reduceCtorEq]at h
  cases h
  exact⟨⟨_,rfl⟩,hx⟩
theorem SJ {ρ:Ren} {o o1:AJ} (h:BR ρ o=some o1∨(o.ro=true∧BR ρ o=some (IZ o1))):o1.isAbs=o.isAbs:=by
 rcases h with h | ⟨_,h⟩
 ·exact(DL h).2.1
 ·have:=(DL h).2.1
  rw[←this]
  cases o1<;>rfl
open Classical in
theorem ep {X:Ctx} {base:Env} {W0:World} {μ:Ah} {H:AA} {W:World}
 (hok:∀b W0,DR X b W0→Cr X b W0) (hplan:Ef X) (hW:DR X base W0) (hH:AP base W0 μ H W) (hlaid:Br X μ)
 {f:FuncId} {n:Nat} {code:Code} (he:entry X.P f=some (n,code)) {Hc H':AA} {argsc args:List Value} {args':Array Value} {ρ:Ren} {v:Value}
 (hn:argsc.length≤n) (hargs:Cz (EG ρ) argsc=some args) (ha:Aq μ args args'.toList)
 (hlt:∀b i,ρ b=some i→b < Hc.next) (hdom:∀b i,ρ b=some i→∃T,μ i=some T) (hinj0:∀b1 b2 i,ρ b1=some i→ρ b2=some i→b1=b2) (hnext:H.next≤H'.next)
 (hlr:∀g,X.laid.any (fun p=>Nat.beq g p.1)=true→ρ g=some g)
 (hobj:∀b o,Hc.get b=some o→∃i o1,ρ b=some i∧H.get i=some o1∧(BR ρ o=some o1∨(o.ro=true∧BR ρ o=some (IZ o1))))
 (k1:∀i,i < H.next→(∀b o,Hc.get b=some o→o.ro=false→ρ b≠some i)→H'.get i=H.get i)
 (k3:∀i,H'.next≤i→H'.get i=none)
 (hrun:A4 X Hc.next (fun b=>∃i,ρ b=some i) f (fun vc Hf=>Z2 Hc H H' ρ v vc Hf) (GF f (B3 0 argsc .leaf) n code Hc)):
 Calls X.P f args' W fun e W'=>∃v' μ',e= .returned v'∧AP base W0 μ' H' W'∧AH μ' v v'∧Ac μ H μ' H':=by
 obtain⟨φ,q⟩:=hH.abs
 have hex:∀b o,Hc.get b=some o→o.ro=false→∃i o1,ρ b=some i∧H.get i=some o1∧BR ρ o=some o1:=by
  intro b o hb hr
  obtain⟨i,o1,g1,g2,g3⟩:=hobj b o hb
  rcases g3 with g3 | ⟨g3,_⟩
  ·exact⟨i,o1,g1,g2,g3⟩
  ·rw[hr]at g3;cases g3
 have hiN:∀b i,ρ b=some i→i < H.next:=fun b i hb=>let ⟨_,hT⟩:=hdom b i hb;hH.L5 hT
 have hfree:∀b,Hc.next≤b→Hc.get b=none:=by
  intro b hb
  cases hg:Hc.get b with
  | none=>rfl
  | some o=>obtain⟨i,_,h1,_⟩:=hobj b o hg;have:=hlt b i h1;omega
 let μc:Ah:=fun b=>(ρ b).bind μ
 have hμc:∀b i T,ρ b=some i→μ i=some T→μc b=some T:=fun b i T h1 h2=>by show(ρ b).bind μ=_;rw[h1];exact h2
 have hμc':∀b T,μc b=some T→∃i,ρ b=some i∧μ i=some T:=by
  intro b T h
  have h:(ρ b).bind μ=some T:=h
  cases hb:ρ b with
  | none=>rw[hb]at h;cases h
  | some i=>rw[hb]at h;exact⟨i,rfl,h⟩
 have hbw:∀b i T,ρ b=some i→μ i=some T→μc b=some T:=hμc
 let Own:Nat→Prop:=fun i=>(∃b o j T,Hc.get b=some o∧o.ro=false∧ρ b=some j∧μ j=some T∧¬o.void T∧i=T.c)∨(∃b a j,Hc.get b=some (.abs a false)∧ρ b=some j∧φ j i)
 let Ec:Env:={ base with K:=fun i=>i < W.heap.size∧¬Own i,YO:=μc }
 have hownK:∀i,Own i→¬base.K i:=by
  rintro i (⟨b,o,j,T,h1,h2,h3,h4,hv,rfl⟩ | ⟨b,a,j,h1,h2,h3⟩) hk
  ·obtain⟨i2,o1,g1,g2,g3⟩:=hex b o h1 h2
   rw[h3]at g1;cases g1
   exact hH.own _ o1 g2 (by rw[(DL g3).1];exact h2) T h4 (fun hw=>hv ((Bo g3 T).1 hw)) hk
  ·obtain⟨i2,o1,g1,g2,g3⟩:=hex b _ h1 rfl
   rw[h2]at g1;cases g1
   obtain⟨rfl,_⟩:=FR g3
   obtain⟨T,hT⟩:=hdom _ _ h2
   exact(q.rep _ a false T g2 hT).2 rfl i h3 hk
 have hHc:AP Ec W μc Hc W:=by
  refine⟨?_,?_,?_,?_,?_,fun i hi=>hi.1,fun _ _=>rfl,rfl,rfl,?_,Ah.le_refl _,Nat.le_refl _⟩
  ·intro b o hb T hT
   obtain⟨i,o1,g1,g2,g3⟩:=hobj b o hb
   obtain⟨i2,e1,e2⟩:=hμc' b T hT
   rw[g1]at e1;cases e1
   obtain⟨o',r1,r2⟩:=hH.obj _ o1 g2 T e2
   rcases g3 with g3 | ⟨_,g3⟩
   ·exact⟨o',r1,Ls hbw g3 r2⟩
   ·exact⟨o',r1,Ls hbw g3 (QY r2)⟩
  ·intro b o hb hr T hT hv hk
   obtain⟨i2,e1,e2⟩:=hμc' b T hT
   exact hk.2 (.inl ⟨b,o,i2,T,hb,hr,e1,e2,hv,rfl⟩)
  ·intro b1 b2 o1 o2 h1 h2 T1 T2 m1 m2 v1 v2 hc
   obtain⟨i1,e1,e2⟩:=hμc' b1 T1 m1
   obtain⟨i2,e3,e4⟩:=hμc' b2 T2 m2
   obtain⟨j1,p1,g1,g2,w1⟩:=hobj b1 o1 h1
   obtain⟨j2,p2,g3,g4,w2⟩:=hobj b2 o2 h2
   rw[e1]at g1;cases g1
   rw[e3]at g3;cases g3
   have:=hH.inj _ _ _ _ g2 g4 T1 T2 e2 e4 (fun hw=>v1 ((Gu w1 T1).1 hw)) (fun hw=>v2 ((Gu w2 T2).1 hw)) hc
   subst this
   exact hinj0 b1 b2 _ e1 e3
  ·intro b hb
   refine⟨hfree b hb,?_⟩
   cases hm:μc b with
   | none=>rfl
   | some T=>obtain⟨i,e1,_⟩:=hμc' b T hm;have:=hlt _ _ e1;omega
  ·intro b T hT
   obtain⟨i,_,e2⟩:=hμc' b T hT
   exact hH.bound i T e2
  ·refine⟨fun b=>match ρ b with | some j=>φ j | none=>fun _=>False,?_,?_⟩
   ·intro b a ro T hb hT
    obtain⟨i,o1,g1,g2,g3⟩:=hobj b _ hb
    obtain⟨i2,e1,e2⟩:=hμc' b T hT
    rw[g1]at e1;cases e1
    obtain⟨⟨ro1,ho1⟩,hext⟩:=Qe g3
    subst ho1
    obtain⟨r1,_⟩:=q.rep _ a ro1 T g2 e2
    simp only[g1]
    refine⟨r1.closed _ hext,fun hro i hi hk=>hk.2 (.inr ⟨b,a,_,by rw[←hro];exact hb,g1,hi⟩)⟩
   ·intro b a ro T hb hT b2 o2 T2 hb2 hT2 hne hv2
    obtain⟨i,o1,g1,g2,g3⟩:=hobj b _ hb
    obtain⟨i2,e1,e2⟩:=hμc' b T hT
    rw[g1]at e1;cases e1
    obtain⟨⟨ro1,ho1⟩,hext⟩:=Qe g3
    subst ho1
    obtain⟨j,p1,g4,g5,g6⟩:=hobj b2 _ hb2
    obtain⟨j2,e3,e4⟩:=hμc' b2 T2 hT2
    rw[g4]at e3;cases e3
    have hne2:j≠i:=by
     rintro rfl
     exact hne (hinj0 b2 b _ g4 g1)
    simp only[g1,g4]
    obtain⟨r1,r2⟩:=q.Be _ a ro1 T g2 e2 _ p1 T2 g5 e4 hne2 (fun hw=>hv2 ((Gu g6 T2).1 hw))
    exact⟨r1,fun ea=>r2 (by rw[SJ g6];exact ea)⟩
 have hlc:Br X μc:=by
  intro g hg
  obtain⟨T,h1,h2⟩:=hlaid g hg
  exact⟨T,hμc g g T (hlr g hg) h1,h2⟩
 have hWc:DR X Ec W:=by
  refine⟨hW.1,fun p hp=>?_⟩
  obtain⟨h1,a,t,fz,h3,h4⟩:=hW.2 p hp
  exact⟨⟨hH.size _ h1,fun ho=>hownK _ ho h1⟩,a,t,fz,by rw[hH.below _ h1];exact h3,h4⟩
 have hac:Aq μc argsc args'.toList:=E2 (On hbw 6) _ _ _ hargs ha
 intro cs
 obtain⟨c',⟨vc0,Hf0,vc,Hf,hd,hshut,ρ',hinj,hold,hnew,k2,hv⟩,μ0,fr1,cs1,W1,s1,m1⟩:=hrun Ec W (fun b T hT=>by obtain⟨i,h1,_⟩:=hμc' b T hT;exact hlt _ _ h1) (fun b ⟨i,hi⟩=>by obtain⟨T,hT⟩:=hdom b i hi;exact⟨T,hμc b i T hi hT⟩) (hok Ec W hWc) hplan cs μc _ [] W (Gr hHc hlc he hac hn)
 obtain⟨rfl,hf,v',h1,h2o,h3o⟩:=Hn m1 hd
 obtain⟨μ1,_,h2,h3⟩:=hshut _ _ _ h3o h2o
 have hs':Steps X.P (lone (Frame.enter X.P f args' .normal) cs W) (lone fr1 cs W1):=by simpa using s1
 refine⟨.returned v',W1,fr1,?_,hs',hf,h1⟩
 have hle1:μc.le μ1:=h2.le
 let μ':Ah:=fun i=>if i < H.next then μ i else if hx:∃b,ρ' b=some i∧Hc.next≤b then μ1 hx.choose else none
 have hμold:∀i,i < H.next→μ' i=μ i:=fun i hi=>by show(if _ then _ else _)=_;rw[if_pos hi]
 have hμnew:∀b i,ρ' b=some i→Hc.next≤b→μ' i=μ1 b:=by
  intro b i hb hge
  have hi:=hnew b i hb hge
  show(if i < H.next then μ i else if hx:∃b,ρ' b=some i∧Hc.next≤b then μ1 hx.choose else none)=_
  rw[if_neg (by omega)]
  have hx:∃b,ρ' b=some i∧Hc.next≤b:=⟨b,hb,hge⟩
  rw[dif_pos hx,hinj _ b i hx.choose_spec.1 hb]
 have hμno:∀i,H.next≤i→(¬∃b,ρ' b=some i∧Hc.next≤b)→μ' i=none:=by
  intro i hi hx
  show(if i < H.next then μ i else if hx:∃b,ρ' b=some i∧Hc.next≤b then μ1 hx.choose else none)=_
  rw[if_neg (by omega),dif_neg hx]
 have hle:μ.le μ':=fun i T hT=>by rw[hμold i (hH.L5 hT)];exact hT
 have hfw:∀b i T,ρ' b=some i→μ1 b=some T→μ' i=some T:=by
  intro b i T hb hT
  rcases Nat.lt_or_ge b Hc.next with hlt' | hge
  ·rw[hold b hlt']at hb
   obtain⟨T0,hT0⟩:=hdom b i hb
   have:=hle1 b T0 (hμc b i T0 hb hT0)
   rw[hT]at this;cases this
   exact hle i T hT0
  ·rw[hμnew b i hb hge];exact hT
 have hsrc:∀i o T,H'.get i=some o→μ' i=some T→(∃b o0,ρ' b=some i∧Hf.get b=some o0∧BR ρ' o0=some o∧o0.ro=false∧μ1 b=some T)∨
  (i < H.next∧H.get i=some o∧μ i=some T∧∀b o,Hc.get b=some o→o.ro=false→ρ b≠some i):=by
  intro i o T hi hT
  by_cases hc:H.next≤i∨∃b o0,Hc.get b=some o0∧o0.ro=false∧ρ b=some i
  ·obtain⟨b,o0,g1,g2,g3,g4⟩:=k2 i o hi hc
   refine .inl ⟨b,o0,g1,g2,g3,g4,?_⟩
   rcases Nat.lt_or_ge b Hc.next with hlt' | hge
   ·have g1':=g1
    rw[hold b hlt']at g1'
    have hiN':=hiN b i g1'
    rw[hμold i hiN']at hT
    exact hle1 b T (hμc b i T g1' hT)
   ·rw[←hμnew b i g1 hge];exact hT
  ·have hi1:i < H.next:=by
    rcases Nat.lt_or_ge i H.next with hh | hh
    ·exact hh
    ·exact absurd (.inl hh) hc
   have hnb:∀b o,Hc.get b=some o→o.ro=false→ρ b≠some i:=fun b o g1 g2 g3=>hc (.inr ⟨b,o,g1,g2,g3⟩)
   rw[k1 i hi1 hnb]at hi
   rw[hμold i hi1]at hT
   exact .inr ⟨hi1,hi,hT,hnb⟩
 have hkept:∀i o T,i < H.next→H.get i=some o→μ i=some T→¬o.void T→(∀b o,Hc.get b=some o→o.ro=false→ρ b≠some i)→Ec.K T.c:=by
  intro i o T hi ho hT hvo hnb
  refine⟨hH.bound i T hT,?_⟩
  rintro(⟨b,o2,j,T2,g1,g2,g3,g4,gv,g5⟩ | ⟨b,a,j,g1,g2,g3⟩)
  ·obtain⟨j2,p,e1,e2,e3⟩:=hobj b o2 g1
   rw[g3]at e1;cases e1
   have:=hH.inj i j _ _ ho e2 T T2 hT g4 hvo (fun hw=>gv ((Gu e3 T2).1 hw)) g5
   subst this
   exact hnb b o2 g1 g2 g3
  ·obtain⟨j2,p,e1,e2,e3⟩:=hex b _ g1 rfl
   rw[g2]at e1;cases e1
   obtain⟨rfl,_⟩:=FR e3
   obtain⟨T2,hT2⟩:=hdom _ _ g2
   have hne:i≠j:=by rintro rfl;exact hnb b _ g1 rfl g2
   exact(q.Be j a false T2 e2 hT2 i o T ho hT hne hvo).1 g3
 have hnotK:∀b o T,Hf.get b=some o→o.ro=false→μ1 b=some T→¬o.void T→¬base.K T.c:=by
  intro b o T g1 g2 g3 gv hk
  have:=h2.own b o g1 g2 T g3 gv
  refine this ⟨hH.size _ hk,fun ho=>hownK _ ho hk⟩
 obtain⟨φ1,q1⟩:=h2.abs
 have hphiK:∀i a ro T,H.get i=some (.abs a ro)→μ i=some T→(∀b o,Hc.get b=some o→o.ro=false→ρ b≠some i)→∀j,φ i j→Ec.K j:=by
  intro i a ro T ho hT hnb j hj
  have hr:=(q.rep i a ro T ho hT).1
  refine⟨(Ct.FV _ _ _ _ hr).2 j hj,?_⟩
  rintro(⟨b,o2,j2,T2,g1,g2,g3,g4,gv,rfl⟩ | ⟨b,a2,j2,g1,g2,g3⟩)
  ·obtain⟨j3,p,e1,e2,e3⟩:=hobj b o2 g1
   rw[g3]at e1;cases e1
   have hne:j2≠i:=by rintro rfl;exact hnb b o2 g1 g2 g3
   exact(q.Be i a ro T ho hT j2 p T2 e2 g4 hne (fun hw=>gv ((Gu e3 T2).1 hw))).1 hj
  ·obtain⟨j3,p,e1,e2,e3⟩:=hex b _ g1 rfl
   rw[g2]at e1;cases e1
   obtain⟨rfl,_⟩:=FR e3
   obtain⟨T2,hT2⟩:=hdom _ _ g2
   have hne:j2≠i:=by rintro rfl;exact hnb b _ g1 rfl g2
   exact(q.Be i a ro T ho hT j2 _ T2 e2 hT2 hne id).2 rfl j hj g3
 refine⟨v',μ',rfl,⟨?_,?_,?_,?_,?_,?_,?_,?_,?_,?_,?_,?_⟩,Oi hfw 6 _ _ _ hv h3,hle,hnext,?_⟩
 ·intro i o hi T hT
  rcases hsrc i o T hi hT with⟨b,o0,g1,g2,g3,g4,g5⟩ | ⟨g1,g2,g3,g4⟩
  ·obtain⟨o',r1,r2⟩:=h2.obj b o0 g2 T g5
   exact⟨o',r1,Qk hfw g3 r2⟩
  ·obtain⟨o',r1,r2⟩:=CZ.HS (W':=W1) (hH.obj i o g2 T g3) h2.grow (fun hv=>h2.below _ (hkept i o T g1 g2 g3 hv g4))
   exact⟨o',r1,r2.mono hle⟩
 ·intro i o hi hr T hT hv
  rcases hsrc i o T hi hT with⟨b,o0,g1,g2,g3,g4,g5⟩ | ⟨g1,g2,g3,g4⟩
  ·exact hnotK b o0 T g2 g4 g5 (fun hw=>hv ((Bo g3 T).2 hw))
  ·exact hH.own i o g2 hr T g3 hv
 ·intro i1 i2 o1 o2 e1 e2 T1 T2 m1 m2 v1 v2 hc
  rcases hsrc i1 o1 T1 e1 m1 with⟨b1,p1,g1,g2,g3,g4,g5⟩ | ⟨g1,g2,g3,g4⟩<;>rcases hsrc i2 o2 T2 e2 m2 with⟨b2,p2,f1,f2,f3,f4,f5⟩ | ⟨f1,f2,f3,f4⟩
  ·have:=h2.inj b1 b2 _ _ g2 f2 T1 T2 g5 f5 (fun hw=>v1 ((Bo g3 T1).2 hw)) (fun hw=>v2 ((Bo f3 T2).2 hw)) hc
   subst this
   rw[g1]at f1;cases f1;rfl
  ·exact absurd (hc ▸ hkept i2 o2 T2 f1 f2 f3 v2 f4) (h2.own b1 p1 g2 g4 T1 g5 (fun hw=>v1 ((Bo g3 T1).2 hw)))
  ·exact absurd (hc ▸ hkept i1 o1 T1 g1 g2 g3 v1 g4) (h2.own b2 p2 f2 f4 T2 f5 (fun hw=>v2 ((Bo f3 T2).2 hw)))
  ·exact hH.inj i1 i2 _ _ g2 f2 T1 T2 g3 f3 v1 v2 hc
 ·intro i hi
  refine⟨k3 i hi,hμno i (by omega) ?_⟩
  rintro⟨b,g1,g2⟩
  have:=(hnew b i g1 g2).2
  omega
 ·intro i T hT
  rcases Nat.lt_or_ge i H.next with hh | hh
  ·rw[hμold i hh]at hT
   have:=hH.bound i T hT
   have:=h2.grow
   omega
  ·by_cases hx:∃b,ρ' b=some i∧Hc.next≤b
   ·obtain⟨b,g1,g2⟩:=hx
    rw[hμnew b i g1 g2]at hT
    exact h2.bound b T hT
   ·rw[hμno i hh hx]at hT;cases hT
 ·intro i hi;have:=hH.size i hi;have:=h2.grow;omega
 ·intro i hi
  rw[h2.below i ⟨hH.size i hi,fun ho=>hownK i ho hi⟩]
  exact hH.below i hi
 ·rw[h2.out];exact hH.out
 ·rw[h2.os];exact hH.os
 ·let C:Nat→Nat→Prop:=fun b i=>ρ' b=some i∧(H.next≤i∨∃o1,Hc.get b=some o1∧o1.ro=false)
  let φ':Nat→Nat→Prop:=fun i j=>(∃b,C b i∧φ1 b j)∨((¬∃b,C b i)∧φ i j)
  have hCin:∀b i,C b i→φ' i=φ1 b:=by
   intro b i hb
   funext j
   refine propext ⟨?_,fun hj=> .inl ⟨b,hb,hj⟩⟩
   rintro(⟨b2,g1,g2⟩ | ⟨g1,_⟩)
   ·rw[hinj b b2 i hb.1 g1.1];exact g2
   ·exact absurd ⟨b,hb⟩ g1
  have hCout:∀i,i < H.next→(∀b o,Hc.get b=some o→o.ro=false→ρ b≠some i)→φ' i=φ i:=by
   intro i hi hnb
   have hno:¬∃b,C b i:=by
    rintro⟨b,g1,g2 | ⟨o1,g2,g3⟩⟩
    ·omega
    ·obtain⟨i2,_,e1,_⟩:=hobj b o1 g2
     rw[hold b (hlt _ _ e1)]at g1
     exact hnb b o1 g2 g3 g1
   funext j
   refine propext ⟨?_,fun hj=> .inr ⟨hno,hj⟩⟩
   rintro(⟨b2,g1,g2⟩ | ⟨_,g2⟩)
   ·exact absurd ⟨b2,g1⟩ hno
   ·exact g2
  have hsrc2:∀i o T,H'.get i=some o→μ' i=some T→(∃b o0,C b i∧Hf.get b=some o0∧BR ρ' o0=some o∧o0.ro=false∧μ1 b=some T)∨
   (i < H.next∧H.get i=some o∧μ i=some T∧∀b o,Hc.get b=some o→o.ro=false→ρ b≠some i):=by
   intro i o T hi hT
   rcases hsrc i o T hi hT with⟨b,o0,g1,g2,g3,g4,g5⟩ | h
   ·by_cases hc:H.next≤i∨∃b o0,Hc.get b=some o0∧o0.ro=false∧ρ b=some i
    ·refine .inl ⟨b,o0,⟨g1,?_⟩,g2,g3,g4,g5⟩
     rcases hc with hc | ⟨b2,o2,e1,e2,e3⟩
     ·exact .inl hc
     ·have:b=b2:=hinj b b2 i g1 (by rw[hold b2 (hlt _ _ e3)];exact e3)
      subst this
      exact .inr ⟨o2,e1,e2⟩
    ·have hi1:i < H.next:=by
      rcases Nat.lt_or_ge i H.next with hh | hh
      ·exact hh
      ·exact absurd (.inl hh) hc
     have hnb:∀b o,Hc.get b=some o→o.ro=false→ρ b≠some i:=fun b o g1 g2 g3=>hc (.inr ⟨b,o,g1,g2,g3⟩)
     rw[k1 i hi1 hnb]at hi
     rw[hμold i hi1]at hT
     exact .inr ⟨hi1,hi,hT,hnb⟩
   ·exact .inr h
  refine⟨φ',?_,?_⟩
  ·intro i a ro T hi hT
   rcases hsrc2 i _ T hi hT with⟨b,o0,g1,g2,g3,g4,g5⟩ | ⟨g1,g2,g3,g4⟩
   ·obtain⟨e0,hext⟩:=(DL g3).2.2 a ro rfl
    subst e0
    obtain⟨r1,r2⟩:=q1.rep b a ro T g2 g5
    rw[hCin b i g1]
    exact⟨r1.closed _ hext,fun hro j hj hk=>r2 hro j hj ⟨hH.size j hk,fun ho=>hownK j ho hk⟩⟩
   ·obtain⟨r1,r2⟩:=q.rep i a ro T g2 g3
    rw[hCout i g1 g4]
    exact⟨(Ct.loc _ _ _ _ _ h2.grow r1 (fun j hj=>h2.below j (hphiK i a ro T g2 g3 g4 j hj))).mono hle,r2⟩
  ·intro i a ro T hi hT i2 o2 T2 hi2 hT2 hne hv2
   rcases hsrc2 i _ T hi hT with⟨b,o0,g1,g2,g3,g4,g5⟩ | ⟨g1,g2,g3,g4⟩<;>rcases hsrc2 i2 _ T2 hi2 hT2 with⟨b2,p0,f1,f2,f3,f4,f5⟩ | ⟨f1,f2,f3,f4⟩
   ·obtain⟨e0,hext⟩:=(DL g3).2.2 a ro rfl
    subst e0
    rw[hCin b i g1,hCin b2 i2 f1]
    have hbn:b2≠b:=by
     rintro rfl
     have:=g1.1
     rw[f1.1]at this
     cases this;exact hne rfl
    obtain⟨r1,r2⟩:=q1.Be b a ro T g2 g5 b2 p0 T2 f2 f5 hbn (fun hw=>hv2 ((Bo f3 T2).2 hw))
    exact⟨r1,fun ea=>r2 (by rw[←(DL f3).2.1];exact ea)⟩
   ·obtain⟨e0,hext⟩:=(DL g3).2.2 a ro rfl
    subst e0
    rw[hCin b i g1,hCout i2 f1 f4]
    have hnk:=(q1.rep b a ro T g2 g5).2 g4
    refine⟨fun hc=>hnk _ hc (hkept i2 o2 T2 f1 f2 f3 hv2 f4),fun ea j hj hj2=>?_⟩
    obtain⟨a2,ro2,rfl⟩:=Cw ea
    exact hnk _ hj (hphiK i2 a2 ro2 T2 f2 f3 f4 j hj2)
   ·rw[hCout i g1 g4,hCin b2 i2 f1]
    refine⟨fun hc=>h2.own b2 p0 f2 f4 T2 f5 (fun hw=>hv2 ((Bo f3 T2).2 hw)) (hphiK i a ro T g2 g3 g4 _ hc),fun ea j hj hj2=>?_⟩
    have ea0:p0.isAbs=true:=by rw[←(DL f3).2.1];exact ea
    obtain⟨a2,ro2,rfl⟩:=Cw ea0
    exact(q1.rep b2 a2 ro2 T2 f2 f5).2 f4 j hj2 (hphiK i a ro T g2 g3 g4 _ hj)
   ·rw[hCout i g1 g4,hCout i2 f1 f4]
    exact q.Be i a ro T g2 g3 i2 o2 T2 f2 f3 hne hv2
 ·exact Ah.le_trans hH.le hle
 ·have:=hH.grow;have:=h2.grow;omega
 ·intro i hi hm
  refine⟨by rw[hμold i hi];exact hm,k1 i hi ?_⟩
  intro b o g1 g2 g3
  obtain⟨T,hT⟩:=hdom b i g3
  rw[hm]at hT;cases hT
end Go.AD

namespace Go.AD
def Ta (P:Program) (laid:List (Nat × List Value)):Ctx:=⟨P,laid,fun _=>none,Iz P⟩
def Da (P:Program) (laid:List (Nat × List Value)) (f:FuncId) (F:Cn):Prop:=
 (∃n c,entry P f=some (n,c))∧∀base W0 μ H W (args:List Value) (args':Array Value) v H',DR (Ta P laid) base W0→AP base W0 μ H W→Br (Ta P laid) μ→Aq μ args args'.toList→F args H=some (v,H')→
  Calls P f args' W fun e W'=>∃v' μ',e= .returned v'∧AP base W0 μ' H' W'∧AH μ' v v'∧Ac μ H μ' H'
noncomputable def TI:List (FuncId × Cn)→FuncId→Option Cn
 | [],_=>none
 | p::r,f=>bif Nat.beq p.1 f then some p.2 else TI r f
noncomputable def Cp (P:Program) (laid:List (Nat × List Value)) (fs:List (FuncId × Cn)):Ctx:=⟨P,laid,TI fs,Iz P⟩
theorem UM:∀{fs:List (FuncId × Cn)} {f:FuncId} {F:Cn},TI fs f=some F→(f,F)∈fs:=by
 intro fs
 induction fs with
 | nil=>intro f F h;cases h
 | cons p r ih=>
  intro f F h
  unfold TI at h
  cases hb:Nat.beq p.1 f
  ·rw[hb]at h;exact List.mem_cons_of_mem _ (ih h)
  ·rw[hb]at h;cases h
   have:=Nat.eq_of_beq_eq_true hb
   rw[←this];simp
def Aw (P:Program) (laid:List (Nat × List Value)) (fs:List (FuncId × Cn)):Prop:=∀p∈fs,Da P laid p.1 p.2
theorem Aw.nil (P:Program) (laid:List (Nat × List Value)):Aw P laid []:=fun _ h=>by cases h
theorem Aw.cons {P:Program} {laid:List (Nat × List Value)} {f:FuncId} {F:Cn} {fs:List (FuncId × Cn)} (h:Da P laid f F) (h':Aw P laid fs):Aw P laid ((f,F)::fs):=by
 intro p hp
 rcases List.mem_cons.1 hp with rfl | hp
 ·exact h
 ·exact h' p hp
theorem Aw.FL {P:Program} {laid:List (Nat × List Value)} {fs:List (FuncId × Cn)} (h:Aw P laid fs) (base:Env) (W0:World) (hW:DR (Cp P laid fs) base W0):Cr (Cp P laid fs) base W0:=by
 intro f F hf
 have hp:=h _ (UM hf)
 exact⟨hp.1,fun μ H W args args' v H' hH hl ha hF=>hp.2 base W0 μ H W args args' v H' hW hH hl ha hF⟩
theorem VB {P:Program} {laid:List (Nat × List Value)} {k:Nw} (h:IH P laid k):Da P laid k.f (SQ k):=by
 refine⟨h.1,?_⟩
 intro base W0 μ H W args args' v H' hW hH hl ha hF
 unfold SQ at hF
 cases hb:Hg (HQ 8) args k.args
 ·rw[hb]at hF;cases hF
 ·rw[hb]at hF;cases hF
  obtain rfl:=Gm (PU 8) _ _ hb
  exact h.2 base W0 μ H W args' hW hH ha
end Go.AD

namespace Go.AD
inductive AV where
 | flat (v:Value)
 | row (k:EK) (l:List (EK.C k))
def argsAt:Nat→List AV→List Value
 | _,[]=>[]
 | n,.flat v::r=>v::argsAt n r
 | n,.row _ l::r=> .slice (some ⟨n,0,some 0⟩) l.length AF::argsAt (n+1) r
noncomputable def O4 (H:AA) (ro:Bool):List (Σ k:EK,List (EK.C k))→AA
 | []=>H
 | ⟨k,l⟩::r=>O4 (H.alloc (.vec k l ro)) ro r
inductive RV where
 | one (a:AV)
 | many (l:List AV)
inductive RT where
 | fail
 | ret (r:RV)
 | test (c:Bool) (a b:RT)
def RT.run:RT→Option RV
 | .fail=>none
 | .ret r=>some r
 | .test c a b=>bif c then a.run else b.run
def RT.Sv:RT→(RV→Prop)→Prop
 | .fail,_=>False
 | .ret r,K=>K r
 | .test c a b,K=>bif c then a.Sv K else b.Sv K
theorem RT.Fa {K:RV→Prop}:∀{t:RT},t.Sv K→∃r,t.run=some r∧K r
 | .fail,h=>by cases h
 | .ret r,h=>⟨r,rfl,h⟩
 | .test c a b,h=>by
  cases c
  ·exact RT.Fa (t:=b) h
  ·exact RT.Fa (t:=a) h
def RV.list:RV→List AV
 | .one a=>[a]
 | .many l=>l
def RV.val (n:Nat):RV→Value
 | .one a=>match argsAt n [a]with
  | [v]=>v
  | _=>A5
 | .many l=> .tuple ⟨argsAt n l⟩
abbrev Row:=Σ k:EK,List (EK.C k)
def nodupB:List Nat→Bool
 | []=>true
 | b::r=> !(r.any (Nat.beq b))&&nodupB r
theorem LY {ρ:Ren}:∀(n:Nat) (v:Value),Ch n v=true→Bl ρ n v=some v:=by
 intro n
 induction n with
 | zero=>intro v h;cases h
 | succ n ih=>
  have hl:∀l:List Value,l.all (Ch n)=true→Cz (Bl ρ n) l=some l:=by
   intro l
   induction l with
   | nil=>intro _;rfl
   | cons a l ihl=>
    intro h
    simp only[List.all_cons,Bool.and_eq_true]at h
    simp only[Cz,ih a h.1,ihl h.2]
  intro v h
  cases v with
  | iface t v=>simp only[Ch]at h;simp only[Bl,ih v h,Option.map_some]
  | agg cs=>simp only[Ch]at h;simp only[Bl,hl _ h,Option.map_some]
  | tuple cs=>simp only[Ch]at h;simp only[Bl,hl _ h,Option.map_some]
  | pointer a=>cases a with
   | none=>rfl
   | some a=>simp[Ch]at h
  | slice a l c=>cases a with
   | none=>rfl
   | some a=>simp[Ch]at h
  | map a=>cases a with
   | none=>rfl
   | some a=>simp[Ch]at h
  | _=>first | rfl | (simp[Ch]at h)
def posOf (b:Nat):List Nat→Option Nat
 | []=>none
 | a::r=>if b=a then some 0 else(posOf b r).map (·+1)
theorem Jq {b:Nat}:∀{l:List Nat} {j:Nat},posOf b l=some j→l[j]? = some b
 | [],_,h=>by cases h
 | a::r,j,h=>by
  unfold posOf at h
  split at h
  ·rename_i e;cases h;rw[e];rfl
  ·obtain⟨q,h1,rfl⟩:=Option.map_eq_some_iff.1 h
   rw[List.getElem?_cons_succ]
   exact Jq h1
theorem Hq {b:Nat}:∀{l:List Nat} {j:Nat},l.Nodup→l[j]? = some b→posOf b l=some j
 | [],_,_,h=>by cases h
 | a::r,0,_,h=>by
  simp only[List.getElem?_cons_zero,Option.some.injEq]at h
  unfold posOf;rw[if_pos h.symm]
 | a::r,j+1,hn,h=>by
  simp only[List.getElem?_cons_succ]at h
  have hn:=List.nodup_cons.1 hn
  have hne:b≠a:=by rintro rfl;exact hn.1 (List.mem_of_getElem? h)
  unfold posOf;rw[if_neg hne,Hq hn.2 h];rfl
theorem U8 {l:List Nat} (hn:l.Nodup) {i j b:Nat} (h1:l[i]? = some b) (h2:l[j]? = some b):i=j:=by
 have e1:=Hq hn h1
 rw[Hq hn h2]at e1
 cases e1;rfl
end Go.AD

namespace Go.AD
structure Ud where
 v:Value
 Ja:List (Option AJ)
 news:List AJ
inductive GT where
 | fail
 | ret (x:Ud)
 | test (c:Bool) (a b:GT)
 | ask (p:Prop) (a:GT)
open Classical in
noncomputable def GT.run:GT→Option Ud
 | .fail=>none
 | .ret x=>some x
 | .test c a b=>bif c then a.run else b.run
 | .ask p a=>if p then a.run else none
def GT.Sv:GT→(Ud→Prop)→Prop
 | .fail,_=>False
 | .ret x,K=>K x
 | .test c a b,K=>bif c then a.Sv K else b.Sv K
 | .ask p a,K=>p∧a.Sv K
theorem GT.Fa {K:Ud→Prop}:∀{t:GT},t.Sv K→∃x,t.run=some x∧K x
 | .fail,h=>by cases h
 | .ret x,h=>⟨x,rfl,h⟩
 | .test c a b,h=>by
  cases c
  ·exact GT.Fa (t:=b) h
  ·exact GT.Fa (t:=a) h
 | .ask p a,h=>by
  obtain⟨x,h1,h2⟩:=GT.Fa (t:=a) h.2
  exact⟨x,by simp only[GT.run];rw[if_pos h.1];exact h1,h2⟩
def Ka (laid:List (Nat × List Value)) (N:Nat) (b:Nat):Option Nat:=bif Nat.blt b N&&laid.any (fun p=>Nat.beq b p.1)then some b else none
def EW (laid:List (Nat × List Value)) (N:Nat) (bs:List Nat):Ren:=fun b=>bif Nat.blt b N then Ka laid N b else bs[b - N]?
def PM (laid:List (Nat × List Value)) (N:Nat) (bs:List Nat):Ren:=fun b=>bif Nat.blt b N then Ka laid N b else Qo b bs N
noncomputable def VK (ρ:Ren) (H:AA):List Nat→Option (List AJ)
 | []=>some []
 | b::r=>match H.get b with
  | some o=>match BR ρ o,VK ρ H r with
   | some o1,some l=>some (o1::l)
   | _,_=>none
  | none=>none
noncomputable def Em:AJ→List Nat
 | .cells cs _ _=>cs.flatMap (Af 4)
 | .vec [.tok] l _=>List.flatMap (Af 4) l
 | _=>[]
noncomputable def Ax (H:AA) (N:Nat):Nat→List Nat→List Nat→List Nat
 | 0,_,seen=>seen
 | f+1,todo,seen=>match todo with
  | []=>seen
  | b::r=>bif Nat.blt b N||seen.any (Nat.beq b)then Ax H N f r seen else
   match H.get b with
   | some o=>Ax H N f (Em o++r) (seen++[b])
   | none=>Ax H N f r seen
def Dv (muts:List Bool) (j:Nat):Bool:=muts.getD j false
def Fm (muts:List Bool):Nat→List AJ→List AJ
 | _,[]=>[]
 | j,o::r=>(bif Dv muts j then o else IZ o)::Fm muts (j+1) r
noncomputable def BW (H:AA):List AJ→AA
 | []=>H
 | o::r=>BW (H.alloc o) r
noncomputable def HZ (muts:List Bool) (H:AA):Nat→List Nat→Bool
 | _,[]=>true
 | j,b::r=>(bif Dv muts j then(match H.get b with | some o=> !o.ro | none=>false)else true)&&HZ muts H (j+1) r
noncomputable def Kh (ρ:Ren) (muts:List Bool) (H:AA):Nat→List Nat→List (Option AJ)→Option AA
 | _,[],_=>some H
 | j,b::r,os=>bif Dv muts j then
  match os with
  | some o::os=>match BR ρ o with
   | some o1=>bif o1.ro then none else Kh ρ muts (H.put b o1) (j+1) r os
   | none=>none
  | none::os=>Kh ρ muts (H.del b) (j+1) r os
  | []=>Kh ρ muts (H.del b) (j+1) r []
  else Kh ρ muts H (j+1) r os.tail
noncomputable def Ym (ρ:Ren) (H:AA):List AJ→Option AA
 | []=>some H
 | o::r=>match BR ρ o with
  | some o1=>bif o1.ro then none else Ym ρ (H.alloc o1) r
  | none=>none
def FF (laid:List (Nat × List Value)) (N:Nat) (bs:List Nat) (nx k:Nat):Ren:=EW laid N (bs++(List.range k).map (nx+·))
noncomputable def OM (laid:List (Nat × List Value)) (N:Nat) (muts:List Bool) (bs:List Nat) (H:AA) (x:Ud):Option (Value × AA):=
 match EG (FF laid N bs H.next x.news.length) x.v,Kh (FF laid N bs H.next x.news.length) muts H 0 bs x.Ja with
 | some v,some H1=>match Ym (FF laid N bs H.next x.news.length) H1 x.news with
  | some H2=>some (v,H2)
  | none=>none
 | _,_=>none
noncomputable def A3 (laid:List (Nat × List Value)) (N:Nat) (muts:List Bool) (G:List Value→List AJ→GT):Cn:=fun args H=>
 match Cz (EG (PM laid N (Ax H N 200 (args.flatMap (Af 4)) []))) args,VK (PM laid N (Ax H N 200 (args.flatMap (Af 4)) [])) H (Ax H N 200 (args.flatMap (Af 4)) [])with
 | some argsc,some objs=>bif HZ muts H 0 (Ax H N 200 (args.flatMap (Af 4)) [])then
  match (G argsc objs).run with
  | some x=>OM laid N muts (Ax H N 200 (args.flatMap (Af 4)) []) H x
  | none=>none
  else none
 | _,_=>none
noncomputable def B0 (laid:List (Nat × List Value)) (N:Nat) (muts:List Bool) (G:List Value→List AJ→GT):FJ:=fun args H K=>
 match Cz (EG (PM laid N (Ax H N 200 (args.flatMap (Af 4)) []))) args,VK (PM laid N (Ax H N 200 (args.flatMap (Af 4)) [])) H (Ax H N 200 (args.flatMap (Af 4)) [])with
 | some argsc,some objs=>bif HZ muts H 0 (Ax H N 200 (args.flatMap (Af 4)) [])then
  (G argsc objs).Sv fun x=>match OM laid N muts (Ax H N 200 (args.flatMap (Af 4)) []) H x with
   | some (v,H')=>K v H'
   | none=>False
  else False
 | _,_=>False
theorem Ak {X:Ctx} {laid:List (Nat × List Value)} {f:FuncId} {N:Nat} {muts:List Bool} {G:List Value→List AJ→GT} (hX:X.FL f=some (A3 laid N muts G)) {args:List Value} {H:AA} {K:Value→AA→Prop} (h:B0 laid N muts G args H K):
 ∃v H',Bp X f args .normal H=some (v,H')∧K v H':=by
 unfold B0 at h
 split at h
 ·rename_i argsc objs h1 h2
  cases hm:HZ muts H 0 (Ax H N 200 (args.flatMap (Af 4)) [])
  ·simp only[hm,cond_false]at h
  ·simp only[hm,cond_true]at h
   obtain⟨x,hx,h3⟩:=GT.Fa h
   split at h3
   ·rename_i v H' he
    refine⟨v,H',?_,h3⟩
    unfold Bp
    simp only[hX]
    unfold A3
    simp only[h1,h2,hm,cond_true,hx,he]
   ·cases h3
 ·cases h
def Ci (laid:List (Nat × List Value)) (N m:Nat) (muts:List Bool) (x:Ud) (v:Value) (Hf:AA):Prop:=
 ∃ns:List Nat,ns.Nodup∧(∀b∈ns,N+m≤b)∧ns.length=x.news.length∧EG (F6 laid N m ns) x.v=some v∧
  (∀(j b:Nat) (o:AJ),ns[j]? = some b→x.news[j]? = some o→∃o1,BR (F6 laid N m ns) o=some o1∧Hf.get b=some o1)∧
  (∀(j:Nat) (o:AJ),j < m→Dv muts j=true→x.Ja[j]? = some (some o)→∃o1,BR (F6 laid N m ns) o=some o1∧Hf.get (N+j)=some o1)
where
 F6 (laid:List (Nat × List Value)) (N m:Nat) (ns:List Nat):Ren:=fun b=>if b < N then Ka laid N b else if b < N+m then some b else ns[b - (N+m)]?
end Go.AD

namespace Go.AD
theorem Ez {f g:Value→Option Value} (h:∀v w,f v=some w→g w=some v):∀(l m:List Value),Cz f l=some m→Cz g m=some l
 | [],_,e=>by cases e;rfl
 | v::l,m,e=>by
  simp only[Cz]at e
  split at e
  ·rename_i w k e1 e2
   cases e
   simp only[Cz,h _ _ e1,Ez h l k e2]
  ·cases e
theorem Nx {σ τ:Ren} (h:∀b c,σ b=some c→τ c=some b):∀(n:Nat) (v w:Value),Bl σ n v=some w→Bl τ n w=some v:=by
 intro n
 induction n with
 | zero=>intro v w e;cases e
 | succ n ih=>
  intro v w e
  cases v with
  | bool b=>cases e;rfl
  | int k m=>cases e;rfl
  | float k m=>cases e;rfl
  | string s=>cases e;rfl
  | pointer a=>
   cases a with
   | none=>cases e;rfl
   | some a=>
    simp only[Bl,Option.map_eq_some_iff]at e
    obtain⟨a1,h1,rfl⟩:=e
    obtain⟨b,o,s,i,rfl,h2,rfl⟩:=Di h1
    simp only[Bl,ON,h _ _ h2,Option.map_some]
  | slice a l c=>
   cases a with
   | none=>cases e;rfl
   | some a=>
    simp only[Bl,Option.map_eq_some_iff]at e
    obtain⟨a1,h1,rfl⟩:=e
    obtain⟨b,o,s,i,rfl,h2,rfl⟩:=Di h1
    simp only[Bl,ON,h _ _ h2,Option.map_some]
  | map a=>
   cases a with
   | none=>cases e;rfl
   | some a=>
    simp only[Bl,Option.map_eq_some_iff]at e
    obtain⟨i,h1,rfl⟩:=e
    simp only[Bl,h _ _ h1,Option.map_some]
  | nilFunc=>cases e;rfl
  | nilIface=>cases e;rfl
  | iface t v=>
   simp only[Bl,Option.map_eq_some_iff]at e
   obtain⟨w1,h1,rfl⟩:=e
   simp only[Bl,ih _ _ h1,Option.map_some]
  | agg cs=>
   simp only[Bl,Option.map_eq_some_iff]at e
   obtain⟨l,h1,rfl⟩:=e
   simp only[Bl,Ez ih _ _ h1,Option.map_some]
  | tuple cs=>
   simp only[Bl,Option.map_eq_some_iff]at e
   obtain⟨l,h1,rfl⟩:=e
   simp only[Bl,Ez ih _ _ h1,Option.map_some]
  | func f xs ys=>
   cases f with
   | func f=>
    simp only[Bl]at e
    split at e
    ·rename_i a b e1 e2
     cases e
     simp only[Bl,Ez ih _ _ e1,Ez ih _ _ e2]
    ·cases e
   | _=>simp[Bl]at e
  | chan c=>
   cases c with
   | none=>simp[Bl]at e
   | some k=>
    cases k with
    | zero=>cases e;rfl
    | succ k=>simp[Bl]at e
  | _=>simp[Bl]at e
theorem Qh {σ τ:Ren} (h:∀b c,σ b=some c→τ c=some b) {o o1:AJ} (e:BR σ o=some o1):BR τ o1=some o:=by
 cases o with
 | cells cs k ro=>
  simp only[BR,Option.map_eq_some_iff]at e
  obtain⟨l,h1,rfl⟩:=e
  simp only[BR,Ez (Nx h 6) _ _ h1,Option.map_some]
 | vec k l ro=>
  rcases LM e with⟨l2,l1,e2,h1,rfl⟩ | ⟨hk,rfl⟩
  ·cases e2
   exact MP (Ez (Nx h 6) _ _ h1)
  ·exact G5 _ hk _ _
 | abs a ro=>
  simp only[BR]at e
  cases hx:a.Ff
  ·simp[hx]at e
  ·simp only[hx,cond_true,Option.some.injEq]at e
   subst e
   simp only[BR,hx,cond_true]
 | _=>simp[BR]at e
theorem Ed {f g k:Value→Option Value} (h:∀v w,f v=some w→g w=k v):∀(l m:List Value),Cz f l=some m→Cz g m=Cz k l
 | [],_,e=>by cases e;rfl
 | v::l,m,e=>by
  simp only[Cz]at e
  split at e
  ·rename_i w q e1 e2
   cases e
   simp only[Cz,h _ _ e1,Ed h l q e2]
  ·cases e
theorem Lp {σ τ υ:Ren} (h:∀b c,σ b=some c→τ c=υ b):∀(n:Nat) (v w:Value),Bl σ n v=some w→Bl τ n w=Bl υ n v:=by
 intro n
 induction n with
 | zero=>intro v w e;cases e
 | succ n ih=>
  intro v w e
  cases v with
  | bool b=>cases e;rfl
  | int k m=>cases e;rfl
  | float k m=>cases e;rfl
  | string s=>cases e;rfl
  | pointer a=>
   cases a with
   | none=>cases e;rfl
   | some a=>
    simp only[Bl,Option.map_eq_some_iff]at e
    obtain⟨a1,h1,rfl⟩:=e
    obtain⟨b,o,s,i,rfl,h2,rfl⟩:=Di h1
    simp only[Bl,ON,h _ _ h2]
  | slice a l c=>
   cases a with
   | none=>cases e;rfl
   | some a=>
    simp only[Bl,Option.map_eq_some_iff]at e
    obtain⟨a1,h1,rfl⟩:=e
    obtain⟨b,o,s,i,rfl,h2,rfl⟩:=Di h1
    simp only[Bl,ON,h _ _ h2]
  | map a=>
   cases a with
   | none=>cases e;rfl
   | some a=>
    simp only[Bl,Option.map_eq_some_iff]at e
    obtain⟨i,h1,rfl⟩:=e
    simp only[Bl,h _ _ h1]
  | nilFunc=>cases e;rfl
  | nilIface=>cases e;rfl
  | iface t v=>
   simp only[Bl,Option.map_eq_some_iff]at e
   obtain⟨w1,h1,rfl⟩:=e
   simp only[Bl,ih _ _ h1]
  | agg cs=>
   simp only[Bl,Option.map_eq_some_iff]at e
   obtain⟨l,h1,rfl⟩:=e
   simp only[Bl,Ed ih _ _ h1]
  | tuple cs=>
   simp only[Bl,Option.map_eq_some_iff]at e
   obtain⟨l,h1,rfl⟩:=e
   simp only[Bl,Ed ih _ _ h1]
  | func f xs ys=>
   cases f with
   | func f=>
    simp only[Bl]at e
    split at e
    ·rename_i a b e1 e2
     cases e
     simp only[Bl,Ed ih _ _ e1,Ed ih _ _ e2]
    ·cases e
   | _=>simp[Bl]at e
  | chan c=>
   cases c with
   | none=>simp[Bl]at e
   | some k=>
    cases k with
    | zero=>cases e;rfl
    | succ k=>simp[Bl]at e
  | _=>simp[Bl]at e
theorem Nh {σ τ υ:Ren} (h:∀b c,σ b=some c→τ c=υ b) {o o1:AJ} (e:BR σ o=some o1):BR τ o1=BR υ o:=by
 cases o with
 | cells cs k ro=>
  simp only[BR,Option.map_eq_some_iff]at e
  obtain⟨l,h1,rfl⟩:=e
  simp only[BR,Ed (Lp h 6) _ _ h1]
 | vec k l ro=>
  rcases LM e with⟨l2,l1,e2,h1,rfl⟩ | ⟨hk,rfl⟩
  ·cases e2
   show(Cz (EG τ) l1).map _=(Cz (EG υ) l2).map _
   rw[Ed (Lp h 6) _ _ h1]
  ·rw[G5 _ hk,G5 _ hk]
 | abs a ro=>
  simp only[BR]at e
  cases hx:a.Ff
  ·simp[hx]at e
  ·simp only[hx,cond_true,Option.some.injEq]at e
   subst e
   simp only[BR,hx,cond_true]
 | _=>simp[BR]at e
theorem Jy {ρ:Ren} {o o1:AJ} (h:BR ρ o=some o1):BR ρ (IZ o)=some (IZ o1)∧(IZ o).ro=true:=by
 cases o with
 | cells cs k ro=>
  simp only[BR,Option.map_eq_some_iff]at h
  obtain⟨l,h1,rfl⟩:=h
  exact⟨by simp only[IZ,BR,h1,Option.map_some],rfl⟩
 | vec k l ro=>
  rcases LM h with⟨l2,l1,e2,h1,rfl⟩ | ⟨hk,rfl⟩
  ·cases e2
   exact⟨MP h1,rfl⟩
  ·exact⟨G5 _ hk _ _,rfl⟩
 | abs a ro=>
  simp only[BR]at h
  cases hx:a.Ff
  ·simp[hx]at h
  ·simp only[hx,cond_true,Option.some.injEq]at h
   subst h
   exact⟨by simp only[IZ,BR,hx,cond_true],rfl⟩
 | _=>simp[BR]at h
section
variable {laid:List (Nat × List Value)} {N:Nat} {bs:List Nat}
theorem Lc {b i:Nat} (h:Ka laid N b=some i):i=b∧b < N∧laid.any (fun p=>Nat.beq b p.1)=true:=by
 unfold Ka at h
 cases hc:(Nat.blt b N&&laid.any (fun p=>Nat.beq b p.1))
 ·simp only[hc,cond_false]at h;cases h
 ·simp only[hc,cond_true,Option.some.injEq]at h
  simp only[Bool.and_eq_true]at hc
  exact⟨h.symm,Nat.le_of_ble_eq_true hc.1,hc.2⟩
theorem Hu {b:Nat} (h:b < N):EW laid N bs b=Ka laid N b:=by
 unfold EW
 rw[show Nat.blt b N=true from Nat.ble_eq_true_of_le h];rfl
theorem Dm {b:Nat} (h:N≤b):EW laid N bs b=bs[b - N]?:=by
 unfold EW
 cases hb:Nat.blt b N
 ·rfl
 ·have:b < N:=Nat.le_of_ble_eq_true hb;omega
theorem Ro {b c:Nat} (h:PM laid N bs b=some c):EW laid N bs c=some b:=by
 unfold PM at h
 cases hb:Nat.blt b N
 ·simp only[hb,cond_false]at h
  obtain⟨h1,h2,h3⟩:=MM h
  rw[Dm h1];exact h3
 ·simp only[hb,cond_true]at h
  obtain⟨rfl,h2,_⟩:=Lc h
  rw[Hu h2];exact h
end
theorem PL {ρ:Ren} {H:AA}:∀{bs:List Nat} {objs:List AJ},VK ρ H bs=some objs→objs.length=bs.length∧∀(j b:Nat),bs[j]? = some b→∃o o1,H.get b=some o∧BR ρ o=some o1∧objs[j]? = some o1
 | [],_,h=>by cases h;exact⟨rfl,fun j b hb=>by cases hb⟩
 | a::r,objs,h=>by
  simp only[VK]at h
  split at h
  ·rename_i o ho
   split at h
   ·rename_i o1 l h1 h2
    cases h
    obtain⟨i1,i2⟩:=PL h2
    refine⟨by simp[i1],fun j b hb=>?_⟩
    cases j with
    | zero=>
     simp only[List.getElem?_cons_zero,Option.some.injEq]at hb
     subst hb
     exact⟨o,o1,ho,h1,rfl⟩
    | succ j=>exact i2 j b hb
   ·cases h
  ·cases h
theorem KS (muts:List Bool):∀(objs:List AJ) (j0 j:Nat),(Fm muts j0 objs)[j]? = (objs[j]?).map fun o=>bif Dv muts (j0+j)then o else IZ o
 | [],j0,j=>by simp[Fm]
 | o::r,j0,0=>by simp[Fm]
 | o::r,j0,j+1=>by
  simp only[Fm,List.getElem?_cons_succ]
  rw[KS muts r (j0+1) j,show j0+1+j=j0+(j+1) by omega]
theorem Jk (muts:List Bool):∀(objs:List AJ) (j0:Nat),(Fm muts j0 objs).length=objs.length
 | [],_=>rfl
 | o::r,j0=>by simp[Fm,Jk muts r]
theorem Nj:∀(l:List AJ) (H:AA),(BW H l).next=H.next+l.length
 | [],_=>rfl
 | o::r,H=>by
  simp only[BW]
  rw[Nj r]
  show H.next+1+r.length=_
  simp only[List.length_cons];omega
theorem E6:∀(l:List AJ) (H:AA) (i:Nat),(BW H l).get i=if i < H.next then H.get i else match l[i - H.next]? with | some o=>some o | none=>H.get i
 | [],H,i=>by simp only[BW,List.getElem?_nil];split<;>rfl
 | o::r,H,i=>by
  simp only[BW]
  rw[E6 r]
  have hn:(H.alloc o).next=H.next+1:=rfl
  rw[hn]
  by_cases h1:i < H.next
  ·rw[if_pos (by omega),if_pos h1,AA.AR,if_neg (by omega)]
  ·rw[if_neg h1]
   by_cases h2:i=H.next
   ·subst h2
    rw[if_pos (by omega),AA.AR,if_pos rfl,Nat.sub_self]
    rfl
   ·rw[if_neg (by omega),show i - H.next=(i - (H.next+1))+1 by omega,List.getElem?_cons_succ,AA.AR,if_neg h2]
theorem Ml {muts:List Bool} {H:AA}:∀{bs:List Nat} {j0:Nat},HZ muts H j0 bs=true→∀(j b:Nat),bs[j]? = some b→Dv muts (j0+j)=true→∃o,H.get b=some o∧o.ro=false
 | [],_,_,j,b,hb,_=>by cases hb
 | a::r,j0,h,j,b,hb,hm=>by
  simp only[HZ,Bool.and_eq_true]at h
  cases j with
  | zero=>
   simp only[List.getElem?_cons_zero,Option.some.injEq]at hb
   subst hb
   rw[Nat.add_zero]at hm
   rw[hm]at h
   simp only[cond_true]at h
   cases hg:H.get a with
   | none=>rw[hg]at h;cases h.1
   | some o=>rw[hg]at h;exact⟨o,rfl,by simpa using h.1⟩
  | succ j=>exact Ml h.2 j b hb (by rw[show j0+1+j=j0+(j+1) by omega];exact hm)
theorem NU {ρ:Ren} {muts:List Bool}:∀{bs:List Nat} {H H1:AA} {j0:Nat} {os:List (Option AJ)},Kh ρ muts H j0 bs os=some H1→bs.Nodup→
 H1.next=H.next∧(∀i,i∉bs→H1.get i=H.get i)∧(∀(j b:Nat),bs[j]? = some b→Dv muts (j0+j)=false→H1.get b=H.get b)∧
 (∀(j b:Nat) (o1:AJ),bs[j]? = some b→Dv muts (j0+j)=true→H1.get b=some o1→∃o,os[j]? = some (some o)∧BR ρ o=some o1∧o1.ro=false)
 | [],H,H1,j0,os,h,_=>by cases h;exact⟨rfl,fun _ _=>rfl,fun j b hb=>(by cases hb),fun j b o1 hb=>(by cases hb)⟩
 | a::r,H,H1,j0,os,h,hn=>by
  have hn:=List.nodup_cons.1 hn
  have step:∀(H2:AA) (os2:List (Option AJ)) (hn2:H2.next=H.next) (hg2:∀i,i≠a→H2.get i=H.get i) (hos:∀j,os2[j]? = os[j+1]?),Kh ρ muts H2 (j0+1) r os2=some H1→(Dv muts j0=false→H2.get a=H.get a)→(∀o1,Dv muts j0=true→H2.get a=some o1→∃o,os[0]? = some (some o)∧BR ρ o=some o1∧o1.ro=false)→
   H1.next=H.next∧(∀i,i∉a::r→H1.get i=H.get i)∧(∀(j b:Nat),(a::r)[j]? = some b→Dv muts (j0+j)=false→H1.get b=H.get b)∧
   (∀(j b:Nat) (o1:AJ),(a::r)[j]? = some b→Dv muts (j0+j)=true→H1.get b=some o1→∃o,os[j]? = some (some o)∧BR ρ o=some o1∧o1.ro=false):=by
   intro H2 os2 hn2 hg2 hos hb h0 h1
   obtain⟨i1,i2,i3,i4⟩:=NU hb hn.2
   refine⟨i1.trans hn2,fun i hi=>?_,fun j b hj hm=>?_,fun j b o1 hj hm hg=>?_⟩
   ·rw[i2 i (fun h=>hi (List.mem_cons_of_mem _ h)),hg2 i (fun h=>hi (h ▸ List.mem_cons_self))]
   ·cases j with
    | zero=>
     simp only[List.getElem?_cons_zero,Option.some.injEq]at hj
     subst hj
     rw[i2 a hn.1];exact h0 hm
    | succ j=>
     have hj:r[j]? = some b:=hj
     rw[i3 j b hj (by rw[show j0+1+j=j0+(j+1) by omega];exact hm),hg2 b]
     rintro rfl;exact hn.1 (List.mem_of_getElem? hj)
   ·cases j with
    | zero=>
     simp only[List.getElem?_cons_zero,Option.some.injEq]at hj
     subst hj
     rw[i2 a hn.1]at hg
     exact h1 o1 hm hg
    | succ j=>
     have hj:r[j]? = some b:=hj
     obtain⟨o,q1,q2⟩:=i4 j b o1 hj (by rw[show j0+1+j=j0+(j+1) by omega];exact hm) hg
     rw[hos j]at q1
     exact⟨o,q1,q2⟩
  unfold Kh at h
  cases hm:Dv muts j0
  ·simp only[hm,cond_false]at h
   exact step H os.tail rfl (fun _ _=>rfl) (fun j=>by cases os<;>simp) h (fun _=>rfl) (fun o1 hh=>by rw[hm]at hh;cases hh)
  ·simp only[hm,cond_true]at h
   split at h
   ·rename_i o os2
    split at h
    ·rename_i o1 ho1
     cases hro:o1.ro
     ·simp only[hro,cond_false]at h
      exact step (H.put a o1) os2 rfl (fun i hi=>by rw[AA.AN,if_neg hi]) (fun _=>rfl) h (fun hh=>by rw[hm]at hh;cases hh) (fun o2 _ hg=>by
       rw[AA.AN,if_pos rfl]at hg;cases hg;exact⟨o,rfl,ho1,hro⟩)
     ·simp only[hro,cond_true]at h;cases h
    ·cases h
   ·rename_i os2
    exact step (H.del a) os2 rfl (fun i hi=>by rw[AA.B5,if_neg hi]) (fun _=>rfl) h (fun hh=>by rw[hm]at hh;cases hh) (fun o2 _ hg=>by rw[AA.B5,if_pos rfl]at hg;cases hg)
   ·exact step (H.del a) [] rfl (fun i hi=>by rw[AA.B5,if_neg hi]) (fun _=>rfl) h (fun hh=>by rw[hm]at hh;cases hh) (fun o2 _ hg=>by rw[AA.B5,if_pos rfl]at hg;cases hg)
theorem P5 {ρ:Ren}:∀{l:List AJ} {H H1:AA},Ym ρ H l=some H1→H1.next=H.next+l.length∧(∀i,i < H.next→H1.get i=H.get i)∧(∀i o1,H.next≤i→i < H.next+l.length→H1.get i=some o1→∃o,l[i - H.next]? = some o∧BR ρ o=some o1∧o1.ro=false)∧(∀i,H.next+l.length≤i→H1.get i=H.get i)
 | [],H,H1,h=>by cases h;exact⟨rfl,fun _ _=>rfl,fun i o1 h1 h2=>by simp at h2;omega,fun _ _=>rfl⟩
 | o::r,H,H1,h=>by
  simp only[Ym]at h
  split at h
  ·rename_i o1 ho1
   cases hro:o1.ro
   ·simp only[hro,cond_false]at h
    obtain⟨i1,i2,i3,i4⟩:=P5 h
    have hn:(H.alloc o1).next=H.next+1:=rfl
    rw[hn]at i1 i2 i3 i4
    simp only[List.length_cons]
    refine⟨by omega,fun i hi=>?_,fun i o2 h1 h2 hg=>?_,fun i hi=>?_⟩
    ·rw[i2 i (by omega),AA.AR,if_neg (by omega)]
    ·by_cases e:i=H.next
     ·subst e
      rw[i2 _ (by omega),AA.AR,if_pos rfl]at hg
      cases hg
      exact⟨o,by rw[Nat.sub_self];rfl,ho1,hro⟩
     ·obtain⟨o3,q1,q2⟩:=i3 i o2 (by omega) (by omega) hg
      exact⟨o3,by rw[show i - H.next=(i - (H.next+1))+1 by omega,List.getElem?_cons_succ];exact q1,q2⟩
    ·rw[i4 i (by omega),AA.AR,if_neg (by omega)]
   ·simp only[hro,cond_true]at h;cases h
  ·cases h
theorem Wz {μ:Ah}:∀(n:Nat) (v v':Value),AH μ v v'→∀b∈Af n v,∃T,μ b=some T:=by
 intro n
 induction n with
 | zero=>intro v v' _ b hb;cases hb
 | succ n ih=>
  intro v v' h b hb
  have hl:∀(l l':List Value),Aq μ l l'→b∈l.flatMap (Af n)→∃T,μ b=some T:=by
   intro l l' hr hm
   induction hr with
   | nil=>cases hm
   | cons h1 _ ihl=>
    rw[List.flatMap_cons,List.mem_append]at hm
    rcases hm with hm | hm
    ·exact ih _ _ h1 b hm
    ·exact ihl hm
  cases h with
  | A5=>simp[Af,A5]at hb
  | ptr c o T hm=>simp only[Af,List.mem_singleton]at hb;subst hb;exact⟨T,hm⟩
  | GC c o j T hm=>simp only[Af,List.mem_singleton]at hb;subst hb;exact⟨T,hm⟩
  | slice c o l k k' o' T hm _ _=>simp only[Af,List.mem_singleton]at hb;subst hb;exact⟨T,hm⟩
  | Bt c j l k k' o' T hm _ _ _=>simp only[Af,List.mem_singleton]at hb;subst hb;exact⟨T,hm⟩
  | DC c j k T _ hm _=>simp only[Af,List.mem_singleton]at hb;subst hb;exact⟨T,hm⟩
  | Cl c j l k k' o' T M hm _ _ _ _=>simp only[Af,List.mem_singleton]at hb;subst hb;exact⟨T,hm⟩
  | Fe c j k T _ hm _=>simp only[Af,List.mem_singleton]at hb;subst hb;exact⟨T,hm⟩
  | map c T hm=>simp only[Af,List.mem_singleton]at hb;subst hb;exact⟨T,hm⟩
  | iface t a a' ha=>exact ih _ _ ha b hb
  | agg xs xs' hx ex=>
   obtain⟨ys,he,hl2⟩:=AH.CT.1 (.agg xs xs' hx ex)
   exact hl _ _ hl2 hb
  | tuple xs xs' hx ex=>
   obtain⟨ys,he,hl2⟩:=AH.Bf.1 (.tuple xs xs' hx ex)
   exact hl _ _ hl2 hb
  | func fn fn' xs xs' ys ys' hf hx ex hy ey=>
   obtain⟨fn2,xs2,ys2,he,hf2,EB,hy2⟩:=AH.CC.1 (.func fn fn' xs xs' ys ys' hf hx ex hy ey)
   simp only[Af,List.mem_append]at hb
   rcases hb with hb | hb
   ·exact hl _ _ EB hb
   ·exact hl _ _ hy2 hb
  | _=>cases hb
theorem IC {μ:Ah} {l l':List Value} (h:Aq μ l l'):∀b∈l.flatMap (Af 4),∃T,μ b=some T:=by
 intro b hb
 induction h with
 | nil=>cases hb
 | cons h1 _ ih=>
  rw[List.flatMap_cons,List.mem_append]at hb
  rcases hb with hb | hb
  ·exact Wz 4 _ _ h1 b hb
  ·exact ih hb
theorem Se {k:EK} {l:List (EK.C k)} {ro:Bool} {c:Nat} (h:c∈Em (.vec k l ro)):∃l':List (EK.C [.tok]),(⟨k,l⟩:(k:EK) × List (EK.C k))=⟨[.tok],l'⟩∧c∈List.flatMap (Af 4) l':=by
 unfold Em at h
 split at h
 ·rename_i heq;cases heq
 ·rename_i l2 ro2 he
  cases he
  exact⟨l2,rfl,h⟩
 ·cases h
theorem IK {base:Env} {W0 W:World} {μ:Ah} {H:AA} (hH:AP base W0 μ H W) {N:Nat}:∀(f:Nat) (todo seen:List Nat),(∀b∈todo,∃T,μ b=some T)→(seen.Nodup∧∀b∈seen,N≤b∧∃T,μ b=some T)→
 (Ax H N f todo seen).Nodup∧∀b∈Ax H N f todo seen,N≤b∧∃T,μ b=some T:=by
 intro f
 induction f with
 | zero=>intro todo seen _ h;exact h
 | succ f ih=>
  intro todo seen ht hs
  unfold Ax
  split
  ·exact hs
  ·rename_i b r
   cases hc:(Nat.blt b N||seen.any (Nat.beq b))
   ·simp only[cond_false]
    simp only[Bool.or_eq_false_iff]at hc
    obtain⟨T,hT⟩:=ht b (by simp)
    have hNb:N≤b:=by
     rcases Nat.lt_or_ge b N with h | h
     ·have:=Nat.ble_eq_true_of_le h
      rw[show Nat.ble (b+1) N=Nat.blt b N from rfl,hc.1]at this;cases this
     ·exact h
    split
    ·rename_i o ho
     refine ih _ _ (fun c hc2=>?_) ⟨?_,fun c hc2=>?_⟩
     ·rcases List.mem_append.1 hc2 with hc2 | hc2
      ·cases o with
       | cells cs e ro=>
        obtain⟨o',_,hr⟩:=hH.obj b _ ho T hT
        cases hr with
        | cells _ _ _ arr t lo hi he hcl hr hf=>exact IC hcl c hc2
       | vec k l ro=>
        obtain⟨l2,he,hc3⟩:=Se hc2
        cases he
        obtain⟨o',_,hr⟩:=hH.obj b _ ho T hT
        cases hr with
        | vec _ _ _ _ hc=>
         rw[Gh]at hc
         cases hc with
         | cells _ _ _ arr t lo hi he hcl hr hf=>exact IC hcl c hc3
        | FC _ _ _ _ _ _=>cases hc3
       | _=>simp[Em]at hc2
      ·exact ht c (by simp[hc2])
     ·rw[List.nodup_append]
      refine⟨hs.1,by simp,?_⟩
      intro x hx y hy
      simp only[List.mem_singleton]at hy
      subst hy
      rintro rfl
      have:=List.any_eq_true.2 ⟨x,hx,Nat.beq_refl x⟩
      rw[hc.2]at this;cases this
     ·rcases List.mem_append.1 hc2 with hc2 | hc2
      ·exact hs.2 c hc2
      ·simp only[List.mem_singleton]at hc2;subst hc2;exact⟨hNb,T,hT⟩
    ·exact ih _ _ (fun c hc2=>ht c (by simp[hc2])) hs
   ·simp only[cond_true]
    exact ih _ _ (fun c hc2=>ht c (by simp[hc2])) hs
end Go.AD

namespace Go.AD
def CF (b nx i:Nat):Nat:=if i=0 then b else nx+(i - 1)
def D0 (b nx n:Nat) (ext:List Nat:=[]):Ren:=fun i=>if i < n then some (CF b nx i)else ext[i - n]?
def Kl (ro:Bool) (o:AJ):AJ:=if ro then IZ o else o
theorem Vp {μ:Ah} {T:CN} {o:AJ} {o':Obj} {ro:Bool} (h:CZ μ T o o'):CZ μ T (Kl ro o) o':=by
 cases ro
 ·exact h
 ·exact QY h
theorem Eg {ro:Bool} {o:AJ} {T:CN}:(Kl ro o).void T ↔ o.void T:=by
 cases ro
 ·exact Iff.rfl
 ·exact NK
theorem Zt {ro:Bool} {o:AJ} (hp:o.Ga=true) (h:o.ro=false):(Kl ro o).ro=ro:=by
 cases ro
 ·exact h
 ·cases o<;>first | rfl | cases hp
structure JD (H:AA) (b:Nat) (ro:Bool) (objs:List AJ) (H':AA) (ext:List Nat:=[]):Prop where
 next:H'.next=H.next+(objs.length - 1)
 DN:∀x,x≠b→x < H.next→H'.get x=H.get x
 top:∀x,H'.next≤x→H'.get x=none
 obj:∀(i:Nat) (o:AJ),objs[i]? = some o→∃o1,BR (D0 b H.next objs.length ext) (Kl ro o)=some o1∧H'.get (CF b H.next i)=some o1
section
variable {base:Env} {W0:World} {μ:Ah} {H:AA} {W:World}
theorem AP.opened (h:AP base W0 μ H W) {b:Nat} {s:Pk} {ro:Bool} {T:CN} (hb:H.get b=some (.abs (.pack s) ro)) (hm:μ b=some T):
 ∃objs,Dl s objs∧∀H',JD H b ro objs H' (D7 s)→∃μ',AP base W0 μ' H' W∧Ac μ H μ' H':=by
 obtain⟨φ,q⟩:=h.abs
 obtain⟨hrep,hK⟩:=q.rep b _ ro T hb hm
 have hrep:F1 μ W s T (φ b):=hrep
 have hlt:=h.lt hb
 generalize hFb:φ b=F at hrep
 cases hrep with
 | mk _ objs ts Fs _ _ hr hl hT hroot hobj hcell hbld hmem hext hpack hdis hF=>
  refine⟨objs,hr,fun H' hH=>?_⟩
  have h0:0 < objs.length:=by
   rcases Nat.eq_zero_or_pos objs.length with h | h
   ·rw[List.getElem?_eq_none (by omega)]at hT;cases hT
   ·exact h
  let μ':Ah:=fun x=>if H.next≤x∧x < H.next+(objs.length - 1)then ts[x - H.next+1]? else μ x
  have mlow:∀x,x < H.next→μ' x=μ x:=fun x hx=>by show(if _ then _ else _)=_;rw[if_neg (by omega)]
  have mpk:∀i,i < objs.length→μ' (CF b H.next i)=ts[i]?:=by
   intro i hi
   unfold CF
   by_cases e:i=0
   ·subst e
    rw[if_pos rfl,mlow b hlt,hm,hT]
   ·rw[if_neg e]
    show(if _ then _ else _)=_
    rw[if_pos (by omega),show H.next+(i - 1) - H.next+1=i by omega]
  have mtop:∀x,H'.next≤x→μ' x=none:=by
   intro x hx
   rw[hH.next]at hx
   show(if _ then _ else _)=_
   rw[if_neg (by omega)]
   exact(h.fresh x (by omega)).2
  have mle:μ.le μ':=by
   intro x X e
   rcases Nat.lt_or_ge x H.next with hx | hx
   ·rw[mlow x hx];exact e
   ·rw[(h.fresh x hx).2]at e;cases e
  have key:∀x o1,H'.get x=some o1→(∃i o,i < objs.length∧objs[i]? = some o∧x=CF b H.next i∧BR (D0 b H.next objs.length (D7 s)) (Kl ro o)=some o1)∨(x≠b∧x < H.next∧H.get x=some o1):=by
   intro x o1 hx
   have pk:∀i,i < objs.length→x=CF b H.next i→∃i o,i < objs.length∧objs[i]? = some o∧x=CF b H.next i∧BR (D0 b H.next objs.length (D7 s)) (Kl ro o)=some o1:=by
    intro i hi e
    obtain⟨o2,r1,r2⟩:=hH.obj i _ (List.getElem?_eq_getElem hi)
    rw[←e,hx]at r2;cases r2
    exact⟨i,_,hi,List.getElem?_eq_getElem hi,e,r1⟩
   by_cases e:x=b
   ·exact .inl (pk 0 h0 (by unfold CF;rw[if_pos rfl];exact e))
   ·rcases Nat.lt_or_ge x H.next with EB | EB
    ·exact .inr ⟨e,EB,by rw[←hH.DN x e EB];exact hx⟩
    ·rcases Nat.lt_or_ge x H'.next with hx3 | hx3
     ·rw[hH.next]at hx3
      exact .inl (pk (x - H.next+1) (by omega) (by unfold CF;rw[if_neg (by omega)];omega))
     ·rw[hH.top x hx3]at hx;cases hx
  have pinj:∀i j,i < objs.length→j < objs.length→CF b H.next i=CF b H.next j→i=j:=by
   intro i j hi hj e
   unfold CF at e
   by_cases e1:i=0
   ·by_cases e2:j=0
    ·omega
    ·rw[if_pos e1,if_neg e2]at e;omega
   ·by_cases e2:j=0
    ·rw[if_neg e1,if_pos e2]at e;omega
    ·rw[if_neg e1,if_neg e2]at e;omega
  have own:∀i o T',objs[i]? = some o→ts[i]? = some T'→(¬o.void T'→Fs i T'.c)∧(∀x,Fs i x→F x):=by
   intro i o T' ho ht
   have hi:i < objs.length:=(List.getElem?_eq_some_iff.1 ho).1
   refine⟨?_,fun x hx=>(hF x).2 ⟨i,hi,hx⟩⟩
   cases hab:o.isAbs
   ·exact fun hv=>(hcell i o T' ho ht hab _).2 ⟨rfl,hv⟩
   ·obtain⟨a,r,rfl⟩:=Cw hab
    cases a with
    | UG t e l=>exact fun _=>(EZ.FV (hbld i t e l r T' ho ht)).1
    | pack s'=>exact fun _=>(F1.FV (hpack i s' r T' ho ht)).1
    | mem k L=>obtain⟨us,hu⟩:=hmem i k L r T' ho ht;exact fun _=>hu.FV.1
  have rep:∀i a r T',objs[i]? = some (.abs a r)→ts[i]? = some T'→Ct μ a T' (Fs i) W:=by
   intro i a r T' ho ht
   cases a with
   | UG t e l=>exact hbld i t e l r T' ho ht
   | pack s'=>exact hpack i s' r T' ho ht
   | mem k L=>exact hmem i k L r T' ho ht
  have absOf:∀{o:AJ} {a:AZ} {r:Bool},BR (D0 b H.next objs.length (D7 s)) (Kl ro o)=some (.abs a r)→∃r0,o= .abs a r0∧(r0=false→r=ro):=by
   intro o a r e
   have e1:=((DL e).2.2 a r rfl).1
   cases ro
   ·exact⟨r,e1,fun h=>h⟩
   ·cases o<;>first | (cases e1;done) | skip
    rename_i a0 r0
    have e1:AJ.abs a0 true= .abs a r:=e1
    cases e1
    exact⟨r0,rfl,fun _=>rfl⟩
  refine⟨μ',⟨?_,?_,?_,?_,?_,h.size,h.below,h.out,h.os,?_,Ah.le_trans h.le mle,h.grow⟩,⟨mle,by rw[hH.next];omega,?_⟩⟩
  ·intro x o1 hx T' hT'
   rcases key x o1 hx with⟨i,o,hi,ho,rfl,hr1⟩ | ⟨hxb,hxl,EB⟩
   ·rw[mpk i hi]at hT'
    obtain⟨_,_,o',r1,r2⟩:=hobj i o T' ho hT'
    refine⟨o',r1,Qk (μ:=MQ μ ts (D7 s)) (fun p j X hp hX=>?_) hr1 (Vp r2)⟩
    unfold D0 at hp
    split at hp
    ·rename_i hpl
     cases hp
     rw[S6 (by omega)]at hX
     rw[mpk p hpl];exact hX
    ·rename_i hpl
     unfold MQ at hX
     rw[if_neg (by omega),hl,hp]at hX
     exact mle _ _ hX
   ·rw[mlow x hxl]at hT'
    obtain⟨o',r1,r2⟩:=h.obj x o1 EB T' hT'
    exact⟨o',r1,r2.mono mle⟩
  ·intro x o1 hx hro T' hT' hv
   rcases key x o1 hx with⟨i,o,hi,ho,rfl,hr1⟩ | ⟨hxb,hxl,EB⟩
   ·rw[mpk i hi]at hT'
    obtain⟨g1,g2,_⟩:=hobj i o T' ho hT'
    have e1:ro=false:=by rw[←Zt (ro:=ro) g2 g1,←(DL hr1).1];exact hro
    obtain⟨f1,f2⟩:=own i o T' ho hT'
    exact hK e1 _ (by rw[hFb];exact f2 _ (f1 (fun hw=>hv (((Bo hr1 T').trans Eg).2 hw))))
   ·rw[mlow x hxl]at hT'
    exact h.own x o1 EB hro T' hT' hv
  ·intro x y o1 o2 hx hy T1 T2 h1 h2 v1 v2 hc
   rcases key x o1 hx with⟨i,o,hi,ho,rfl,hr1⟩ | ⟨hxb,hxl,EB⟩
   ·rcases key y o2 hy with⟨j,p,hj,hp,rfl,hr2⟩ | ⟨hyb,hyl,hy2⟩
    ·rw[mpk i hi]at h1
     rw[mpk j hj]at h2
     have f1:=(own i o T1 ho h1).1 (fun hw=>v1 (((Bo hr1 T1).trans Eg).2 hw))
     have f2:=(own j p T2 hp h2).1 (fun hw=>v2 (((Bo hr2 T2).trans Eg).2 hw))
     rw[hc]at f1
     rw[hdis i j _ hi hj f1 f2]
    ·rw[mpk i hi]at h1
     rw[mlow y hyl]at h2
     obtain⟨f1,f2⟩:=own i o T1 ho h1
     have f1:=f1 (fun hw=>v1 (((Bo hr1 T1).trans Eg).2 hw))
     have:=(q.Be b _ ro T hb hm y o2 T2 hy2 h2 hyb v2).1
     rw[hFb,←hc]at this
     exact absurd (f2 _ f1) this
   ·rcases key y o2 hy with⟨j,p,hj,hp,rfl,hr2⟩ | ⟨hyb,hyl,hy2⟩
    ·rw[mpk j hj]at h2
     rw[mlow x hxl]at h1
     obtain⟨f1,f2⟩:=own j p T2 hp h2
     have f1:=f1 (fun hw=>v2 (((Bo hr2 T2).trans Eg).2 hw))
     have:=(q.Be b _ ro T hb hm x o1 T1 EB h1 hxb v1).1
     rw[hFb,hc]at this
     exact absurd (f2 _ f1) this
    ·rw[mlow x hxl]at h1
     rw[mlow y hyl]at h2
     exact h.inj x y o1 o2 EB hy2 T1 T2 h1 h2 v1 v2 hc
  ·intro x hx
   exact⟨hH.top x hx,mtop x hx⟩
  ·intro x T' hT'
   have hx:H.next≤x∧x < H.next+(objs.length - 1)∨μ x=some T':=by
    by_cases c:H.next≤x∧x < H.next+(objs.length - 1)
    ·exact .inl c
    ·right
     have:(if H.next≤x∧x < H.next+(objs.length - 1)then ts[x - H.next+1]? else μ x)=some T':=hT'
     rwa [if_neg c]at this
   rcases hx with hx | hx
   ·have:(if H.next≤x∧x < H.next+(objs.length - 1)then ts[x - H.next+1]? else μ x)=some T':=hT'
    rw[if_pos hx]at this
    have hi:x - H.next+1 < objs.length:=by omega
    obtain⟨_,_,o',r1,_⟩:=hobj (x - H.next+1) _ T' (List.getElem?_eq_getElem hi) this
    exact lt_of_heap r1
   ·exact h.bound x T' hx
  ·refine⟨fun x=>if x=b then Fs 0 else if H.next≤x then Fs (x - H.next+1)else φ x,?_,?_⟩
   all_goals
    have hφ:∀i,i < objs.length→(if CF b H.next i=b then Fs 0 else if H.next≤CF b H.next i then Fs (CF b H.next i - H.next+1)else φ (CF b H.next i))=Fs i:=by
     intro i hi
     unfold CF
     by_cases e:i=0
     ·subst e;simp
     ·rw[if_neg e,if_neg (by omega),if_pos (by omega),show H.next+(i - 1) - H.next+1=i by omega]
    have hφ2:∀x,x≠b→x < H.next→(if x=b then Fs 0 else if H.next≤x then Fs (x - H.next+1)else φ x)=φ x:=fun x e hx=>by rw[if_neg e,if_neg (by omega)]
   ·intro x a r T' hx hT'
    rcases key x _ hx with⟨i,o,hi,ho,rfl,hr1⟩ | ⟨hxb,hxl,EB⟩
    ·simp only[hφ i hi]
     rw[mpk i hi]at hT'
     obtain⟨r0,rfl,hr0⟩:=absOf hr1
     refine⟨(rep i a r0 T' ho hT').mono mle,fun hr y hy=>?_⟩
     have g1:=(hobj i _ T' ho hT').1
     exact hK (by rw[←hr0 g1];exact hr) y (by rw[hFb];exact(own i _ T' ho hT').2 y hy)
    ·simp only[hφ2 x hxb hxl]
     rw[mlow x hxl]at hT'
     obtain⟨w1,w2⟩:=q.rep x a r T' EB hT'
     exact⟨w1.mono mle,w2⟩
   ·intro x a r T' hx hT' y o2 T2 hy hT2 hne hv2
    rcases key x _ hx with⟨i,o,hi,ho,rfl,hr1⟩ | ⟨hxb,hxl,EB⟩
    ·rw[mpk i hi]at hT'
     simp only[hφ i hi]
     rcases key y o2 hy with⟨j,p,hj,hp,rfl,hr2⟩ | ⟨hyb,hyl,hy2⟩
     ·rw[mpk j hj]at hT2
      simp only[hφ j hj]
      have hij:i≠j:=fun e=>hne (by rw[e])
      exact⟨fun e=>hij (hdis i j _ hi hj e ((own j p T2 hp hT2).1 (fun hw=>hv2 (((Bo hr2 T2).trans Eg).2 hw)))),fun _ z hz hz2=>hij (hdis i j z hi hj hz hz2)⟩
     ·rw[mlow y hyl]at hT2
      simp only[hφ2 y hyb hyl]
      have hf:=q.Be b _ ro T hb hm y o2 T2 hy2 hT2 hyb hv2
      rw[hFb]at hf
      exact⟨fun e=>hf.1 ((own i o T' ho hT').2 _ e),fun hab z hz hz2=>hf.2 hab z ((own i o T' ho hT').2 _ hz) hz2⟩
    ·rw[mlow x hxl]at hT'
     simp only[hφ2 x hxb hxl]
     rcases key y o2 hy with⟨j,p,hj,hp,rfl,hr2⟩ | ⟨hyb,hyl,hy2⟩
     ·rw[mpk j hj]at hT2
      simp only[hφ j hj]
      have hf:=(q.Be x a r T' EB hT' b _ T hb hm (Ne.symm hxb) id).2 rfl
      rw[hFb]at hf
      exact⟨fun e=>hf _ e ((own j p T2 hp hT2).2 _ ((own j p T2 hp hT2).1 (fun hw=>hv2 (((Bo hr2 T2).trans Eg).2 hw)))),fun _ z hz hz2=>hf z hz ((own j p T2 hp hT2).2 z hz2)⟩
     ·rw[mlow y hyl]at hT2
      simp only[hφ2 y hyb hyl]
      exact q.Be x a r T' EB hT' y o2 T2 hy2 hT2 hne hv2
  ·intro x hx hn
   rw[mlow x hx]
   refine⟨hn,?_⟩
   have:x≠b:=by rintro rfl;rw[hm]at hn;cases hn
   exact hH.DN x this hx
end
end Go.AD

namespace Go.AD
def U3 (bs ext:List Nat):Ren:=fun i=>if i < bs.length then bs[i]? else ext[i - bs.length]?
theorem Ew (bs:List Nat):U3 bs []=fun i=>bs[i]?:=by
 funext i
 unfold U3
 split
 ·rfl
 ·rename_i h
  rw[List.getElem?_eq_none (l:=bs) (by omega)];rfl
open Classical in
structure eN (H:AA) (s:Pk) (bs:List Nat) (H':AA):Prop where
 next:H'.next=H.next
 root:∀b,bs[0]? = some b→H'.get b=some (.abs (.pack s) false)
 rest:∀i b,0 < i→bs[i]? = some b→H'.get b=none
 DN:∀x,x∉bs→H'.get x=H.get x
section
variable {base:Env} {W0:World} {μ:Ah} {H:AA} {W:World}
theorem AP.shut (h:AP base W0 μ H W) {s:Pk} {objs:List AJ} {bs:List Nat} (hr:Dl s objs) (hnd:bs.Nodup) (hlen:bs.length=objs.length) (hne:objs≠[])
 (hmap:∀b∈bs,∃T,μ b=some T) (hobj:∀(i b:Nat) (o:AJ),bs[i]? = some b→objs[i]? = some o→∃o1,H.get b=some o1∧o1.ro=false∧o1.Ga=true∧BR (U3 bs (D7 s)) o=some o1)
 {H':AA} (hS:eN H s bs H') (hroot:∀o T,objs[0]? = some o→¬o.void T):AP base W0 μ H' W∧Ac μ H μ H':=by
 obtain⟨φ,q⟩:=h.abs
 have h0:0 < objs.length:=List.length_pos_iff.2 hne
 let tg:Nat→CN:=fun b=>(μ b).getD ⟨0,0,0,0⟩
 have htg:∀b∈bs,μ b=some (tg b):=by
  intro b hb
  obtain⟨T,hT⟩:=hmap b hb
  show μ b=some ((μ b).getD _)
  rw[hT];rfl
 let ts:List CN:=bs.map tg
 have hts:∀(i b:Nat),bs[i]? = some b→ts[i]? = some (tg b):=fun i b hb=>by show(bs.map tg)[i]? = _;rw[List.getElem?_map,hb];rfl
 have tsl:ts.length=objs.length:=by show(bs.map tg).length=_;rw[List.length_map,hlen]
 have bat:∀(i:Nat),i < objs.length→∃b,bs[i]? = some b:=fun i hi=>⟨_,List.getElem?_eq_getElem (by omega)⟩
 have mem:∀{i b:Nat},bs[i]? = some b→b∈bs:=fun hb=>List.mem_of_getElem? hb
 have tsb:∀(i:Nat) (T':CN),ts[i]? = some T'→∃b,bs[i]? = some b∧T'=tg b∧μ b=some T':=by
  intro i T' ht
  have ht:(bs.map tg)[i]? = some T':=ht
  rw[List.getElem?_map]at ht
  cases hb:bs[i]? with
  | none=>rw[hb]at ht;cases ht
  | some b=>rw[hb]at ht;cases ht;exact⟨b,rfl,rfl,htg b (mem hb)⟩
 have uniq:∀(i j b:Nat),bs[i]? = some b→bs[j]? = some b→i=j:=by
  intro i j b hi hj
  obtain⟨hi1,hi2⟩:=List.getElem?_eq_some_iff.1 hi
  obtain⟨hj1,hj2⟩:=List.getElem?_eq_some_iff.1 hj
  have hp:=List.pairwise_iff_getElem.1 hnd
  rcases Nat.lt_trichotomy i j with hh | hh | hh
  ·exact absurd (hi2.trans hj2.symm) (hp i j hi1 hj1 hh)
  ·exact hh
  ·exact absurd (hj2.trans hi2.symm) (hp j i hj1 hi1 hh)
 let Fs:Nat→Nat→Prop:=fun i x=>∃b o,bs[i]? = some b∧H.get b=some o∧((o.isAbs=true∧φ b x)∨(o.isAbs=false∧x=(tg b).c∧¬o.void (tg b)))
 have oab:∀(i b:Nat) (o:AJ),bs[i]? = some b→objs[i]? = some o→∃o1,H.get b=some o1∧o1.ro=false∧o1.Ga=true∧BR (U3 bs (D7 s)) o=some o1∧o.isAbs=o1.isAbs∧o.ro=false:=by
  intro i b o hb ho
  obtain⟨o1,r1,r2,r3,r4⟩:=hobj i b o hb ho
  obtain⟨e1,e2,e3⟩:=DL r4
  exact⟨o1,r1,r2,r3,r4,e2.symm,by rw[←e1];exact r2⟩
 have Fs_cell:∀(i b:Nat) (o1:AJ),bs[i]? = some b→H.get b=some o1→o1.isAbs=false→∀x,Fs i x ↔ (x=(tg b).c∧¬o1.void (tg b)):=by
  intro i b o1 hb hg hab x
  constructor
  ·rintro⟨b2,o2,g1,g2,g3⟩
   rw[hb]at g1;cases g1
   rw[hg]at g2;cases g2
   rcases g3 with⟨g3,_⟩ | ⟨_,g3⟩
   ·rw[hab]at g3;cases g3
   ·exact g3
  ·intro e;exact⟨b,o1,hb,hg,.inr ⟨hab,e⟩⟩
 have Fs_abs:∀(i b:Nat) (o1:AJ),bs[i]? = some b→H.get b=some o1→o1.isAbs=true→∀x,Fs i x ↔ φ b x:=by
  intro i b o1 hb hg hab x
  constructor
  ·rintro⟨b2,o2,g1,g2,g3⟩
   rw[hb]at g1;cases g1
   rw[hg]at g2;cases g2
   rcases g3 with⟨_,g3⟩ | ⟨g3,_⟩
   ·exact g3
   ·rw[hab]at g3;cases g3
  ·intro e;exact⟨b,o1,hb,hg,.inl ⟨hab,e⟩⟩
 have apart:∀b1 o1 b2 o2,b1≠b2→H.get b1=some o1→H.get b2=some o2→∀T1 T2,μ b1=some T1→μ b2=some T2→∀x,((o1.isAbs=true∧φ b1 x)∨(o1.isAbs=false∧x=T1.c∧¬o1.void T1))→((o2.isAbs=true∧φ b2 x)∨(o2.isAbs=false∧x=T2.c∧¬o2.void T2))→False:=by
  intro b1 o1 b2 o2 hne12 g1 g2 T1 T2 m1 m2 x p1 p2
  rcases p1 with⟨a1,p1⟩ | ⟨a1,p1,v1⟩
  ·obtain⟨a,r,rfl⟩:=Cw a1
   rcases p2 with⟨a2,p2⟩ | ⟨a2,p2,v2⟩
   ·exact(q.Be b1 a r T1 g1 m1 b2 o2 T2 g2 m2 (Ne.symm hne12) (Tu a2 T2)).2 a2 x p1 p2
   ·rw[p2]at p1;exact(q.Be b1 a r T1 g1 m1 b2 o2 T2 g2 m2 (Ne.symm hne12) v2).1 p1
  ·rcases p2 with⟨a2,p2⟩ | ⟨a2,p2,v2⟩
   ·obtain⟨a,r,rfl⟩:=Cw a2
    have hf:=q.Be b2 a r T2 g2 m2 b1 o1 T1 g1 m1 hne12 v1
    rw[p1]at p2;exact hf.1 p2
   ·exact hne12 (h.inj b1 b2 o1 o2 g1 g2 T1 T2 m1 m2 v1 v2 (by rw[←p1,←p2]))
 have root:∀(i b:Nat) (o1:AJ),bs[i]? = some b→H.get b=some o1→¬o1.void (tg b)→Fs i (tg b).c:=by
  intro i b o1 hb hg hv
  cases hab:o1.isAbs
  ·exact(Fs_cell i b o1 hb hg hab _).2 ⟨rfl,hv⟩
  ·obtain⟨a,r,rfl⟩:=Cw hab
   exact(Fs_abs i b _ hb hg rfl _).2 (Ct.FV _ _ _ _ (q.rep b a r _ hg (htg b (mem hb))).1).1
 obtain⟨b0,hb0⟩:=bat 0 h0
 let F:Nat→Prop:=fun x=>∃i,i < objs.length∧Fs i x
 have hrep:F1 μ W s (tg b0) F:=by
  refine .mk s objs ts Fs _ F hr tsl (hts 0 b0 hb0) (fun o ho=>hroot o _ ho) ?_ ?_ ?_ ?_ ?_ ?_ ?_ (fun x=>Iff.rfl)
  ·intro i o T' ho ht
   obtain⟨b,hb,rfl,hm⟩:=tsb i T' ht
   obtain⟨o1,r1,r2,r3,r4,r5,r6⟩:=oab i b o hb ho
   obtain⟨o',s1,s2⟩:=h.obj b o1 r1 _ hm
   refine⟨r6,?_,o',s1,Ls (ν:=μ) (fun p j X hp hX=>?_) r4 s2⟩
   ·cases o1<;>cases o<;>first | rfl | (simp[BR]at r4;done) | (cases r3;done) | skip
    all_goals (simp[BR]at r4)
   ·unfold U3 at hp
    split at hp
    ·rename_i hpl
     rw[S6 (by omega),hts p j hp]
     have:=htg j (mem hp)
     rw[hX]at this;exact this.symm
    ·rename_i hpl
     unfold MQ
     rw[if_neg (by omega),tsl,←hlen,hp]
     exact hX
  ·intro i o T' ho ht hab x
   obtain⟨b,hb,rfl,hm⟩:=tsb i T' ht
   obtain⟨o1,r1,r2,r3,r4,r5,r6⟩:=oab i b o hb ho
   rw[Fs_cell i b o1 hb r1 (by rw[←r5];exact hab) x]
   exact and_congr_right fun _=>not_congr (Bo r4 _)
  ·intro i t e l r T' ho ht
   obtain⟨b,hb,rfl,hm⟩:=tsb i T' ht
   obtain⟨o1,r1,r2,r3,r4,r5,r6⟩:=oab i b _ hb ho
   obtain⟨rfl,_⟩:=FR r4
   have h1:=(q.rep b _ r _ r1 hm).1
   have h2:Fs i=φ b:=funext fun x=>propext (Fs_abs i b _ hb r1 rfl x)
   rw[h2];exact h1
  ·intro i k L r T' ho ht
   obtain⟨b,hb,rfl,hm⟩:=tsb i T' ht
   obtain⟨o1,r1,r2,r3,r4,r5,r6⟩:=oab i b _ hb ho
   obtain⟨rfl,_⟩:=FR r4
   have h1:=(q.rep b _ r _ r1 hm).1
   have h2:Fs i=φ b:=funext fun x=>propext (Fs_abs i b _ hb r1 rfl x)
   rw[h2];exact h1
  ·intro i s' r ho
   obtain⟨b,hb⟩:=bat i (List.getElem?_eq_some_iff.1 ho).1
   obtain⟨o1,r1,r2,r3,r4,r5,r6⟩:=oab i b _ hb ho
   exact(FR r4).2
  ·intro i s' r T' ho ht
   obtain⟨b,hb,rfl,hm⟩:=tsb i T' ht
   obtain⟨o1,r1,r2,r3,r4,r5,r6⟩:=oab i b _ hb ho
   obtain⟨rfl,_⟩:=FR r4
   have h1:=(q.rep b _ r _ r1 hm).1
   have h2:Fs i=φ b:=funext fun x=>propext (Fs_abs i b _ hb r1 rfl x)
   rw[h2];exact h1
  ·rintro i j x hi hj ⟨b1,o1,g1,g2,g3⟩ ⟨b2,o2,k1,k2,k3⟩
   rcases Nat.decEq i j with hij | hij
   ·exfalso
    have hne12:b1≠b2:=by rintro rfl;exact hij (uniq i j b1 g1 k1)
    exact apart b1 o1 b2 o2 hne12 g2 k2 _ _ (htg b1 (mem g1)) (htg b2 (mem k1)) x g3 k3
   ·exact hij
 have hb0m:=htg b0 (mem hb0)
 obtain⟨o00,ho00⟩:∃o,objs[0]? = some o:=⟨_,List.getElem?_eq_getElem h0⟩
 obtain⟨o01,hg0,hro0,_,hr01,_,_⟩:=oab 0 b0 o00 hb0 ho00
 have hv01:∀T,¬o01.void T:=fun T hw=>hroot o00 T ho00 ((Bo hr01 T).1 hw)
 have key:∀x o1,H'.get x=some o1→(x=b0∧o1= .abs (.pack s) false)∨(x∉bs∧H.get x=some o1):=by
  intro x o1 hx
  by_cases hxb:x∈bs
  ·obtain⟨i,hi,e⟩:=List.getElem_of_mem hxb
   have hi':bs[i]? = some x:=by rw[List.getElem?_eq_getElem hi,e]
   by_cases e0:i=0
   ·subst e0
    rw[hb0]at hi';cases hi'
    rw[hS.root b0 hb0]at hx;cases hx
    exact .inl ⟨rfl,rfl⟩
   ·rw[hS.rest i x (by omega) hi']at hx;cases hx
  ·exact .inr ⟨hxb,by rw[←hS.DN x hxb];exact hx⟩
 have Fown:∀x,F x→¬base.K x:=by
  rintro x ⟨i,hi,b,o1,g1,g2,g3⟩
  obtain⟨o,ho⟩:∃o,objs[i]? = some o:=⟨_,List.getElem?_eq_getElem hi⟩
  obtain⟨o2,r1,r2,r3,r4,r5,r6⟩:=oab i b o g1 ho
  rw[g2]at r1;cases r1
  rcases g3 with⟨a,g3⟩ | ⟨a,g3,gv⟩
  ·obtain⟨a',r,rfl⟩:=Cw a
   exact(q.rep b a' r _ g2 (htg b (mem g1))).2 r2 x g3
  ·rw[g3];exact h.own b o1 g2 r2 _ (htg b (mem g1)) gv
 have Fout:∀x,F x→∀y o2 T2,y∉bs→H.get y=some o2→μ y=some T2→((o2.isAbs=true∧φ y x)∨(o2.isAbs=false∧x=T2.c∧¬o2.void T2))→False:=by
  rintro x ⟨i,hi,b,o1,g1,g2,g3⟩ y o2 T2 hy hg hm hp
  exact apart b o1 y o2 (by rintro rfl;exact hy (mem g1)) g2 hg _ _ (htg b (mem g1)) hm x g3 hp
 have hroot2:F (tg b0).c:=⟨0,h0,root 0 b0 o01 hb0 hg0 (hv01 _)⟩
 have cOf:∀y o2 T2,H.get y=some o2→μ y=some T2→¬o2.void T2→((o2.isAbs=true∧φ y T2.c)∨(o2.isAbs=false∧T2.c=T2.c∧¬o2.void T2)):=by
  intro y o2 T2 hg hm hv
  cases hab:o2.isAbs
  ·exact .inr ⟨rfl,rfl,hv⟩
  ·obtain⟨a,r,rfl⟩:=Cw hab
   exact .inl ⟨rfl,(Ct.FV _ _ _ _ (q.rep y a r T2 hg hm).1).1⟩
 refine⟨⟨?_,?_,?_,?_,h.bound,h.size,h.below,h.out,h.os,?_,h.le,h.grow⟩,⟨Ah.le_refl _,by rw[hS.next];exact Nat.le_refl _,?_⟩⟩
 ·intro x o1 hx T' hT'
  rcases key x o1 hx with⟨rfl,rfl⟩ | ⟨hxb,EB⟩
  ·obtain⟨o',r1,_⟩:=h.obj _ _ hg0 T' hT'
   exact⟨o',r1,.abs T' _ _ _⟩
  ·exact h.obj x o1 EB T' hT'
 ·intro x o1 hx hro T' hT' hv
  rcases key x o1 hx with⟨rfl,rfl⟩ | ⟨hxb,EB⟩
  ·exact h.own _ _ hg0 hro0 T' hT' (hv01 _)
  ·exact h.own x o1 EB hro T' hT' hv
 ·intro x y o1 o2 hx hy T1 T2 h1 h2 v1 v2 hc
  rcases key x o1 hx with⟨rfl,rfl⟩ | ⟨hxb,EB⟩
  ·rcases key y o2 hy with⟨rfl,rfl⟩ | ⟨hyb,hy2⟩
   ·rfl
   ·exact h.inj _ y _ o2 hg0 hy2 T1 T2 h1 h2 (hv01 _) v2 hc
  ·rcases key y o2 hy with⟨rfl,rfl⟩ | ⟨hyb,hy2⟩
   ·exact h.inj x _ o1 _ EB hg0 T1 T2 h1 h2 v1 (hv01 _) hc
   ·exact h.inj x y o1 o2 EB hy2 T1 T2 h1 h2 v1 v2 hc
 ·intro x hx
  rw[hS.next]at hx
  refine⟨?_,(h.fresh x hx).2⟩
  have:x∉bs:=fun hm=>by
   have:=htg x hm
   rw[(h.fresh x hx).2]at this;cases this
  rw[hS.DN x this];exact(h.fresh x hx).1
 ·refine⟨fun x=>if x=b0 then F else φ x,?_,?_⟩
  ·intro x a r T' hx hT'
   rcases key x _ hx with⟨rfl,e⟩ | ⟨hxb,EB⟩
   ·cases e
    rw[hb0m]at hT';cases hT'
    simp only[if_true]
    exact⟨hrep,fun _=>Fown⟩
   ·have:x≠b0:=by rintro rfl;exact hxb (mem hb0)
    simp only[if_neg this]
    exact q.rep x a r T' EB hT'
  ·intro x a r T' hx hT' y o2 T2 hy hT2 hne2 hv2
   rcases key x _ hx with⟨rfl,e⟩ | ⟨hxb,EB⟩
   ·cases e
    rcases key y o2 hy with⟨rfl,_⟩ | ⟨hyb,hy2⟩
    ·exact absurd rfl hne2
    ·simp only[if_true,if_neg hne2]
     exact⟨fun e=>Fout _ e y o2 T2 hyb hy2 hT2 (cOf y o2 T2 hy2 hT2 hv2),fun hab z hz hz2=>Fout z hz y o2 T2 hyb hy2 hT2 (.inl ⟨hab,hz2⟩)⟩
   ·have hxn:x≠b0:=by rintro rfl;exact hxb (mem hb0)
    rcases key y o2 hy with⟨rfl,e⟩ | ⟨hyb,hy2⟩
    ·rw[hb0m]at hT2;cases hT2
     simp only[if_true,if_neg hxn]
     exact⟨fun e=>Fout _ hroot2 x _ T' hxb EB hT' (.inl ⟨rfl,e⟩),fun _ z hz hz2=>Fout z hz2 x _ T' hxb EB hT' (.inl ⟨rfl,hz⟩)⟩
    ·have hyn:y≠b0:=by rintro rfl;exact hyb (mem hb0)
     simp only[if_neg hxn,if_neg hyn]
     exact q.Be x a r T' EB hT' y o2 T2 hy2 hT2 hne2 hv2
 ·intro x hx hn
  refine⟨hn,hS.DN x fun hm=>?_⟩
  have:=htg x hm
  rw[hn]at this;cases this
end
end Go.AD

namespace Go.AD
theorem ZA {laid:List (Nat × List Value)} {N:Nat} {bs:List Nat} {nx k b:Nat} (h:b < N):FF laid N bs nx k b=Ka laid N b:=Hu h
theorem Y0 {laid:List (Nat × List Value)} {N:Nat} {bs:List Nat} {nx k b:Nat} (h:N≤b) (h2:b < N+bs.length):FF laid N bs nx k b=bs[b - N]?:=by
 unfold FF
 rw[Dm h,List.getElem?_append_left (by omega)]
theorem aH {laid:List (Nat × List Value)} {N:Nat} {bs:List Nat} {nx k b:Nat} (h:N+bs.length≤b) (h2:b < N+bs.length+k):FF laid N bs nx k b=some (nx+(b - (N+bs.length))):=by
 unfold FF
 rw[Dm (by omega),List.getElem?_append_right (by omega),List.getElem?_map,List.getElem?_range (by omega)]
 simp only[Option.map_some,Option.some.injEq]
 omega
theorem Bs {P:Program} {laid:List (Nat × List Value)} {fs:List (FuncId × Cn)} (hfs:Aw P laid fs) (hm:P.follows .mixedOrders=true) {f:FuncId} {n N:Nat} (he:entry P f=some (n,Bb P f [])) (hN:(laid.all fun p=>Nat.blt p.1 N)=true)
 {muts:List Bool} {G:List Value→List AJ→GT} (hG:∀argsc objs x,(G argsc objs).run=some x→(∀(j:Nat) (o:AJ),objs[j]? = some o→Dv muts j=true→o.ro=false)→
  argsc.length≤n∧A4 (Cp P laid fs) (N+objs.length) (fun b=>N≤b∧b < N+objs.length) f (fun v Hf=>Ci laid N objs.length muts x v Hf) (GF f (B3 0 argsc .leaf) n (Bb P f []) (BW ⟨.leaf,N⟩ (Fm muts 0 objs)))):
 Da P laid f (A3 laid N muts G):=by
 refine⟨⟨n,_,he⟩,?_⟩
 intro base W0 μ H W args args' v H' hW hH hl ha hF
 unfold A3 at hF
 generalize hbs:Ax H N 200 (args.flatMap (Af 4)) []=bs at hF
 have hreach:=IK hH (N:=N) 200 (args.flatMap (Af 4)) [] (IC ha) ⟨List.nodup_nil,fun b hb=>by cases hb⟩
 rw[hbs]at hreach
 obtain⟨hnd,hbs2⟩:=hreach
 split at hF
 rotate_left
 ·cases hF
 rename_i argsc objs h1 h2
 cases hmu:HZ muts H 0 bs
 ·simp only[hmu,cond_false]at hF;cases hF
 simp only[hmu,cond_true]at hF
 split at hF
 rotate_left
 ·cases hF
 rename_i x hx
 unfold OM at hF
 split at hF
 rotate_left
 ·cases hF
 rename_i va Hb e1 e2
 split at hF
 rotate_left
 ·cases hF
 rename_i H2 e3
 cases hF
 obtain⟨ol,oget⟩:=PL h2
 obtain⟨n1,n2,n3,n4⟩:=P5 e3
 obtain⟨b1,b2,b3,b4⟩:=NU e2 hnd
 have hbsAt:∀(j b:Nat),bs[j]? = some b→N≤b∧∃T,μ b=some T:=fun j b hb=>hbs2 b (List.mem_of_getElem? hb)
 have hro:∀(j:Nat) (o:AJ),objs[j]? = some o→Dv muts j=true→o.ro=false:=by
  intro j o ho hmj
  have hj:j < bs.length:=by
   rcases Nat.lt_or_ge j objs.length with h | h
   ·omega
   ·rw[List.getElem?_eq_none h]at ho;cases ho
  obtain⟨p,p1,q1,q2,q3⟩:=oget j bs[j] (List.getElem?_eq_getElem hj)
  obtain⟨p',r1,r2⟩:=Ml hmu j bs[j] (List.getElem?_eq_getElem hj) (by rw[Nat.zero_add];exact hmj)
  rw[q1]at r1;cases r1
  rw[ho]at q3;cases q3
  rw[(DL q2).1];exact r2
 obtain⟨g1,g2⟩:=hG argsc objs x hx hro
 have hout:∀b i,EW laid N bs b=some i→(b < N∧laid.any (fun p=>Nat.beq b p.1)=true∧i=b)∨(N≤b∧bs[b - N]? = some i):=by
  intro b i hb
  rcases Nat.lt_or_ge b N with h | h
  ·rw[Hu h]at hb
   obtain⟨rfl,_,h3⟩:=Lc hb
   exact .inl ⟨h,h3,rfl⟩
  ·rw[Dm h]at hb;exact .inr ⟨h,hb⟩
 have hdomb:∀b i,EW laid N bs b=some i→∃T,μ i=some T:=by
  intro b i hb
  rcases hout b i hb with⟨_,h4,rfl⟩ | ⟨_,h4⟩
  ·obtain⟨T,h3,_⟩:=hl i h4;exact⟨T,h3⟩
  ·exact(hbsAt _ _ h4).2
 have hinj:∀b1 b2 i,EW laid N bs b1=some i→EW laid N bs b2=some i→b1=b2:=by
  intro c1 c2 i q1 q2
  rcases hout c1 i q1 with⟨a1,_,a3⟩ | ⟨a1,a2⟩<;>rcases hout c2 i q2 with⟨d1,_,d3⟩ | ⟨d1,d2⟩
  ·omega
  ·have:=(hbsAt _ _ d2).1;omega
  ·have:=(hbsAt _ _ a2).1;omega
  ·have:=U8 hnd a2 d2;omega
 have hiN:∀b i,EW laid N bs b=some i→i < H.next:=fun b i hb=>let ⟨_,hT⟩:=hdomb b i hb;hH.L5 hT
 have hHn:(BW ⟨.leaf,N⟩ (Fm muts 0 objs)).next=N+bs.length:=by rw[Nj,Jk,ol]
 have hlt:∀b i,EW laid N bs b=some i→b < (BW ⟨.leaf,N⟩ (Fm muts 0 objs)).next:=by
  intro b i hb
  rw[hHn]
  rcases hout b i hb with⟨h4,_,_⟩ | ⟨h4,h5⟩
  ·omega
  ·have:b - N < bs.length:=by
    rcases Nat.lt_or_ge (b - N) bs.length with h | h
    ·exact h
    ·rw[List.getElem?_eq_none h]at h5;cases h5
   omega
 have hHg:∀b o,(BW ⟨.leaf,N⟩ (Fm muts 0 objs)).get b=some o→N≤b∧∃o0,objs[b - N]? = some o0∧o=(bif Dv muts (b - N)then o0 else IZ o0):=by
  intro b o hb
  rw[E6]at hb
  simp only at hb
  by_cases h4:b < N
  ·rw[if_pos h4]at hb;cases hb
  ·rw[if_neg h4,KS,Nat.zero_add]at hb
   cases hq:objs[b - N]? with
   | none=>rw[hq]at hb;cases hb
   | some o0=>rw[hq]at hb;simp only[Option.map_some,Option.some.injEq]at hb;exact⟨by omega,o0,rfl,hb.symm⟩
 have hroV:∀b o,(BW ⟨.leaf,N⟩ (Fm muts 0 objs)).get b=some o→o.ro=false→Dv muts (b - N)=true:=by
  intro b o hb hr
  obtain⟨h4,o0,h5,rfl⟩:=hHg b o hb
  cases hmm:Dv muts (b - N)
  ·rw[hmm]at hr
   simp only[cond_false]at hr
   have hj:b - N < bs.length:=by
    rcases Nat.lt_or_ge (b - N) objs.length with h | h
    ·omega
    ·rw[List.getElem?_eq_none h]at h5;cases h5
   obtain⟨p,p1,q1,q2,q3⟩:=oget (b - N) _ (List.getElem?_eq_getElem hj)
   rw[h5]at q3;cases q3
   have:=(Jy (Qh (fun _ _ h=>Ro h) q2)).2
   rw[hr]at this;cases this
  ·rfl
 refine ep (X:=Cp P laid fs) (fun b W0 hW=>hfs.FL b W0 hW) (FY hm rfl) hW hH hl he (Hc:=BW ⟨.leaf,N⟩ (Fm muts 0 objs)) (argsc:=argsc) (ρ:=EW laid N bs) g1 (Ez (Nx (fun _ _ h=>Ro h) 6) _ _ h1) ha hlt hdomb hinj
  (by rw[n1,b1];omega) (fun g hg=>?_) (fun b o hb=>?_) (fun i hi hno=>?_) (fun i hi=>?_) ?_
 ·have hg:laid.any (fun p=>Nat.beq g p.1)=true:=hg
  have hgN:g < N:=by
   obtain⟨p,hp1,hp2⟩:=List.any_eq_true.1 hg
   have:=List.all_eq_true.1 hN p hp1
   rw[Nat.eq_of_beq_eq_true hp2];exact Nat.le_of_ble_eq_true this
  rw[Hu hgN]
  unfold Ka
  rw[show Nat.blt g N=true from Nat.ble_eq_true_of_le hgN,hg];rfl
 ·obtain⟨h4,o0,h5,rfl⟩:=hHg b o hb
  have hj:b - N < bs.length:=by
   rcases Nat.lt_or_ge (b - N) objs.length with h | h
   ·omega
   ·rw[List.getElem?_eq_none h]at h5;cases h5
  obtain⟨p,p1,q1,q2,q3⟩:=oget (b - N) _ (List.getElem?_eq_getElem hj)
  rw[h5]at q3;cases q3
  have hinv:=Qh (τ:=EW laid N bs) (fun _ _ h=>Ro h) q2
  refine⟨bs[b - N],p,by rw[Dm h4];exact List.getElem?_eq_getElem hj,q1,?_⟩
  cases hmm:Dv muts (b - N)
  ·exact .inr ⟨(Jy hinv).2,(Jy hinv).1⟩
  ·exact .inl hinv
 ·rw[n2 i (by rw[b1];exact hi)]
  by_cases hi2:i∈bs
  ·obtain⟨j,hj,hje⟩:=List.getElem_of_mem hi2
   have hjb:bs[j]? = some i:=by rw[List.getElem?_eq_getElem hj,hje]
   refine b3 j i hjb ?_
   cases hmm:Dv muts (0+j)
   ·rfl
   ·exfalso
    rw[Nat.zero_add]at hmm
    obtain⟨p,p1,q1,q2,q3⟩:=oget j i hjb
    have hg:(BW ⟨.leaf,N⟩ (Fm muts 0 objs)).get (N+j)=some p1:=by
     rw[E6]
     simp only
     rw[if_neg (by omega),KS,Nat.zero_add,show N+j - N=j by omega,q3]
     simp only[Option.map_some,hmm,cond_true]
    exact hno (N+j) p1 hg (hro j p1 q3 hmm) (by rw[Dm (by omega),show N+j - N=j by omega];exact hjb)
  ·exact b2 i hi2
 ·rw[n1,b1]at hi
  rw[n4 i (by rw[b1];exact hi)]
  have hge:H.next≤i:=by omega
  have hnb:i∉bs:=by
   intro hb
   obtain⟨_,T,hT⟩:=hbs2 i hb
   have:=hH.L5 hT;omega
  rw[b2 i hnb]
  exact(hH.fresh i hge).1
 ·rw[hHn,←ol]
  refine(g2.mono fun vc Hf ⟨ns,m1,m2,m3,m4,m5,m6⟩=>?_).sub fun b hb=>⟨bs[b - N]'(by omega),by rw[Dm hb.1];exact List.getElem?_eq_getElem _⟩
  have hcomp:∀c r,Ci.F6 laid N objs.length ns c=some r→(if r < N+objs.length then EW laid N bs r else(posOf r ns).map (H.next+·))=FF laid N bs H.next x.news.length c:=by
   intro c r hc
   unfold Ci.F6 at hc
   by_cases c1:c < N
   ·rw[if_pos c1]at hc
    obtain⟨rfl,_,_⟩:=Lc hc
    rw[if_pos (by omega),Hu c1,ZA c1]
   ·rw[if_neg c1]at hc
    by_cases c2:c < N+objs.length
    ·rw[if_pos c2]at hc
     cases hc
     rw[if_pos c2,Dm (by omega),Y0 (by omega) (by omega)]
    ·rw[if_neg c2]at hc
     have hj:c - (N+objs.length) < ns.length:=by
      rcases Nat.lt_or_ge (c - (N+objs.length)) ns.length with h | h
      ·exact h
      ·rw[List.getElem?_eq_none h]at hc;cases hc
     have hge:=m2 r (List.mem_of_getElem? hc)
     rw[if_neg (by omega),Hq m1 hc,aH (by omega) (by omega),ol];rfl
  refine⟨fun b=>if b < N+objs.length then EW laid N bs b else(posOf b ns).map (H.next+·),?_,?_,?_,?_,?_⟩
  ·intro c1 c2 i q1 q2
   by_cases d1:c1 < N+objs.length<;>by_cases d2:c2 < N+objs.length
   ·simp only[d1,d2,if_true]at q1 q2;exact hinj c1 c2 i q1 q2
   ·simp only[d1,d2,if_true,if_false]at q1 q2
    obtain⟨j,_,rfl⟩:=Option.map_eq_some_iff.1 q2
    have:=hiN _ _ q1;omega
   ·simp only[d1,d2,if_true,if_false]at q1 q2
    obtain⟨j,_,rfl⟩:=Option.map_eq_some_iff.1 q1
    have:=hiN _ _ q2;omega
   ·simp only[d1,d2,if_false]at q1 q2
    obtain⟨j1,w1,w2⟩:=Option.map_eq_some_iff.1 q1
    obtain⟨j2,w3,w4⟩:=Option.map_eq_some_iff.1 q2
    have:j1=j2:=by omega
    subst this
    have:=Jq w1
    rw[Jq w3]at this;cases this;rfl
  ·intro b hb
   rw[hHn,←ol]at hb
   simp only[hb,if_true]
  ·intro b i hb hge
   rw[hHn,←ol]at hge
   simp only[show ¬b < N+objs.length by omega,if_false]at hb
   obtain⟨j,w1,rfl⟩:=Option.map_eq_some_iff.1 hb
   have:=Jq w1
   have hj:j < ns.length:=by
    rcases Nat.lt_or_ge j ns.length with h | h
    ·exact h
    ·rw[List.getElem?_eq_none h]at this;cases this
   rw[n1,b1];omega
  ·intro i o hi hc
   by_cases hge:H.next≤i
   ·have hiu:i < H.next+x.news.length:=by
     rcases Nat.lt_or_ge i (H.next+x.news.length)with h | h
     ·exact h
     ·rw[n4 i (by rw[b1];exact h)]at hi
      have hnb:i∉bs:=by
       intro hb
       obtain⟨_,T,hT⟩:=hbs2 i hb
       have:=hH.L5 hT;omega
      rw[b2 i hnb,(hH.fresh i hge).1]at hi;cases hi
    obtain⟨o0,w1,w2,w3⟩:=n3 i o (by rw[b1];exact hge) (by rw[b1];exact hiu) hi
    rw[b1]at w1
    have hj:i - H.next < ns.length:=by omega
    have hb:=List.getElem?_eq_getElem hj
    obtain⟨o1,y1,y2⟩:=m5 (i - H.next) _ o0 hb w1
    have hge2:=m2 _ (List.mem_of_getElem? hb)
    have hro1:BR (fun b=>if b < N+objs.length then EW laid N bs b else(posOf b ns).map (H.next+·)) o1=some o:=by
     rw[Nh (υ:=FF laid N bs H.next x.news.length) hcomp y1];exact w2
    refine⟨ns[i - H.next],o1,?_,y2,hro1,by rw[←(DL hro1).1];exact w3⟩
    simp only[show ¬ns[i - H.next] < N+objs.length by omega,if_false]
    rw[Hq m1 hb]
    show some (H.next+(i - H.next))=some i
    congr 1;omega
   ·rcases hc with hc | ⟨b,o0,q1,q2,q3⟩
    ·exact absurd hc hge
    ·have hmm:=hroV b o0 q1 q2
     obtain⟨q4,p0,q5,q6⟩:=hHg b o0 q1
     rw[Dm q4]at q3
     rw[n2 i (by rw[b1];omega)]at hi
     obtain⟨o2,w1,w2,w3⟩:=b4 (b - N) i o q3 (by rw[Nat.zero_add];exact hmm) hi
     have hj:b - N < objs.length:=by
      rcases Nat.lt_or_ge (b - N) objs.length with h | h
      ·exact h
      ·rw[List.getElem?_eq_none h]at q5;cases q5
     obtain⟨o1,y1,y2⟩:=m6 (b - N) o2 hj hmm w1
     rw[show N+(b - N)=b by omega]at y2
     have hro1:BR (fun b=>if b < N+objs.length then EW laid N bs b else(posOf b ns).map (H.next+·)) o1=some o:=by
      rw[Nh (υ:=FF laid N bs H.next x.news.length) hcomp y1];exact w2
     refine⟨b,o1,?_,y2,hro1,by rw[←(DL hro1).1];exact w3⟩
     simp only[show b < N+objs.length by omega,if_true]
     rw[Dm q4];exact q3
  ·rw[show EG _ vc=EG (FF laid N bs H.next x.news.length) x.v from Lp hcomp 6 _ _ m4]
   exact e1
theorem LR {P:Program} {laid:List (Nat × List Value)} {fs:List (FuncId × Cn)} (hfs:Aw P laid fs) (hm:P.follows .mixedOrders=true) {f:FuncId} {n N:Nat} (he:entry P f=some (n,Bb P f [])) (hN:(laid.all fun p=>Nat.blt p.1 N)=true)
 {muts:List Bool} {G:List Value→List AJ→GT} (hG:∀argsc objs x,(G argsc objs).run=some x→(∀(j:Nat) (o:AJ),objs[j]? = some o→Dv muts j=true→o.ro=false)→
  argsc.length≤n∧As (Cp P laid fs) (N+objs.length) f (fun v Hf=>Ci laid N objs.length muts x v Hf) (GF f (B3 0 argsc .leaf) n (Bb P f []) (BW ⟨.leaf,N⟩ (Fm muts 0 objs)))):
 Da P laid f (A3 laid N muts G):=
 Bs hfs hm he hN fun argsc objs x hx hro=>⟨(hG argsc objs x hx hro).1,(hG argsc objs x hx hro).2.Ko⟩
end Go.AD

namespace Go.AD
noncomputable def M3:List Nat→AA→AA
 | [],H=>H
 | b::r,H=>M3 r (H.del b)
theorem Nu:∀(r:List Nat) (H:AA),(M3 r H).next=H.next
 | [],_=>rfl
 | b::r,H=>Nu r (H.del b)
theorem Lr:∀(r:List Nat) (H:AA) (x:Nat),(M3 r H).get x=if x∈r then none else H.get x
 | [],H,x=>by simp[M3]
 | b::r,H,x=>by
  rw[M3,Lr r (H.del b) x,AA.B5]
  by_cases h1:x∈r
  ·simp[h1]
  ·by_cases h2:x=b
   ·simp[h2]
   ·simp[h1,h2]
noncomputable def DU (s:Pk):List Nat→AA→AA
 | [],H=>H
 | b::r,H=>(M3 r H).put b (.abs (.pack s) false)
theorem CY {s:Pk} {bs:List Nat} {H:AA} (hnd:bs.Nodup):eN H s bs (DU s bs H):=by
 cases bs with
 | nil=>exact⟨rfl,fun b h=>(by cases h),fun i b _ h=>(by cases h),fun x _=>rfl⟩
 | cons b r=>
  have hbr:b∉r:=(List.nodup_cons.1 hnd).1
  refine⟨?_,?_,?_,?_⟩
  ·show(M3 r H).next=H.next
   exact Nu r H
  ·intro b' hb'
   cases hb'
   show((M3 r H).put b _).get b=_
   rw[AA.AN,if_pos rfl]
  ·intro i b' hi hb'
   cases i with
   | zero=>omega
   | succ i=>
    have hm:b'∈r:=List.mem_of_getElem? (i:=i) hb'
    show((M3 r H).put b _).get b'=_
    rw[AA.AN,if_neg (by rintro rfl;exact hbr hm),Lr,if_pos hm]
  ·intro x hx
   simp only[List.mem_cons,not_or]at hx
   show((M3 r H).put b _).get x=_
   rw[AA.AN,if_neg hx.1,Lr,if_neg hx.2]
inductive CB (D:Nat→Prop) (v:Value):AA→AA→Prop where
 | refl (H:AA):CB D v H H
 | step {H H2:AA} (s:Pk) (objs:List AJ) (bs rs:List Nat) (hr:Dl s objs) (hne:objs≠[]) (hlen:bs.length=objs.length) (hnd:bs.Nodup) (hrs:∀b∈rs,b∈Af 4 v∨D b)
  (hreach:∀b∈bs,b∈Ax H 0 200 rs []) (hobj:∀(i b:Nat) (o:AJ),bs[i]? = some b→objs[i]? = some o→∃o1,H.get b=some o1∧o1.ro=false∧o1.Ga=true∧BR (U3 bs (D7 s)) o=some o1) (hroot:∀o T,objs[0]? = some o→¬o.void T)
  (k:CB D v (DU s bs H) H2):CB D v H H2
theorem CB.ok {D:Nat→Prop} {v:Value} {H H2:AA} (h:CB D v H H2) {base:Env} {W0 W:World} {μ:Ah} {v':Value} (hD:∀b,D b→∃T,base.YO b=some T) (hv:AH μ v v'):AP base W0 μ H W→AP base W0 μ H2 W:=by
 induction h with
 | refl H=>exact fun h=>h
 | step s objs bs rs hr hne hlen hnd hrs hreach hobj hroot k ih=>
  intro hH
  refine ih (hH.shut hr hnd hlen hne (fun b hb=>?_) hobj (CY hnd) hroot).1
  have hr2:=IK hH (N:=0) 200 rs [] (fun b hb=>?_) ⟨List.nodup_nil,fun b hb=>by cases hb⟩
  ·exact(hr2.2 b (hreach b hb)).2
  ·rcases hrs b hb with hb | hb
   ·exact IC (Aq.cons hv .nil) b (by simpa using hb)
   ·obtain⟨T,hT⟩:=hD b hb
    exact⟨T,hH.le b T hT⟩
section
variable {X:Ctx} {N:Nat} {D:Nat→Prop} {f:FuncId} {Q Q':Value→AA→Prop}
theorem A4.opened {c:Ay} {b:Nat} {s:Pk} {ro:Bool} (hD:D b) (hb:c.H.get b=some (.abs (.pack s) ro)) (hp:∀ops p k,c.fr.todo≠ .DW ops p::k)
 (h:∀objs,Dl s objs→∃H',JD c.H b ro objs H' (D7 s)∧A4 X N D f Q ⟨c.fr,c.cs,H'⟩):A4 X N D f Q c:=by
 intro base W0 hb0 hDm hok hplan cs0 μ fr cs W hm
 obtain⟨T,hT⟩:=hDm b hD
 obtain⟨hH,hlaid,g,gs,hfr,hcs,hnd⟩:=hm
 obtain⟨objs,hr,ho⟩:=hH.opened hb (hH.le b T hT)
 obtain⟨H',hO,hrun⟩:=h objs hr
 obtain⟨μ',hH',hE⟩:=ho H' hO
 refine hrun base W0 hb0 hDm hok hplan cs0 μ' fr cs W ⟨hH',hlaid.mono hE.le,g,gs,?_,hcs.mono (hE.keeps _),hnd⟩
 obtain⟨f0,cs1,H1⟩:=c
 cases hfr with
 | plain fn t n tm todo todo' ds ds' r kd rd rd' ht hi hd hr=>exact .plain fn t n tm todo todo' ds ds' r kd rd rd' (ht.mono hE.le) (hi.mono hE.le) (hd.mono hE.le) (hr.mono hE.le)
 | drawn fn t n tm ops Bh idx D G k k' ds ds' kd rd rd' hD hk hd hr=>exact absurd rfl (hp ops Bh k)
theorem A4.shut {c:Ay} (h:A4 X N D f Q c) (hq:∀v H,Q v H→∃H2,CB D v H H2∧Q' v H2):A4 X N D f Q' c:=by
 intro base W0 hb0 hDm hok hplan cs0 μ fr cs W hm
 obtain⟨c',⟨v,H,v1,H1,h1,h2,h3⟩,h4⟩:=h base W0 hb0 hDm hok hplan cs0 μ fr cs W hm
 obtain⟨H2,k1,k2⟩:=hq v1 H1 h3
 refine⟨c',⟨v,H,v1,H2,h1,fun μ1 W1 v' hv hH=>?_,k2⟩,h4⟩
 obtain⟨μ2,g0,g1,g2⟩:=h2 μ1 W1 v' hv hH
 exact⟨μ2,g0,k1.ok hDm g2 g1,g2⟩
theorem A4.tell {c:Ay} (h:A4 X N D f Q c) (hq:∀v H,Q v H→∃v2 H2,(∀(base:Env) (W0:World) (μ:Ah) (W:World) (v':Value),(∀b,D b→∃T,μ b=some T)→AH μ v v'→AP base W0 μ H W→∃μ2,μ.le μ2∧AP base W0 μ2 H2 W∧AH μ2 v2 v')∧Q' v2 H2):A4 X N D f Q' c:=by
 intro base W0 hb0 hDm hok hplan cs0 μ fr cs W hm
 obtain⟨c',⟨v,H,v1,H1,h1,h2,h3⟩,h4⟩:=h base W0 hb0 hDm hok hplan cs0 μ fr cs W hm
 obtain⟨v2,H2,k1,k2⟩:=hq v1 H1 h3
 refine⟨c',⟨v,H,v2,H2,h1,fun μ1 W1 v' hv hH=>?_,k2⟩,h4⟩
 obtain⟨μ2,g0,g1,g2⟩:=h2 μ1 W1 v' hv hH
 obtain⟨μ3,f0,f1,f2⟩:=k1 base W0 μ2 W1 v' (fun b hb=>by obtain⟨T,hT⟩:=hDm b hb;exact⟨T,g1.le b T hT⟩) g2 g1
 exact⟨μ3,Ah.le_trans g0 f0,f1,f2⟩
theorem A4.told {c:Ay} (h:A4 X N D f Q c) (hq:∀v H,Q v H→∃H2,(∀(base:Env) (W0:World) (μ:Ah) (W:World),AP base W0 μ H W→AP base W0 μ H2 W)∧Q' v H2):A4 X N D f Q' c:=
 h.tell fun v H q=>let ⟨H2,k1,k2⟩:=hq v H q;⟨v,H2,fun base W0 μ W _ _ hv hH=>⟨μ,Ah.le_refl _,k1 base W0 μ W hH,hv⟩,k2⟩
theorem A4.row {c:Ay} {k:EK} (h:A4 X N D f Q c) (hq:∀v H,Q v H→∃b n l,v= .slice (some ⟨b,0,none⟩) n (AF+n)∧H.get b=some (.cells (Ar k l) k.length false)∧Q' (.slice (some ⟨b,0,some 0⟩) n AF) (H.put b (.vec k l false))) (hk0:k.length≠0:=by decide):A4 X N D f Q' c:=by
 intro base W0 hb0 hDm hok hplan cs0 μ fr cs W hm
 obtain⟨c',⟨v,H,v1,H1,h1,h2,h3⟩,h4⟩:=h base W0 hb0 hDm hok hplan cs0 μ fr cs W hm
 obtain⟨b,n,l,rfl,hg,k2⟩:=hq v1 H1 h3
 refine⟨c',⟨v,H,_,_,h1,fun μ1 W1 v' hv hH=>?_,k2⟩,h4⟩
 obtain⟨μ2,g0,g1,g2⟩:=h2 μ1 W1 v' hv hH
 have g3:=g1.MZ hg
 exact⟨μ2,g0,g3,MW (j:=0) hk0 (Nat.le_refl _) (fun T hT=>g3.elem (by rw[AA.AN,if_pos rfl]) hT) (by rw[Nat.zero_mul];exact HE g2)⟩
end
end Go.AD

namespace Go.AD
noncomputable def cC (sz bytes b off len i n:Nat) (new:List Value) (H:AA):Option (Value × AA):=
 match H.get b with
 | some (.cells cs e false)=>
  let DN:=(cs.drop off).take (len * sz)
  bif Nat.beq DN.length (len * sz)&&Nat.beq e sz&&DN.all B7&&new.all B7&&Nat.ble ((2 * (len+n)+192) * bytes) 281474976710656&&Nat.ble (len+n) 4611686018427387904 then
   some (.slice (some ⟨H.next,0,none⟩) (len+n) (AF+(len+n)),(H.del b).alloc (.cells (DN.take (i * sz)++(new++DN.drop (i * sz))) sz false))
  else none
 | _=>none
def P1 (o:Option AJ):Bool:=
 match o with
 | some (.cells _ e false)=> !(Nat.beq e 1)
 | _=>false
noncomputable def K9 (sz bytes:Nat):Cn:=fun args H=>
 match args with
 | [.slice (some ⟨b,off,none⟩) len cap,.int .i64 (.ofNat i),.slice (some ⟨vb,voff,none⟩) m vcap]=>
  bif Nat.ble AF cap&&Nat.blt i len&& !(Nat.beq vb b)&& !(Nat.beq m 0)&&P1 (H.get vb)then
   match DJ sz (.slice (some ⟨vb,voff,none⟩) m vcap) H with
   | some (n,new)=>cC sz bytes b off len i n new H
   | none=>none
  else none
 | _=>none
end Go.AD

namespace Go.AD
theorem Dd (c:Nat) (t:TypeId) (fz:Nat × Nat):∀(l:List Value) (o:Nat) (a:Array Value) (w:World),w.heap[c]? = some (.cells a t fz)→o+l.length≤a.size→
 ∃a':Array Value,(w.setCells c o l).heap[c]? = some (.cells a' t fz)∧a'.toList=BK a.toList o l∧a'.size=a.size∧(w.setCells c o l).heap.size=w.heap.size∧(∀i,i≠c→(w.setCells c o l).heap[i]? = w.heap[i]?)∧(w.setCells c o l).output=w.output∧(w.setCells c o l).os=w.os:=by
 intro l
 induction l with
 | nil=>intro o a w hw _;exact⟨a,hw,by rw[HM],rfl,rfl,fun _ _=>rfl,rfl,rfl⟩
 | cons v l ih=>
  intro o a w hw hlen
  simp only[List.length_cons]at hlen
  have hw1:(w.setCell ⟨c,o,none⟩ v).heap[c]? = some (.cells (a.setIfInBounds o v) t fz):=by
   simp only[World.setCell,Array.getElem?_modify,if_true,hw]
   rfl
  obtain⟨a',r1,r2,r2b,r3,r4,r5,r6⟩:=ih (o+1) (a.setIfInBounds o v) (w.setCell ⟨c,o,none⟩ v) hw1 (by simp;omega)
  refine⟨a',r1,?_,by rw[r2b];simp,?_,?_,r5,r6⟩
  ·rw[r2,Ex _ _ _ _ (by simp;omega),Array.toList_setIfInBounds]
  ·show((w.setCell ⟨c,o,none⟩ v).setCells c (o+1) l).heap.size=_
   rw[r3];simp[World.setCell]
  ·intro i hi
   show((w.setCell ⟨c,o,none⟩ v).setCells c (o+1) l).heap[i]? = _
   rw[r4 i hi]
   simp only[World.setCell,Array.getElem?_modify]
   rw[if_neg (Ne.symm hi)]
def QK (P:Program) (f:FuncId) (k:Nat):Prop:=∀(b off n c i vb voff m vc:Nat) (cs vs:List Value) (w:World),i < n→0 < m→n+m≤c→c≤9223372036854775807→vb≠b→
 cs.length=n * k→vs.length=m * k→
 (∀j v,cs[j]? = some v→w.cell? ⟨b,off+j,none⟩=some v)→(∀j,j < (n+m) * k→(w.cell? ⟨b,off+j,none⟩).isSome=true)→(∀j,j < (n+m) * k→w.frozen? ⟨b,off+j,none⟩=false)→
 (∀j v,vs[j]? = some v→w.cell? ⟨vb,voff+j,none⟩=some v)→(∀v∈cs,v.oneCell'=true)→(∀v∈vs,v.oneCell'=true)→
 ∀(tA tB:TypeId) (kA kB:Nat),w.shape? vb=some (tA,kA)→w.shape? b=some (tB,kB)→kB≠0→w.frozen? ⟨vb,voff,none⟩=false→w.frozen? ⟨vb,kA,none⟩=false→
 Calls P f #[.slice (some ⟨b,off,none⟩) n c,.int .i64 i,.slice (some ⟨vb,voff,none⟩) m vc] w fun e w'=>
  e= .returned (.slice (some ⟨b,off,none⟩) (n+m) c)∧w'=(w.drew.setCells b (off+(i+m) * k) (cs.drop (i * k))).setCells b (off+i * k) vs
def TS (P:Program) (f:FuncId) (k B:Nat) (E:TypeId):Prop:=∀(b off n c i vb voff m vc:Nat) (cs vs:List Value) (w:World),i < n→0 < m→n≤c→c < n+m→(2 * (n+m)+192) * B≤281474976710656→
 cs.length=n * k→vs.length=m * k→
 (∀j v,cs[j]? = some v→w.cell? ⟨b,off+j,none⟩=some v)→
 (∀j v,vs[j]? = some v→w.cell? ⟨vb,voff+j,none⟩=some v)→(∀v∈cs,v.oneCell'=true)→(∀v∈vs,v.oneCell'=true)→
 Calls P f #[.slice (some ⟨b,off,none⟩) n c,.int .i64 i,.slice (some ⟨vb,voff,none⟩) m vc] w fun e w'=>
  ∃(G:Nat) (ROW:Array Value),n+m≤G∧ROW.size=G * k∧ROW.toList.take (i * k)=cs.take (i * k)∧e= .returned (.slice (some ⟨w.heap.size,0,none⟩) (n+m) G)∧G≤9223372036854775807∧
   w'=(((w.alloc (.cells ROW E)).drew.setCells w.heap.size (i * k) vs).drew).setCells w.heap.size ((i+m) * k) (cs.drop (i * k))
theorem ID (A B D:List Value) (y:Nat):BK (A++B) (A.length+y) D=A++BK B y D:=by
 unfold BK
 rw[List.take_append,List.take_of_length_le (by omega),List.append_assoc]
 congr 1
 rw[show A.length+y - A.length=y by omega]
 congr 2
 rw[show A.length+y+D.length=A.length+(y+D.length) by omega,List.drop_append]
 rw[List.drop_eq_nil_of_le (by omega),List.nil_append,show A.length+(y+D.length) - A.length=y+D.length by omega]
theorem VG (A D V:List Value) (x y:Nat) (hxy:x+V.length=y) (hy:y+D.length≤A.length):(BK (BK A y D) x V).take (x+V.length+D.length)=A.take x++(V++D):=by
 unfold BK
 have h1:(A.take y++(D++A.drop (y+D.length))).take x=A.take x:=by
  rw[List.take_append_of_le_length (by rw[List.length_take];omega),List.take_take,Nat.min_eq_left (by omega)]
 have h2:(A.take y++(D++A.drop (y+D.length))).drop (x+V.length)=D++A.drop (y+D.length):=by
  rw[hxy,List.drop_append,List.drop_eq_nil_of_le (by rw[List.length_take];omega),List.nil_append,List.length_take,Nat.min_eq_left (by omega),Nat.sub_self,List.drop_zero]
 rw[h1,h2,←List.append_assoc,←List.append_assoc,←List.append_assoc,List.take_append_of_le_length (by simp;omega),List.take_of_length_le (by simp;omega),List.append_assoc]
theorem SP (A D V:List Value) (x y:Nat) (hxy:x+V.length=y) (hy:y+D.length≤A.length):(BK (BK A x V) y D).take (x+V.length+D.length)=A.take x++(V++D):=by
 unfold BK
 have h1:(A.take x++(V++A.drop (x+V.length))).take y=A.take x++V:=by
  rw[←List.append_assoc,List.take_append_of_le_length (by simp;omega),List.take_of_length_le (by simp;omega)]
 rw[h1,←List.append_assoc,List.take_append_of_le_length (by simp;omega),List.take_of_length_le (by simp;omega),List.append_assoc]
section
variable {P:Program} {laid:List (Nat × List Value)}
theorem Hr {W:World} {c:Nat} {arr:Array Value} {t:TypeId} {fz:Nat × Nat} (hob:W.heap[c]? = some (.cells arr t fz)) {d n j:Nat} {v:Value} (h:((arr.toList.drop d).take n)[j]? = some v):W.cell? ⟨c,d+j,none⟩=some v:=by
 rw[List.getElem?_take]at h
 split at h
 ·rw[List.getElem?_drop]at h
  simp only[World.cell?,hob]
  simpa using h
 ·cases h
theorem He {μ:Ah} {l l':List Value} (h:Aq μ l l') (hok:l.all B7=true):∀v∈l',v.oneCell'=true:=by
 intro q hq
 obtain⟨k,hk,rfl⟩:=List.getElem_of_mem hq
 have hl:=h.length
 have hk2:k < l.length:=by omega
 exact HD (h.idx k hk2 hk) (List.all_eq_true.1 hok _ (List.getElem_mem hk2))
theorem RB {f:FuncId} {k B:Nat} {E:TypeId} (hent:∃n c,entry P f=some (n,c)) (hk0:0 < k) (hk1:k≠1) (hS:QK P f k) (hG:TS P f k B E):Da P laid f (K9 k B):=by
 refine⟨hent,?_⟩
 intro base W0 μ H W args args' v H' hW h hl ha hF
 unfold K9 at hF
 split at hF
 ·rename_i b off len cap i vb voff m vcap
  cases hc0:(Nat.ble AF cap&&Nat.blt i len&& !(Nat.beq vb b)&& !(Nat.beq m 0)&&P1 (H.get vb))
  ·simp only[hc0,cond_false]at hF;cases hF
  simp only[hc0,cond_true]at hF
  simp only[Bool.and_eq_true,Bool.not_eq_true']at hc0
  obtain⟨⟨⟨⟨g1,g2⟩,g3⟩,g4⟩,g5⟩:=hc0
  have g1:=Nat.le_of_ble_eq_true g1
  have g2:i < len:=Nat.le_of_ble_eq_true g2
  have g3:vb≠b:=by rintro rfl;rw[Nat.beq_refl]at g3;cases g3
  have g4:m≠0:=by rintro rfl;cases g4
  generalize hq:args'.toList=q at ha
  cases ha with
  | cons h1 ha=>cases ha with
   | cons h2 ha=>cases ha with
    | cons h3 ha=>
     cases ha
     cases h2
     cases h1 with
     | slice _ _ _ _ cap' o' T hm hcr ho=>
      cases h3 with
      | slice _ _ _ _ vcap' vo' T2 hm2 hcr2 ho2=>
       have hargs:args'=#[.slice (some ⟨T.c,o',none⟩) len cap',.int .i64 (Int.ofNat i),.slice (some ⟨T2.c,vo',none⟩) m vcap']:=by rw[←Array.toList_inj,hq]
       subst hargs
       have hcr':cap - AF≤cap'∧len≤cap'∧off+cap' * T.e≤T.r∧(T.e=1∨cap'≤9223372036854775807):=by
        rcases hcr with⟨c1,c2⟩ | ⟨c1,c2,c3,c4,c5⟩
        ·omega
        ·exact⟨c2,c3,c4,c5⟩
       obtain⟨c2,c3,c4,c5⟩:=hcr'
       have hoo:o'=T.d+off:=by
        rcases ho with ho | ⟨e1,_⟩
        ·exact ho
        ·omega
       subst hoo
       have hoo2:vo'=T2.d+voff:=by
        rcases ho2 with ho | ⟨e1,_⟩
        ·exact ho
        ·omega
       subst hoo2
       split at hF
       ·rename_i n new hsrc
        have hmk:m * k≠0:=Nat.mul_ne_zero g4 (by omega)
        unfold DJ at hsrc
        simp only at hsrc
        cases hz:Nat.beq (m * k) 0
        ·simp only[hz,cond_false]at hsrc
         split at hsrc
         ·rename_i vcs ve vro hgetv
          cases hll:Nat.beq ((vcs.drop voff).take (m * k)).length (m * k)
          ·simp only[hll,cond_false]at hsrc;cases hsrc
          simp only[hll,cond_true,Option.some.injEq,Prod.mk.injEq]at hsrc
          obtain⟨rfl,rfl⟩:=hsrc
          have hvlen:=Nat.eq_of_beq_eq_true hll
          have hvro:vro=false∧ve≠1:=by
           rw[hgetv]at g5
           unfold P1 at g5
           cases vro
           ·refine⟨rfl,?_⟩
            rintro rfl
            simp at g5
           ·simp at g5
          obtain⟨rfl,hve⟩:=hvro
          unfold cC at hF
          split at hF
          ·rename_i cs e hget
           simp only at hF
           cases hbb:(Nat.beq ((cs.drop off).take (len * k)).length (len * k)&&Nat.beq e k&&((cs.drop off).take (len * k)).all B7&&((vcs.drop voff).take (m * k)).all B7&&Nat.ble ((2 * (len+m)+192) * B) 281474976710656&&Nat.ble (len+m) 4611686018427387904)
           ·simp only[hbb,cond_false]at hF;cases hF
           simp only[hbb,cond_true,Option.some.injEq,Prod.mk.injEq]at hF
           obtain⟨rfl,rfl⟩:=hF
           simp only[Bool.and_eq_true]at hbb
           obtain⟨⟨⟨⟨⟨b1,b2⟩,b3⟩,b4⟩,b5⟩,b6⟩:=hbb
           have b1:=Nat.eq_of_beq_eq_true b1
           have b2:=Nat.eq_of_beq_eq_true b2
           have b5:=Nat.le_of_ble_eq_true b5
           have b6:=Nat.le_of_ble_eq_true b6
           subst b2
           obtain⟨ob,hob,hor⟩:=h.obj b _ hget T hm
           obtain⟨ov,hov,horv⟩:=h.obj vb _ hgetv T2 hm2
           cases hor with
           | cells _ _ _ arr t lo hi2 hTe hcl hsz hfz=>
            cases horv with
            | cells _ _ _ varr vt vlo vhi hTe2 hclv hszv hfzv=>
             have hTc:T2.c≠T.c:=fun e1=>g3 (h.inj vb b _ _ hgetv hget T2 T hm2 hm id id e1)
             rw[←hTe]at c4 c5
             have hold:Aq μ ((cs.drop off).take (len * e)) ((arr.toList.drop (T.d+off)).take (len * e)):=by
              have:=(hcl.drop off).take (len * e)
              rw[List.drop_take,List.drop_drop,List.take_take,Nat.min_eq_left (by rw[List.length_take,List.length_drop]at b1;omega)]at this
              exact this
             have hnew:Aq μ ((vcs.drop voff).take (m * e)) ((varr.toList.drop (T2.d+voff)).take (m * e)):=by
              have:=(hclv.drop voff).take (m * e)
              rw[List.drop_take,List.drop_drop,List.take_take,Nat.min_eq_left (by rw[List.length_take,List.length_drop]at hvlen;omega)]at this
              exact this
             have hlo:=hold.length
             have hln:=hnew.length
             generalize hO:(cs.drop off).take (len * e)=O at hold hlo b1 b3 ⊢
             generalize hV:(vcs.drop voff).take (m * e)=V at hnew hln hvlen b4 ⊢
             generalize hO':(arr.toList.drop (T.d+off)).take (len * e)=O' at hold hlo
             generalize hV':(varr.toList.drop (T2.d+voff)).take (m * e)=V' at hnew hln
             have hcsC:∀j v,O'[j]? = some v→W.cell? ⟨T.c,T.d+off+j,none⟩=some v:=fun j v hj=>Hr hob (by rw[hO'];exact hj)
             have hvsC:∀j v,V'[j]? = some v→W.cell? ⟨T2.c,T2.d+voff+j,none⟩=some v:=fun j v hj=>Hr hov (by rw[hV'];exact hj)
             have h1O:=He hold b3
             have h1V:=He hnew b4
             have hie:i * e≤len * e:=Nat.mul_le_mul_right _ (by omega)
             have hmul:(i+m) * e=i * e+m * e:=Nat.add_mul _ _ _
             have hmul2:(len+m) * e=len * e+m * e:=Nat.add_mul _ _ _
             obtain⟨hdel,hdelE⟩:=h.del hm
             have hrel:Aq μ (O.take (i * e)++(V++O.drop (i * e))) (O'.take (i * e)++(V'++O'.drop (i * e))):=(hold.take _).append (hnew.append (hold.drop _))
             have hrl:(O.take (i * e)++(V++O.drop (i * e))).length=len * e+m * e:=by
              simp only[List.length_append,List.length_take,List.length_drop];omega
             have hdl:(O'.drop (i * e)).length=len * e - i * e:=by rw[List.length_drop];omega
             have hvsz:T2.d+voff+m * e≤varr.size:=by
              have:=hclv.length
              have hx:((varr.toList.drop (T2.d+voff)).take (m * e)).length=m * e:=by rw[hV'];omega
              rw[List.length_take,List.length_drop,Array.length_toList]at hx
              omega
             by_cases hfit:len+m≤cap'
             ·have hce:(len+m) * e≤cap' * e:=Nat.mul_le_mul_right _ hfit
              refine Calls.mono (hS T.c (T.d+off) len cap' i T2.c (T2.d+voff) m vcap' O' V' W g2 (by omega) hfit (by omega) hTc (by omega) (by omega) hcsC ?_ ?_ hvsC h1O h1V vt t varr.size arr.size ?_ ?_ ?_ ?_ ?_) ?_
              ·intro j hj
               simp only[World.cell?,hob]
               rw[Array.getElem?_eq_getElem (by omega)];rfl
              ·intro j hj
               have:=hfz rfl (T.d+off+j) (.inl (by omega))
               simp only[World.frozen?,hob,Bool.and_eq_false_iff,decide_eq_false_iff_not]
               omega
              ·simp only[World.shape?,hov]
              ·simp only[World.shape?,hob]
              ·have:0 < (len+m) * e:=Nat.mul_pos (by omega) hk0
               omega
              ·have:=hfzv rfl (T2.d+voff) (.inl (by have:0 < m * e:=Nat.pos_of_ne_zero hmk;omega))
               simp only[World.frozen?,hov,Bool.and_eq_false_iff,decide_eq_false_iff_not]
               omega
              ·have:=hfzv rfl varr.size (.inr ⟨rfl,hve⟩)
               simp only[World.frozen?,hov,Bool.and_eq_false_iff,decide_eq_false_iff_not]
               omega
              ·rintro ex W' ⟨rfl,rfl⟩
               obtain⟨a1,r1,r2,r2b,r3,r4,r5,r6⟩:=Dd T.c t (lo,hi2) (O'.drop (i * e)) (T.d+off+(i+m) * e) arr W.drew hob (by omega)
               obtain⟨a2,s1,s2,s2b,s3,s4,s5,s6⟩:=Dd T.c t (lo,hi2) V' (T.d+off+i * e) a1 _ r1 (by omega)
               obtain⟨φ,q⟩:=h.abs
               have hmap:=hdel.G3 (T:=⟨T.c,T.d+off,T.r - off,e⟩) (o:= .cells (O.take (i * e)++(V++O.drop (i * e))) e false) (W':=(W.drew.setCells T.c (T.d+off+(i+m) * e) (O'.drop (i * e))).setCells T.c (T.d+off+i * e) V')
                (by rw[s3,r3];exact Nat.le_refl _) (fun j _ hj=>by rw[s4 j hj,r4 j hj];rfl)
                (fun b' p T' hb' hm' hv=>by
                 intro e1
                 obtain⟨e2,hb2⟩:=AA.A2 hb'
                 exact e2 (h.inj b' b _ _ hb2 hget T' T hm' hm hv id e1))
                ⟨φ,⟨fun b' a ro T' h1 h2=>q.rep b' a ro T' (AA.A2 h1).2 h2,fun b' a ro T' h1 h2 b2 o2 T2 h3 h4 h5=>q.Be b' a ro T' (AA.A2 h1).2 h2 b2 o2 T2 (AA.A2 h3).2 h4 h5⟩,
                 fun b' a ro h1 ⟨T',h2⟩=>(q.Be b' a ro T' (AA.A2 h1).2 h2 b _ T hget hm (Ne.symm (AA.A2 h1).1) id).1⟩
                s1 (h.own b _ hget rfl T hm id) ?_ (by rw[s5,r5];rfl) (by rw[s6,r6];rfl)
               ·exact⟨_,_,rfl,hmap.1,.slice H.next 0 _ _ _ _ ⟨T.c,T.d+off,T.r - off,e⟩ (Ah.A8 _ _ _) (.inr ⟨by omega,by omega,hfit,by show 0+cap' * e≤T.r - off;omega,by show e=1∨_;omega⟩) (.inl rfl),hdelE.trans hmap.2⟩
               ·refine .cells ⟨T.c,T.d+off,T.r - off,e⟩ _ _ false _ t lo hi2 rfl ?_ ?_ ?_
                ·show Aq μ _ (List.take _ (List.drop (T.d+off) a2.toList))
                 have hA:arr.toList=arr.toList.take (T.d+off)++arr.toList.drop (T.d+off):=(List.take_append_drop _ _).symm
                 have hAl:(arr.toList.take (T.d+off)).length=T.d+off:=by rw[List.length_take,Array.length_toList];omega
                 generalize hA0:arr.toList.take (T.d+off)=A0 at hA hAl
                 generalize hA1:arr.toList.drop (T.d+off)=A1 at hA hO'
                 have hA1l:(len+m) * e≤A1.length:=by rw[←hA1,List.length_drop,Array.length_toList];omega
                 have hs2:a2.toList=A0++BK (BK A1 ((i+m) * e) (O'.drop (i * e))) (i * e) V':=by
                  rw[s2,r2,hA]
                  rw[show T.d+off+(i+m) * e=A0.length+(i+m) * e by omega,ID]
                  rw[show T.d+off+i * e=A0.length+i * e by omega,ID]
                 rw[hs2,hrl,List.drop_left' hAl]
                 have hup:=VG A1 (O'.drop (i * e)) V' (i * e) ((i+m) * e) (by omega) (by omega)
                 rw[show i * e+V'.length+(O'.drop (i * e)).length=len * e+m * e by omega]at hup
                 rw[hup,show A1.take (i * e)=O'.take (i * e) by rw[←hO',List.take_take,Nat.min_eq_left hie]]
                 exact hrel
                ·show a2.size=T.d+off+(T.r - off)
                 omega
                ·intro _ j hj
                 refine hfz rfl j ?_
                 have:a2.size=arr.size:=by omega
                 rw[←this];exact hj
             ·refine Calls.mono (hG T.c (T.d+off) len cap' i T2.c (T2.d+voff) m vcap' O' V' W g2 (by omega) c3 (by omega) b5 (by omega) (by omega) hcsC hvsC h1O h1V) ?_
              rintro ex W' ⟨G,ROW,z1,z2,z3,rfl,z4,rfl⟩
              have hGe:(len+m) * e≤G * e:=Nat.mul_le_mul_right _ z1
              have hal:(W.alloc (.cells ROW E)).drew.heap[W.heap.size]? = some (.cells ROW E (0,0)):=by
               show(W.heap.push _)[W.heap.size]? = _
               simp
              obtain⟨a1,r1,r2,r2b,r3,r4,r5,r6⟩:=Dd W.heap.size E (0,0) V' (i * e) ROW (W.alloc (.cells ROW E)).drew hal (by omega)
              obtain⟨a2,s1,s2,s2b,s3,s4,s5,s6⟩:=Dd W.heap.size E (0,0) (O'.drop (i * e)) ((i+m) * e) a1 (((W.alloc (.cells ROW E)).drew.setCells W.heap.size (i * e) V').drew) r1 (by omega)
              have hpush:(W.alloc (.cells ROW E)).drew.heap.size=W.heap.size+1:=by
               show(W.heap.push _).size=_
               simp
              obtain⟨φ,q⟩:=hdel.abs
              have hmap:=hdel.G3 (T:=⟨W.heap.size,0,G * e,e⟩) (o:= .cells (O.take (i * e)++(V++O.drop (i * e))) e false) (W':=(((W.alloc (.cells ROW E)).drew.setCells W.heap.size (i * e) V').drew).setCells W.heap.size ((i+m) * e) (O'.drop (i * e)))
               (by
                rw[s3]
                show W.heap.size≤((W.alloc (.cells ROW E)).drew.setCells W.heap.size (i * e) V').heap.size
                rw[r3,hpush];omega)
               (fun j hjl hj=>by
                rw[s4 j hj]
                show((W.alloc (.cells ROW E)).drew.setCells W.heap.size (i * e) V').heap[j]? = _
                rw[r4 j hj]
                show(W.heap.push _)[j]? = _
                rw[Array.getElem?_push,if_neg (by omega)])
               (fun b' p T' hb' hm' _=>by have:=hdel.bound b' T' hm';show T'.c≠W.heap.size;omega)
               ⟨φ,q,fun b' a ro hb' ⟨T',hm'⟩ hc=>by
                have:=(Ct.FV _ _ _ _ (q.rep b' a ro T' hb' hm').1).2 _ hc
                exact absurd this (Nat.lt_irrefl _)⟩
               s1 (fun hk=>absurd (hdel.size _ hk) (Nat.lt_irrefl _)) ?_ (by rw[s5];show((W.alloc (.cells ROW E)).drew.setCells W.heap.size (i * e) V').output=_;rw[r5];rfl) (by rw[s6];show((W.alloc (.cells ROW E)).drew.setCells W.heap.size (i * e) V').os=_;rw[r6];rfl)
              ·exact⟨_,_,rfl,hmap.1,.slice H.next 0 _ _ _ _ ⟨W.heap.size,0,G * e,e⟩ (Ah.A8 _ _ _) (.inr ⟨by omega,by omega,z1,by show 0+G * e≤G * e;omega,.inr z4⟩) (.inl rfl),hdelE.trans hmap.2⟩
              ·refine .cells ⟨W.heap.size,0,G * e,e⟩ _ _ false _ E 0 0 rfl ?_ ?_ (fun _ j _=>by omega)
               ·show Aq μ _ (List.take _ (List.drop 0 a2.toList))
                rw[List.drop_zero,s2,r2,hrl]
                have hup:=SP ROW.toList (O'.drop (i * e)) V' (i * e) ((i+m) * e) (by omega) (by have e5:ROW.toList.length=ROW.size:=Array.length_toList;rw[e5];omega)
                rw[show i * e+V'.length+(O'.drop (i * e)).length=len * e+m * e by omega]at hup
                rw[hup,z3]
                exact hrel
               ·show a2.size=0+G * e
                omega
          ·cases hF
         ·cases hsrc
        ·exact absurd (Nat.eq_of_beq_eq_true hz) hmk
       ·cases hF
 ·cases hF
end
end Go.AD

namespace Go.AD
theorem VJ {P:Program} {laid:List (Nat × List Value)} {fs:List (FuncId × Cn)} (hfs:Aw P laid fs) {k:Nw} {n N:Nat} (hs:TV P laid k n N=true)
 {c':Ay} {H1:AA} (hrun:Hp (Cp P laid fs) (GF k.f (B3 0 k.args .leaf) n (Bb P k.f []) (F3 laid N)) c') (hd:EX (Cp P laid fs) k.f c'=some (k.v,H1)):IH P laid k:=by
 simp only[TV,Bool.and_eq_true]at hs
 obtain⟨⟨⟨⟨⟨h1,h2⟩,h3⟩,h4⟩,h5⟩,h6⟩:=hs
 have he:entry P k.f=some (n,Bb P k.f []):=by
  cases h:entry P k.f with
  | none=>rw[h]at h6;cases h6
  | some p=>
   obtain⟨m,c⟩:=p
   rw[h]at h6
   rw[←Nat.eq_of_beq_eq_true h6]
   rw[←h];exact X5 h
 exact⟨⟨n,_,he⟩,fun _ _ _ _ _ _ hW hH ha=>T4 (X:=⟨P,laid,fun _=>none,Iz P⟩) (Cp P laid fs) rfl rfl hW (fun base W0 hW=>hfs.FL base W0 hW) (FY h1 rfl) he h2 (Nat.le_of_ble_eq_true h3) (OU h4) hrun hd h5 hH ha⟩
end Go.AD

set_option maxRecDepth 1000000
namespace Go.AD
open Go.Proofs
abbrev Ab:EK:=[.str,.str]
def cv:List Value:=[.int .u64 1,.int .u64 10,.int .u64 100,.int .u64 1000,.int .u64 10000,.int .u64 100000,.int .u64 1000000,.int .u64 10000000,.int .u64 100000000,.int .u64 1000000000,.int .u64 10000000000,.int .u64 100000000000,.int .u64 1000000000000,.int .u64 10000000000000,.int .u64 100000000000000,.int .u64 1000000000000000,.int .u64 10000000000000000,.int .u64 100000000000000000,.int .u64 1000000000000000000,.int .u64 10000000000000000000]
noncomputable def AL:List (Nat × List Value):=[(0,[.string ⟨#[97]⟩,.string ⟨#[98]⟩,.string ⟨#[99]⟩,.string ⟨#[97,98]⟩,.string ⟨#[107,49]⟩]),(2,cv),(5,[A5]),(6,[A5])]
noncomputable def X0:Ctx:=Cp Tryz.prog AL []
noncomputable def st (f:FuncId) (n:Nat) (args:List Value) (H:AA):Ay:=GF f (B3 0 args .leaf) n (Bb Tryz.prog f []) H
noncomputable def Vy (b:Nat):Value:= .func (.func Ht) ⟨[]⟩ ⟨[.pointer (some ⟨b,0,none⟩)]⟩
noncomputable def cm (l:List (EK.C Ab)) (k:ByteArray):AA:=BW ⟨.leaf,9⟩ [.vec Ab l true,.cells [.string k] 0 true]
noncomputable def R0 (l:List (EK.C Ab)) (k:ByteArray) (n:Nat) (low high:Int):Ay:=
 ⟨⟨BG,Ib [(0,.slice (some ⟨9,0,some 0⟩) n AF),(1,Vy 10),(5,.int .i64 low),(6,.int .i64 high)],27,[.code (Bb Tryz.prog 71 [1,1,0,0,0]),.inLoop (Bb Tryz.prog 71 [1,1,0,0,0]),.inBlock 0,.code (Bb Tryz.prog 71 [1,1,1])],[],false,.normal,none⟩,[],cm l k⟩
def aD:Stop:=⟨BG,0,3,11,[9,10],[0,1,5,6]⟩
theorem Za (l:List (EK.C Ab)) (k:ByteArray) (n:Nat) (Q:Value→List (Option AJ)→Prop) (R:Ay→Prop):JI X0 Cv BG [] aD Q R 100 (st BG 27 [.slice (some ⟨9,0,some 0⟩) n AF,Vy 10] (cm l k))=(
 (R (R0 l k n 0 (Int.ofNat n)))):=by kernel_rfl
theorem bc (l:List (EK.C Ab)) (k:ByteArray) (n:Nat) (low high:Int) (Q:Value→List (Option AJ)→Prop) (R:Ay→Prop):JI X0 Cv BG [] aD Q R 200 (R0 l k n low high)=(
 (bif decide (low < high)then(bif decide (0≤IntKind.wrap .i64 (Int.tdiv (IntKind.wrap .i64 (low+high)) 2))&&Nat.blt (Int.toNat (IntKind.wrap .i64 (Int.tdiv (IntKind.wrap .i64 (low+high)) 2))) n then(bif Nat.blt (0+Int.toNat (IntKind.wrap .i64 (Int.tdiv (IntKind.wrap .i64 (low+high)) 2))) (List.length l)then(bif !Op.bytesLess (ByteArray.toList (Prod.fst (List.getD l (0+Int.toNat (IntKind.wrap .i64 (Int.tdiv (IntKind.wrap .i64 (low+high)) 2))) (EK.AQ Ab)))) (ByteArray.toList k)then(R (R0 l k n low (IntKind.wrap .i64 (Int.tdiv (IntKind.wrap .i64 (low+high)) 2))))else(R (R0 l k n (IntKind.wrap .i64 (IntKind.wrap .i64 (Int.tdiv (IntKind.wrap .i64 (low+high)) 2)+1)) high)))else False)else False)else(Q (.int .i64 low) []))):=by kernel_rfl
theorem ag (k:ByteArray) (Q:Value→List (Option AJ)→Prop):Gv X0 Cv BG [] Q 100 (st BG 27 [.slice none 0 0,Vy 9] (BW ⟨.leaf,9⟩ [.cells [.string k] 0 true]))=(
 (Q (.int .i64 0) [])):=by kernel_rfl
end Go.AD

namespace Go.AD
theorem wrap64 {x:Int} (h1: -9223372036854775808≤x) (h2:x≤9223372036854775807):IntKind.wrap .i64 x=x:=by
 show(if (true&&decide (x % 18446744073709551616≥9223372036854775808))=true then x % 18446744073709551616 - 18446744073709551616 else x % 18446744073709551616)=x
 simp only[Bool.true_and,decide_eq_true_eq]
 split<;>omega
theorem AT {p:Prop} [Decidable p] {A B:Prop} (h1:p→A) (h2:¬p→B):(bif decide p then A else B):=by
 by_cases h:p
 ·rw[decide_eq_true h];exact h1 h
 ·rw[decide_eq_false h];exact h2 h
theorem AE {b:Bool} {A B:Prop} (h:b=true) (h1:A):(bif b then A else B):=by rw[h];exact h1
theorem AW {b:Bool} {A B:Prop} (h:b=false) (h1:B):(bif b then A else B):=by rw[h];exact h1
theorem Az {b:Bool} {A B:Prop} (h1:b=true→A) (h2:b=false→B):(bif b then A else B):=by
 cases b
 ·exact h2 rfl
 ·exact h1 rfl
end Go.AD

namespace Go.AD
open Go.Proofs
def GV (a b:ByteArray):Bool:=Op.bytesLess a.toList b.toList
theorem J9:∀l:List UInt8,Op.bytesLess l l=false:=by
 intro l
 induction l with
 | nil=>rfl
 | cons a l ih=>simp[Op.bytesLess,ih]
theorem Kv:∀a b c:List UInt8,Op.bytesLess a b=true→Op.bytesLess b c=true→Op.bytesLess a c=true:=by
 intro a
 induction a with
 | nil=>intro b c h1 h2;cases c with
  | nil=>cases b<;>simp[Op.bytesLess]at h2
  | cons=>rfl
 | cons x a ih=>
  intro b c h1 h2
  cases b with
  | nil=>simp[Op.bytesLess]at h1
  | cons y b=>cases c with
   | nil=>simp[Op.bytesLess]at h2
   | cons z c=>
    simp only[Op.bytesLess,Bool.or_eq_true,Bool.and_eq_true,decide_eq_true_eq,beq_iff_eq]at h1 h2 ⊢
    rcases h1 with h1 | ⟨rfl,h1⟩
    ·rcases h2 with h2 | ⟨rfl,h2⟩
     ·exact .inl (UInt8.lt_trans h1 h2)
     ·exact .inl h1
    ·rcases h2 with h2 | ⟨rfl,h2⟩
     ·exact .inl h2
     ·exact .inr ⟨rfl,ih b c h1 h2⟩
theorem KL {a b c:ByteArray} (h1:GV a b=true) (h2:GV b c=true):GV a c=true:=Kv _ _ _ h1 h2
def BE (l:List (EK.C Ab)):Prop:=l.Pairwise fun x y=>GV x.1 y.1=true
def AM (l:List (EK.C Ab)) (k:ByteArray):Nat:=(l.takeWhile fun x=>GV x.1 k).length
theorem LQ (l:List (EK.C Ab)) (k:ByteArray):AM l k≤l.length:=by
 induction l with
 | nil=>exact Nat.le_refl _
 | cons x l ih=>
  unfold AM at *
  rw[List.takeWhile_cons]
  split
  ·simp only[List.length_cons];omega
  ·simp
theorem Uc {l:List (EK.C Ab)} (hs:BE l) (k:ByteArray):∀(i:Nat) (h:i < l.length),GV (l[i]).1 k=true ↔ i < AM l k:=by
 induction l with
 | nil=>intro i h;cases h
 | cons x l ih=>
  have hs':=List.pairwise_cons.1 hs
  have hr:AM (x::l) k=if GV x.1 k then AM l k+1 else 0:=by
   unfold AM
   rw[List.takeWhile_cons]
   split<;>rfl
  intro i h
  rw[hr]
  cases i with
  | zero=>
   by_cases c:GV x.1 k=true
   ·simp[c]
   ·simp[c]
  | succ i=>
   have:=ih hs'.2 i (by simpa using h)
   by_cases c:GV x.1 k=true
   ·rw[if_pos c]
    show GV (l[i]'(by simpa using h)).1 k=true ↔ _
    rw[this];omega
   ·rw[if_neg c]
    show GV (l[i]'(by simpa using h)).1 k=true ↔ _
    constructor
    ·intro hk
     exact absurd (KL (hs'.1 _ (List.getElem_mem (by simpa using h))) hk) c
    ·intro hz;omega
theorem Wb {l:List (EK.C Ab)} (hs:BE l) (k:ByteArray) (hn:l.length < 4611686018427387904):∀(m low high:Nat),high - low=m→low≤AM l k→AM l k≤high→high≤l.length→
 As X0 11 BG (fun v _=>v= .int .i64 (AM l k)) (R0 l k l.length low high):=by
 intro m
 induction m using Nat.strongRecOn with
 | _ m ih=>
  intro low high hm h1 h2 h3
  refine Bd (Av X0) (ids:=[]) (S:=aD) (by kernel_rfl) (Q:=fun v _=>v= .int .i64 (AM l k))
   (R:=fun c=>∃low' high':Nat,c=R0 l k l.length low' high'∧high' - low' < m∧low'≤AM l k∧AM l k≤high'∧high'≤l.length) (fun v H h=>h) (fun c ⟨low',high',e,g1,g2,g3,g4⟩=>by rw[e];exact ih _ g1 low' high' rfl g2 g3 g4) 200 _ ?_
  rw[bc]
  refine AT (fun h=>?_) (fun h=>?_)
  ·have hlt:low < high:=by omega
   rw[wrap64 (x:=(low:Int)+high) (by omega) (by omega)]
   have hmid:Int.tdiv ((low:Int)+(high:Int)) 2=((low+high) / 2:Nat):=by
    rw[Int.tdiv_eq_ediv_of_nonneg (by omega)];omega
   rw[hmid,wrap64 (x:=(((low+high) / 2:Nat):Int)) (by omega) (by omega)]
   generalize hM:(low+high) / 2=M
   have hM1:low≤M∧M < high:=by omega
   have hb:Nat.blt (Int.toNat (M:Int)) l.length=true:=Nat.ble_eq_true_of_le (by rw[Int.toNat_natCast];omega)
   have e1:(decide ((0:Int)≤(M:Int))&&Nat.blt (Int.toNat (M:Int)) l.length)=true:=by rw[hb];simp
   have e2:Nat.blt (0+Int.toNat (M:Int)) l.length=true:=by rw[Nat.zero_add];exact hb
   have hg:List.getD l (0+Int.toNat (M:Int)) (EK.AQ Ab)=l[M]'(by omega):=by
    rw[Int.toNat_natCast,Nat.zero_add,List.getD_eq_getElem?_getD,List.getElem?_eq_getElem (by omega)];rfl
   refine AE e1 (AE e2 ?_)
   rw[hg]
   have hiff:=Uc hs k M (by omega)
   refine Az (fun hc=>?_) (fun hc=>?_)
   ·have hc:GV (l[M]'(by omega)).1 k=false:=by simpa [GV] using hc
    have:¬M < AM l k:=fun hlt=>by rw[hiff.2 hlt]at hc;cases hc
    exact⟨low,M,rfl,by omega,h1,by omega,by omega⟩
   ·have hc:GV (l[M]'(by omega)).1 k=true:=by simpa [GV] using hc
    have:=hiff.1 hc
    rw[wrap64 (x:=(M:Int)+1) (by omega) (by omega)]
    exact⟨M+1,high,rfl,by omega,by omega,h2,h3⟩
  ·show Value.int .i64 _=_
   have:low=AM l k:=by omega
   rw[this]
noncomputable def Od (args:List Value) (objs:List AJ):GT:=
 match args,objs with
 | [.slice (some ⟨9,0,some 0⟩) n c,.func (.func 72) ⟨[]⟩ ⟨[.pointer (some ⟨10,0,none⟩)]⟩],[.vec [.str,.str] l _,.cells [.string k] 0 _]=> .ask (n=l.length∧c=AF∧BE l∧l.length < 4611686018427387904) (.ret ⟨.int .i64 (AM l k),[],[]⟩)
 | [.slice none 0 0,.func (.func 72) ⟨[]⟩ ⟨[.pointer (some ⟨9,0,none⟩)]⟩],[.cells [.string _] 0 _]=> .ret ⟨.int .i64 0,[],[]⟩
 | _,_=> .fail
theorem E9 {laid:List (Nat × List Value)} {N m:Nat} {v:Value} {Hf:AA} {Ja:List (Option AJ)} (hv:Ch 6 v=true):Ci laid N m [] ⟨v,Ja,[]⟩ v Hf:=
 ⟨[],List.nodup_nil,fun b hb=>(by cases hb),rfl,LY 6 v hv,fun j b o hj=>(by cases hj),fun j o _ hm=>(by cases hm)⟩
theorem VA:Da Tryz.prog AL BG (A3 AL 9 [] Od):=by
 refine LR (fs:=[]) (Aw.nil _ _) (by kernel_rfl) (n:=27) (by kernel_rfl) (by kernel_rfl) fun argsc objs x hx _=>?_
 unfold Od at hx
 split at hx
 ·rename_i n c l ro k ro2 _
  simp only[GT.run]at hx
  split at hx
  ·rename_i hc
   cases hx
   obtain⟨rfl,rfl,hs,hn⟩:=hc
   refine⟨by simp,?_⟩
   have h0:As X0 11 BG (fun v _=>v= .int .i64 (AM l k)) (st BG 27 [.slice (some ⟨9,0,some 0⟩) l.length AF,Vy 10] (cm l k)):=by
    refine Bd (Av X0) (ids:=[]) (S:=aD) (by kernel_rfl) (Q:=fun _ _=>False) (R:=fun c=>c=R0 l k l.length 0 (l.length:Int)) (fun v H h=>h.elim) (fun c h=>by
     rw[h]
     exact Wb hs k hn l.length 0 l.length (by omega) (by omega) (LQ l k) (Nat.le_refl _)) 100 _ ?_
    rw[Za]
    rfl
   refine As.mono (Q:=fun v _=>v= .int .i64 (AM l k)) h0 fun v H h=>?_
   subst h
   exact E9 (by rfl)
  ·cases hx
 ·rename_i k ro _
  cases hx
  refine⟨by simp,?_⟩
  have h0:As X0 10 BG (fun v _=>v= .int .i64 0) (st BG 27 [.slice none 0 0,Vy 9] (BW ⟨.leaf,9⟩ [.cells [.string k] 0 true])):=
   B8.Gq (B6 (Av X0) (ids:=[]) (Q:=fun v _=>v= .int .i64 0) 100 _ (by rw[ag]))
  refine As.mono (Q:=fun v _=>v= .int .i64 0) h0 fun v H h=>?_
  subst h
  exact E9 (by rfl)
 ·cases hx
end Go.AD
