/-
  Part of the proof: the machine that runs a program by fixed orders, and that each of its runs is a run of the model; or a run of it in parts. No conditions.
-/
import Derived.Test.YtbojbpalkegahaaGreatDoorIdSim5
import Derived.Test.YtbojbpalkegahaaGreatDoorIdVec
import Derived.Test.YtbojbpalkegahaaGreatDoorChecked
import Derived.Test.YtbojbpalkegahaaGreatDoorIdIop
namespace Go.AD
section
variable {X:Ctx} {base:Env} {W0:World} {μ:Ad} {H:AA} {W:World}
theorem Qb {o:Oper} {fr:Ab} {cs:List Ab} {c':A5} (hc:Bo X.P o≠2) (h:Iq X o fr cs H=some c'):∃v H' fr1,JH X.P (Bf X fr.tmps) o H=some (v,H')∧Bt fr v=some fr1∧c'=⟨fr1,cs,H'⟩:=by
 have key:(match JH X.P (Bf X fr.tmps) o H with
  | some (v,H')=>match Bt fr v with
   | some fr'=>some (⟨fr',cs,H'⟩:A5)
   | none=>none
  | none=>none)=some c'→∃v H' fr1,JH X.P (Bf X fr.tmps) o H=some (v,H')∧Bt fr v=some fr1∧c'=⟨fr1,cs,H'⟩:=by
  intro hm
  split at hm
  ·rename_i v H' hio
   split at hm
   ·rename_i fr1 hfin
    cases hm
    exact⟨v,H',fr1,hio,hfin,rfl⟩
   ·cases hm
  ·cases hm
 unfold Iq at h
 split at h
 ·rename_i c hop
  split at h
  ·rename_i b hcal
   cases hb:isRec b
   ·simp only[hb,cond_false]at h;exact key h
   ·exfalso
    apply hc
    unfold Bo
    rw[hop]
    simp only[hcal]
    cases b<;>first | rfl | cases hb
  ·rename_i f hcal
   exfalso
   apply hc
   unfold Bo
   rw[hop]
   simp only[hcal]
  ·cases h
 ·rename_i c hop
  exact absurd hop (NZ hc c)
 ·exact key h
theorem EX.ahead {ops:Array Oper} {t:Tr Value} {n i d:Nat} {tm:Array Value} {D:List Nat} {rest:List PE} {idx:List Nat} {G G':List (Nat × Nat)} {o:Oper} {v:Value} {H':AA} (ho:ops[i]? = some o) (hd:o.dst=some d) (hdn:d < n) (hcls:Bo X.P o≠2)
 (h:EX X μ H ops t n tm D (.op i o::rest) idx G (DO X H t (.op i o::rest))) (hext:JO H H') (hn:H.next≤H'.next)
 (hG:∀p∈G,p∈G') (hnew:Jo X μ H' ops (t.put d (some v)) G' (DO X H' (t.put d (some v)) rest) i o) (hgnd:(G'.map Prod.snd).Nodup) (hglt:∀b∈G'.map Prod.snd,b < H'.next):
 EX X μ H' ops (t.put d (some v)) n tm (i::D) rest idx G' (DO X H' (t.put d (some v)) rest):=by
 obtain⟨hiD,hdeps,hok,_⟩:=Fa h.VO
 refine⟨h.stat,fun e he=>h.wf e (by simp[he]),hok,h.KW,?_,?_,h.sz,?_,?_,?_,hgnd,hglt⟩
 ·intro j oj hj hnj
  obtain⟨h1,h2⟩:=h.T6 j oj hj hnj
  exact⟨by simp[h1],h2⟩
 ·intro j oj hj hjD q hq
  rcases List.mem_cons.1 hjD with rfl | hjD
  ·rw[ho]at hj;cases hj;simp[hdeps q hq]
  ·simp[h.YH j oj hj hjD q hq]
 ·intro u hu
  have hui:i∈idx:=by
   rcases Classical.em (i∈idx)with q | q
   ·exact q
   ·exact absurd (h.T6 i o ho q).1 hiD
  have hne:u≠d:=by rintro rfl;exact hu i o ho (by simp) hui hd
  rw[DY _ _ hne]
  exact h.tmp u fun j oj hj hjD hji=>hu j oj hj (by simp[hjD]) hji
 ·intro j oj hj hjD hji
  rcases List.mem_cons.1 hjD with rfl | hjD
  ·rw[ho]at hj;cases hj;exact hnew
  ·have hap:=h.apart ho hiD hd hj hjD (fun q=>absurd q hcls)
   have hlook:∀u,u≠d→look (t.put d (some v)) u=look t u:=fun u hu=>DY _ _ hu
   have hr:∀u∈DQ ops oj,look (t.put d (some v)) u=look t u:=fun u hu=>hlook u (by rintro rfl;exact hap.1 hu)
   have hdj:∀q,oj.dst=some q→look (t.put d (some v)) q=look t q:=fun q hq=>hlook q (by rintro rfl;exact hap.2 hq)
   have hp:Jo X μ H ops (t.put d (some v)) G (DO X H' (t.put d (some v)) rest) j oj:=by
    refine(h.X6 j oj hj hjD hji).congr hr hdj fun q hq _ hc0 hf=>?_
    rcases hf with hf | ⟨H1,hf⟩
    ·simp[lead]at hf
    ·refine .inr ⟨H',?_⟩
     rw[Jm hr,hdj q hq]
     exact(My hc0 hf).2 H' hext
   obtain⟨q,h1,h0,h2⟩:=hp
   refine⟨q,h1,h0,?_⟩
   rcases h2 with h2 | h2 | ⟨a,b,c,hc,obj,mk,e1,e2,e3,e4,e5⟩
   ·exact .inl h2
   ·exact .inr (.inl h2)
   ·exact .inr (.inr ⟨a,b,c,hG _ hc,obj,mk,e1,e2,Nat.lt_of_lt_of_le e3 hn,e4,hext _ _ e5⟩)
 ·intro j oj q hj hjD hq
  rcases List.mem_cons.1 hjD with rfl | hjD
  ·rw[ho]at hj;cases hj
   rw[hd]at hq;cases hq;exact hdn
  ·exact h.Yf j oj q hj hjD hq
theorem VF (hok:Dn X base W0) {fn:FuncId} {t:Tr Value} {n:Nat} {tm:Array Value} {ops:Array Oper} {Bj:List PE} {idx D:List Nat} {G:List (Nat × Nat)} {k:List CI} {k':List Item} {ds ds':List Deferred} {kd:CallKind} {rd rd':Option Nat}
 {cs:List Ab} {cs' cs0:List Frame} {gs:List Nat} {c':A5} (hH:AP base W0 μ H W) (hlaid:Bb X μ) (hD:EX X μ H ops t n tm D Bj idx G (DO X H t Bj)) (hk:C3 μ k k') (hd:CF μ ds ds') (hr:FL μ rd rd')
 (hcs:DS X μ H gs cs cs') (hnd:(G.map Prod.snd++gs).Nodup) (h:Dm X ⟨⟨fn,t,n,.DZ ops Bj::k,ds,false,kd,rd⟩,cs,H⟩=some c'):
 CW X base W0 cs0 c' (lone ⟨fn,tm,.inRegion ops idx::k',ds',.run,kd,rd'⟩ (cs'++cs0) W):=by
 unfold Dm at h
 simp only[cond_false]at h
 cases Bj with
 | nil=>
  simp only[Option.some.injEq]at h
  subst h
  have hall:∀j∈idx,j∈D:=by
   intro j hj
   have hlt:∀(l:List Nat),R9 ops l→∀j∈l,j < ops.size:=by
    intro l
    induction l with
    | nil=>intro _ j hj;cases hj
    | cons a l ih=>
     intro ht j hj
     obtain⟨⟨o,ho,_⟩,_,h3⟩:=ht
     rcases List.mem_cons.1 hj with rfl | hj
     ·exact(Array.getElem?_eq_some_iff.1 ho).1
     ·exact ih h3 j hj
   have hok:=hD.VO
   unfold Db at hok
   exact Dy.1 (List.all_eq_true.1 hok j (by simpa using hlt idx hD.KW j hj))
  obtain⟨μ1,W1,tm1,G1,q1,q2,q3,q4⟩:=Wm (fn:=fn) (k':=k') (ds':=ds') (kd:=kd) (rd':=rd') (cs:=cs'++cs0) (gs:=gs) rfl idx μ W tm G hH hlaid hD hall hnd
  refine⟨μ1,_,cs',W1,q1.trans (.one Kn),q2,hlaid.mono q4.le,[],gs,.plain fn t n tm1 k k' ds ds' false kd rd rd' ⟨q3.sz,fun u=>q3.tmp u fun _ _ _ _ hm=>by cases hm⟩ (hk.mono q4.le) (hd.mono q4.le) (hr.mono q4.le),hcs.mono q4,(List.nodup_append.1 hnd).2.1⟩
 | cons e rest=>
  cases e with
  | NG j o=>
   simp only at h
   have hoj:ops[j]? = some o:=hD.wf (.NG j o) (by simp)
   have hokp:=hD.VO
   unfold Db at hokp
   simp only[Bool.and_eq_true]at hokp
   have hwf:GS ops rest:=fun e he=>hD.wf e (by simp[he])
   have fin:(∀d,o.dst=some d→CX ops o t=some true→Bo X.P o=0→∃H1,JH X.P (Bf X t) o H=some (look t d,H1))→c'=⟨⟨fn,t,n,.DZ ops rest::k,ds,false,kd,rd⟩,cs,H⟩→
    CW X base W0 cs0 c' (lone ⟨fn,tm,.inRegion ops idx::k',ds',.run,kd,rd'⟩ (cs'++cs0) W):=by
    rintro hfact rfl
    refine⟨μ,_,cs',W,.refl _ _,hH,hlaid,G.map Prod.snd,gs,.drawn fn t n tm ops rest idx D G k k' ds ds' kd rd rd' ⟨hD.stat,hwf,hokp.2,hD.KW,hD.T6,hD.YH,hD.sz,hD.tmp,fun i oi hi hiD hii=>?_,hD.Yf,hD.W7,hD.VN⟩ hk hd hr,hcs,hnd⟩
    refine(hD.X6 i oi hi hiD hii).congr (fun _ _=>rfl) (fun _ _=>rfl) fun d hdd hw hc0 hf=>?_
    rcases hf with hf | hf
    ·simp only[lead,List.mem_cons]at hf
     rcases hf with rfl | hf
     ·rw[hoj]at hi;cases hi
      exact .inr (hfact d hdd hw hc0)
     ·exact .inl hf
    ·exact .inr hf
   split at h
   ·rename_i hw
    split at h
    ·rename_i d v H1 hdd hio
     cases hs:HZ 8 v (look t d)
     ·simp[hs]at h
     ·simp only[hs,cond_true,Option.some.injEq]at h
      refine fin (fun d2 hd2 _ _=>?_) h.symm
      rw[hdd]at hd2;cases hd2
      exact⟨H1,by rw[hio,Qi 8 _ _ hs]⟩
    ·cases h
   ·rename_i hw
    simp only[Option.some.injEq]at h
    exact fin (fun d _ hw2 _=>by rw[hw]at hw2;cases hw2) h.symm
   ·cases h
  | op i o=>
   simp only at h
   have hoi:ops[i]? = some o:=hD.wf (.op i o) (by simp)
   obtain⟨hiD,hdeps,hokr,hX⟩:=Fa hD.VO
   have hii:i∈idx:=by
    rcases Classical.em (i∈idx)with q | q
    ·exact q
    ·exact absurd (hD.T6 i o hoi q).1 hiD
   by_cases hcls:Bo X.P o=2
   ·
    obtain⟨μ1,W1,tm1,G1,idx1,q1,q2,q3,q4,q5⟩:=Y8 (fn:=fn) (k':=k') (ds':=ds') (kd:=kd) (rd':=rd') (cs:=cs'++cs0) (gs:=gs) hcls idx μ W tm G hH hlaid hD hii hnd
    have hlaid1:=hlaid.mono q4.le
    have hcs1:=hcs.mono q4
    have hnd1:(G1.map Prod.snd++gs).Nodup:=hnd.sublist (q5.append (List.Sublist.refl _))
    have hsus:=q3.suspend hcls hoi
    have hfr:∀ds1 ds1',CF μ1 ds1 ds1'→Gi X μ1 H (G1.map Prod.snd) ⟨fn,t,n,.DZ ops (.op i o::rest)::k,ds1,false,kd,rd⟩ ⟨fn,tm1,.inRegion ops (i::idx1)::k',ds1',.run,kd,rd'⟩:=fun ds1 ds1' hd1=>
     .Lw fn t n tm1 ops i o rest idx1 D G1 k k' ds1 ds1' kd rd rd' hoi hsus (hk.mono q4.le) hd1 (hr.mono q4.le)
    have hreads:=q3.reads hoi
    have hwant:∀b,CX ops o t=some b→Region.wanted o (yielded ops tm1)=b:=fun b hb=>Ho (fun q w u hg hu=>hreads u (IC hg hu)) hb
    have after:∀{m:Machine},CW X base W0 cs0 c' m→Steps X.P (lone ⟨fn,tm,.inRegion ops idx::k',ds',.run,kd,rd'⟩ (cs'++cs0) W) m→CW X base W0 cs0 c' (lone ⟨fn,tm,.inRegion ops idx::k',ds',.run,kd,rd'⟩ (cs'++cs0) W):=by
     rintro m ⟨a1,a2,a3,a4,a5,a6⟩ hs
     exact⟨a1,a2,a3,a4,hs.trans a5,a6⟩
    split at h
    ·rename_i hw
     refine after (P8 hok q2 hlaid1 hoi (hd.mono q4.le) (hr.mono q4.le) hcs1 hnd1 hfr (fun x hx=>KM hlaid1 x fun u hu=>hreads u (KP (by rw[←hu];exact hx))) (hwant true hw) h) q1
    ·rename_i hw
     split at h
     ·rename_i fr1 hfin
      cases h
      refine after ⟨μ1,_,cs',W1,.one (L8 hoi (hwant false hw)),q2,hlaid1,G1.map Prod.snd,gs,Co (hfr ds ds' (hd.mono q4.le)) (AH.undef μ1) hfin,hcs1,hnd1⟩ q1
     ·cases h
    ·cases h
   ·
    obtain⟨d,hdd⟩:=WJ hD.stat hoi hcls
    have hcl01:Bo X.P o=0∨Bo X.P o=1:=by
     have:Bo X.P o≤2:=by
      unfold Bo
      split<;>first | omega | (cases (O1 X.P _).isSome<;>decide) | (cases F1 X.P _<;>decide) | (split<;>first | omega | (split<;>omega))
     omega
    have hself:∀u∈DQ ops o,u≠d:=fun u hu e=>(I9 hD.stat hoi hoi hu (by rw[e];exact hdd)).elim (fun q=>hiD (hdeps i q)) fun q=>hcls q.1
    have hrd:∀v:Value,∀u∈DQ ops o,look (t.put d (some v)) u=look t u:=fun v u hu=>DY _ _ (hself u hu)
    have hfinI:∀v fr1,Bt ⟨fn,t,n,.DZ ops (.op i o::rest)::k,ds,false,kd,rd⟩ v=some fr1→d < n∧fr1=⟨fn,t.put d (some v),n,.DZ ops rest::k,ds,false,kd,rd⟩:=by
     intro v fr1 hf
     unfold Bt at hf
     rw[Ia]at hf
     simp only[hdd]at hf
     cases hlt:Nat.blt d n
     ·simp[hlt]at hf
     ·simp only[hlt,cond_true,Option.some.injEq]at hf
      exact⟨Nat.le_of_ble_eq_true hlt,hf.symm⟩
    split at h
    ·rename_i hw
     obtain⟨v,H',fr1,hio,hfin,rfl⟩:=Qb hcls h
     obtain⟨hdn,rfl⟩:=hfinI v fr1 hfin
     have hio0:JH X.P (Bf X t) o H=some (v,H'):=hio
     rcases hcl01 with hc | hc
     ·obtain⟨rfl,_⟩:=My hc hio0
      refine⟨μ,_,cs',W,.refl _ _,hH,hlaid,G.map Prod.snd,gs,.drawn fn _ n tm ops rest idx (i::D) G k k' ds ds' kd rd rd' (hD.ahead hoi hdd hdn hcls (fun _ _ hb=>hb) (Nat.le_refl _) (fun _ hp=>hp) ⟨d,hdd,hcls,.inr (.inl ⟨by rw[Es (hrd v)];exact hw,hc,.inr ⟨H',?_⟩⟩)⟩ hD.W7 hD.VN) hk hd hr,hcs,hnd⟩
      rw[Jm (hrd v),DJ];exact hio0
     ·obtain⟨obj,mk,rfl,rfl,h3,h4,_⟩:=TV hc hio0
      have hfresh:=hH.fresh H.next (Nat.le_refl _)
      have hnG:H.next∉G.map Prod.snd:=fun hm=>Nat.lt_irrefl _ (hD.VN _ hm)
      have hngs:H.next∉gs:=fun hm=>Nat.lt_irrefl _ (hcs.lt _ hm)
      have hext:=JO.alloc hH obj
      have hkeep:Du gs μ H μ (H.alloc obj):=⟨Ad.le_refl _,by simp[AA.alloc],fun b _ hb hm=>⟨hm,by rw[AA.AQ,if_neg (by omega)]⟩⟩
      refine⟨μ,_,cs',W,.refl _ _,hH.ghost obj,hlaid,((i,H.next)::G).map Prod.snd,gs,.drawn fn _ n tm ops rest idx (i::D) ((i,H.next)::G) k k' ds ds' kd rd rd' (hD.ahead hoi hdd hdn hcls hext (by simp[AA.alloc]) (fun _ hp=>by simp[hp])
       ⟨d,hdd,hcls,.inr (.inr ⟨by rw[Es (hrd _)];exact hw,hc,H.next,by simp,obj,mk,DJ _ _ _,fun H2=>by rw[Jm (hrd _)];exact h3 H2,by simp[AA.alloc],hfresh.2,by rw[AA.AQ,if_pos rfl]⟩)⟩
       (by simp only[List.map_cons,List.nodup_cons];exact⟨hnG,hD.W7⟩) ?_) hk hd hr,hcs.mono hkeep,?_⟩
      ·intro b hb
       simp only[List.map_cons,List.mem_cons]at hb
       rcases hb with rfl | hb
       ·simp[AA.alloc]
       ·have:=hD.VN b hb;simp only[AA.alloc];omega
      ·simp only[List.map_cons,List.cons_append,List.nodup_cons]
       exact⟨fun hm=>(List.mem_append.1 hm).elim hnG hngs,hnd⟩
    ·rename_i hw
     split at h
     ·rename_i fr1 hfin
      cases h
      obtain⟨hdn,rfl⟩:=hfinI _ fr1 hfin
      exact⟨μ,_,cs',W,.refl _ _,hH,hlaid,G.map Prod.snd,gs,.drawn fn _ n tm ops rest idx (i::D) G k k' ds ds' kd rd rd' (hD.ahead hoi hdd hdn hcls (fun _ _ hb=>hb) (Nat.le_refl _) (fun _ hp=>hp) ⟨d,hdd,hcls,.inl ⟨by rw[Es (hrd _)];exact hw,DJ _ _ _⟩⟩ hD.W7 hD.VN) hk hd hr,hcs,hnd⟩
     ·cases h
    ·cases h
end
end Go.AD

namespace Go.AD
section
variable {X:Ctx} {base:Env} {W0:World} {μ:Ad} {H:AA} {W:World}
theorem QG (hok:Dn X base W0) (hplan:FF X) {c c':A5} {fr:Frame} {cs' cs0:List Frame} (hm:Hi X base W0 μ c fr cs' W) (h:Dm X c=some c'):
 CW X base W0 cs0 c' (lone fr (cs'++cs0) W):=by
 obtain⟨hH,hlaid,g,gs,hfr,hcs,hnd⟩:=hm
 obtain⟨f0,cs,H⟩:=c
 simp only at hH hfr hcs
 cases hfr with
 | drawn fn t n tm ops Bj idx D G k k' ds ds' kd rd rd' hD hk hd hr=>exact VF hok hH hlaid hD hk hd hr hcs hnd h
 | plain fn t n tm todo todo' ds ds' r kd rd rd' ht hi hd hrd=>
  unfold Dm at h
  simp only at h
  cases r with
  | true=>
   simp only[cond_true]at h
   exact Qf hH hlaid ht hi hd hrd hcs hnd h
  | false=>
   simp only[cond_false]at h
   have fin:∀(k2:List CI) (k2':List Item) ,C3 μ k2 k2'→step X.P (lone ⟨fn,tm,todo',ds',.run,kd,rd'⟩ (cs'++cs0) W)= .next (lone ⟨fn,tm,k2',ds',.run,kd,rd'⟩ (cs'++cs0) W)→
    c'=⟨⟨fn,t,n,k2,ds,false,kd,rd⟩,cs,H⟩→CW X base W0 cs0 c' (lone ⟨fn,tm,todo',ds',OT false,kd,rd'⟩ (cs'++cs0) W):=by
    rintro k2 k2' hk2 hs rfl
    exact⟨μ,_,cs',W,.one hs,hH,hlaid,[],gs,.plain fn t n tm k2 k2' ds ds' false kd rd rd' ht hk2 hd hrd,hcs,hnd⟩
   cases hi with
   | nil=>exact JQ hH hlaid ht .nil hd hrd hcs hnd (.inl ⟨rfl,rfl⟩) h
   | @cons it it' k k' h1 hk=>
    simp only at h
    cases h1 with
    | Ik ops l idx hidx=>
     simp only at h
     split at h
     ·cases idx with
      | nil=>exact fin k k' hk Kn (by cases h;rfl)
      | cons i idx=>simp at hidx
     ·rename_i o rest
      cases idx with
      | nil=>simp at hidx
      | cons i idx=>
       simp only[List.map_cons,List.cons.injEq]at hidx
       split at h
       ·rename_i hw
        refine P8 hok hH hlaid hidx.1 hd hrd hcs hnd (fun ds1 ds1' hd1=> .plain fn t n tm _ _ ds1 ds1' false kd rd rd' ht (.cons (.Ik ops _ _ (by simp[hidx.1,hidx.2])) hk) hd1 hrd) (fun x _=>J0 hlaid ht x) (I2 ht hw) h
       ·rename_i hw
        split at h
        ·rename_i fr1 hfin
         cases h
         refine⟨μ,_,cs',W,.one (L8 hidx.1 (I2 ht hw)),hH,hlaid,[],gs,?_,hcs,hnd⟩
         exact Co (.plain fn t n tm _ _ ds ds' false kd rd rd' ht (.cons (.Ik ops (o::rest) (i::idx) (by simp[hidx.1,hidx.2])) hk) hd hrd) (AH.undef μ) hfin
        ·cases h
       ·cases h
    | code c=>
     simp only at h
     split at h
     ·rename_i a b;exact fin _ _ (.cons (.code a) (.cons (.code b) hk)) eK (by cases h;rfl)
     ·rename_i id ops
      exact fin _ _ (.cons (.Ik ops ops.toList _ (UH ops)) hk) WB (by cases h;rfl)
     ·rename_i id ops
      split at h
      ·rename_i p hp
       cases h
       obtain⟨hmix,hpl⟩:=hplan
       obtain⟨q1,q2,q3⟩:=hpl ops p hp
       obtain⟨s1,s2⟩:=WA q2 q3 (W.tape W.drawn (.order fn id))
       have hdr:=bM (P:=X.P) (W:=W) (fn:=fn) (tm:=tm) (k:=k') (ds:=ds') (kd:=kd) (rd:=rd') (cs:=cs'++cs0) (id:=id) (ops:=ops)
       rw[hmix]at hdr
       refine⟨μ,_,cs',_,.one hdr,hH.drawn _,hlaid,[],gs,?_,hcs,hnd⟩
       refine .drawn fn t n tm ops p _ [] [] k k' ds ds' kd rd rd' ⟨q1,q2,q3,s1,fun i o ho hni=>absurd (s2 i (Array.getElem?_eq_some_iff.1 ho).1) hni,(fun _ _ _ h=>by cases h),ht.1,fun u _=>ht.2 u,(fun _ _ _ h=>by cases h),(fun _ _ _ _ h=>by cases h),by simp,fun b hb=>by simp at hb⟩ hk hd hrd
      ·cases h
     ·rename_i cnd a b
      have hev:=J0 (fr:=⟨fn,tm,.code (.cond cnd a b)::k',ds',.run,kd,rd'⟩) hlaid ht cnd
      split at h
      ·rename_i x hx
       rw[hx]at hev
       have hev':Frame.eval ⟨fn,tm,.code (.cond cnd a b)::k',ds',.run,kd,rd'⟩ cnd= .bool x:=by
        generalize Frame.eval ⟨fn,tm,.code (.cond cnd a b)::k',ds',.run,kd,rd'⟩ cnd=q at hev
        cases hev;rfl
       exact fin _ _ (.cons (.code _) hk) (cJ hev') (by cases h;rfl)
      ·cases h
     ·exact fin _ _ hk bL (by cases h;rfl)
     ·exact fin _ _ hk aC (by cases h;rfl)
     ·rename_i id b;exact fin _ _ (.cons (.code b) (.cons (.inBlock id) hk)) ZU (by cases h;rfl)
     ·rename_i b;exact fin _ _ (.cons (.code b) (.cons (.inLoop b) hk)) cn (by cases h;rfl)
     ·rename_i b;exact fin _ _ (.cons (.code b) (.cons (.inScope b) hk)) Zv (by cases h;rfl)
     ·rename_i id
      have hex:=RI (id:=id) hk
      split at h
      ·rename_i k2 hq
       obtain⟨k2',q1,q2⟩:=hex.1 k2 hq
       exact fin _ _ q2 (cU q1) (by cases h;rfl)
      ·rename_i hq
       exact JQ hH hlaid ht (.cons (.code _) hk) hd hrd hcs hnd (.inr (.inr ⟨id,k',rfl,hex.2 hq,rfl⟩)) h
     ·exact JQ hH hlaid ht (.cons (.code _) hk) hd hrd hcs hnd (.inr (.inl ⟨k',rfl,rfl⟩)) h
     ·rename_i f ps a b
      split at h
      ·rename_i l
       cases hrd with
       | some _ T hT=>
        split at h
        ·rename_i q hget
         obtain⟨o',ho',hor⟩:=hH.obj l _ hget T hT
         cases hor with
         | loop _ aa R hta hda=>
          have hal:=hH.alloc (T:=⟨W.heap.size,0,0,0⟩) (o:= .loop ⟨.ready,none,fn,t,n,ps,a,b,q.defers⟩) rfl (.loop ⟨W.heap.size,0,0,0⟩ ⟨.ready,none,fn,t,n,ps,a,b,q.defers⟩ tm R ht hda)
          obtain⟨g1,g2⟩:=hal
          refine Iw hok (mark:=[]) (T:=⟨W.heap.size,0,0,0⟩) g1 (hlaid.mono g2.le) (ht.mono g2.le) (hk.mono g2.le) (hd.mono g2.le) (.some l T (g2.le _ _ hT)) (hcs.mono (g2.keeps gs)) hnd (Ad.Ak _ _ _) (Md ho') h
        ·cases h
      ·cases hrd
       have hal1:=hH.alloc (T:=⟨W.heap.size,0,0,0⟩) (o:= .deferred (some [])) (o':= .deferred (some [])) rfl (.deferred _ [] [] .nil)
       obtain⟨g1,g2⟩:=hal1
       have hal2:=g1.alloc (T:=⟨W.heap.size+1,0,0,0⟩) (o:= .loop ⟨.ready,none,fn,t,n,ps,a,b,H.next⟩) (by simp) (.loop ⟨W.heap.size+1,0,0,0⟩ ⟨.ready,none,fn,t,n,ps,a,b,H.next⟩ tm ⟨W.heap.size,0,0,0⟩ (ht.mono g2.le) (Ad.Ak _ _ _))
       obtain⟨g3,g4⟩:=hal2
       have g5:=g2.trans g4
       refine Iw hok (mark:=[{ target:= .collected W.heap.size,args:=#[] }]) (T:=⟨W.heap.size+1,0,0,0⟩) g3 (hlaid.mono g5.le) (ht.mono g5.le) (hk.mono g5.le) ?_ .none (hcs.mono (g5.keeps gs)) hnd (Ad.Ak _ _ _) MX h
       exact .cons ⟨.collected H.next ⟨W.heap.size,0,0,0⟩ (g4.le _ _ (Ad.Ak _ _ _)),.nil⟩ (hd.mono g5.le)
     ·cases h
    | inBlock id=>exact fin _ _ hk UQ (by cases h;rfl)
    | inScope b=>exact fin _ _ hk Uz (by cases h;rfl)
    | inLoop b=>exact fin _ _ (.cons (.code b) (.cons (.inLoop b) hk)) XR (by cases h;rfl)
    | inRangeFunc l T hT=>cases h
    | beginRound=>
     simp only at h
     split at h
     ·rename_i l
      cases hrd with
      | some _ T hT=>
       split at h
       ·rename_i q hget
        split at h
        ·rename_i hst
         cases h
         obtain⟨r,hr,hst',hpe,hput⟩:=MB hH hget hT
         obtain⟨p1,p2⟩:=hput .busy q.pending
         refine⟨μ,_,cs',_,.one (Od hr (by rw[hst',hst])),?_,hlaid,[],gs,.plain fn t n tm k k' ds ds' false kd (some l) (some T.c) ht hk hd (.some l T hT),hcs.mono (p2.keeps gs),hnd⟩
         have e1:({ r with state:=LoopState.busy }:Loop)={ r with state:= .busy,pending:=q.pending }:=by rw[←hpe]
         rw[e1];exact p1
        ·cases h
       ·cases h
     ·cases h
    | endRangeFunc l T hT=>
     simp only at h
     split at h
     ·rename_i q hget
      obtain⟨r,hr,hst',hpe,hput⟩:=MB hH hget hT
      obtain⟨p1,p2⟩:=hput .exhausted q.pending
      have p1':AP base W0 μ (H.put l (.loop { q with state:= .exhausted })) { W with heap:=W.heap.setIfInBounds T.c (.loop { r with state:= .exhausted }) }:=by
       have e1:({ r with state:=LoopState.exhausted }:Loop)={ r with state:= .exhausted,pending:=q.pending }:=by rw[←hpe]
       rw[e1];exact p1
      split at h
      ·cases h
      ·rename_i hnb
       have hs:r.state≠ .busy:=by rw[hst'];exact hnb
       have hce:=UF (P:=X.P) (fn:=fn) (tm:=tm) (k:=k') (ds:=ds') (kd:=kd) (rd:=rd') (cs:=cs'++cs0) hr hs
       split at h
       ·rename_i hp
        cases h
        have htd:(r.pending.map Item.code).toList++k'=k':=by rw[hpe,hp];rfl
        rw[htd]at hce
        exact⟨μ,_,cs',_,.one hce,p1',hlaid,[],gs,.plain fn t n tm k k' ds ds' false kd rd rd' ht hk hd hrd,hcs.mono (p2.keeps gs),hnd⟩
       ·rename_i j hp
        cases h
        have htd:(r.pending.map Item.code).toList++k'= .code j::k':=by rw[hpe,hp];rfl
        rw[htd]at hce
        exact⟨μ,_,cs',_,.one hce,p1',hlaid,[],gs,.plain fn t n tm _ _ ds ds' false kd rd rd' ht (.cons (.code j) hk) hd hrd,hcs.mono (p2.keeps gs),hnd⟩
     ·cases h
end
end Go.AD

namespace Go.AD
section
variable {X:Ctx} {base:Env} {W0:World} {μ:Ad} {H:AA} {W:World}
theorem Tn (n:Nat) (c:A5):Xd X (n+1) c=match Dm X c with
 | some c'=>Xd X n c'
 | none=>none:=rfl
theorem Z3 (hok:Dn X base W0) (hplan:FF X) {cs0:List Frame}:∀(n:Nat) (c c':A5) (μ:Ad) (fr:Frame) (cs:List Frame) (W:World),Xd X n c=some c'→Hi X base W0 μ c fr cs W→
 ∃μ' fr1 cs1 W1,Steps X.P (lone fr (cs++cs0) W) (lone fr1 (cs1++cs0) W1)∧Hi X base W0 μ' c' fr1 cs1 W1:=by
 intro n
 induction n with
 | zero=>intro c c' μ fr cs W h hm;cases h;exact⟨μ,fr,cs,W,.refl _ _,hm⟩
 | succ n ih=>
  intro c c' μ fr cs W h hm
  rw[Tn]at h
  split at h
  ·rename_i c1 hs
   obtain⟨μ1,fr1,cs1,W1,s1,m1⟩:=QG (cs0:=cs0) hok hplan hm hs
   obtain⟨μ2,fr2,cs2,W2,s2,m2⟩:=ih c1 c' μ1 fr1 cs1 W1 h m1
   exact⟨μ2,fr2,cs2,W2,s1.trans s2,m2⟩
  ·cases h
noncomputable def DR (X:Ctx) (f:FuncId) (c:A5):Option (Value × AA):=
 match c with
 | ⟨⟨fn,t,_,todo,ds,r,kd,_⟩,cs,H⟩=>
  match cs,ds,r,kd,todo with
  | [],[],true,.normal,_=>bif Nat.beq fn f then
   match Hm X fn t H with
   | some v=>some (v,H)
   | none=>none
   else none
  | _,_,_,_,_=>none
def GO (f:FuncId) (t:Tr Value) (n:Nat) (code:Code) (H:AA):A5:=⟨⟨f,t,n,[.code code],[],false,.normal,none⟩,[],H⟩
theorem Fb (hH:AP base W0 μ H W) (hlaid:Bb X μ) {f:FuncId} {n:Nat} {code:Code} (he:entry X.P f=some (n,code)) {args:List Value} {args':Array Value} (ha:A2 μ args args'.toList) (hn:args.length≤n):
 Hi X base W0 μ (GO f (CQ 0 args .leaf) n code H) (Frame.enter X.P f args' .normal) [] W:=by
 refine⟨hH,hlaid,[],[],?_,.nil,by simp⟩
 rw[Lq he]
 exact .plain f _ n _ _ _ [] [] false .normal none none (Kh ha hn) (.cons (.code code) .nil) .nil .none
theorem Gp {f:FuncId} {c:A5} {fr:Frame} {cs:List Frame} {v:Value} {H':AA} (hm:Hi X base W0 μ c fr cs W) (hd:DR X f c=some (v,H')):
 cs=[]∧fr.fn=f∧∃v',fr.leaving X.P W (.returned v')∧AP base W0 μ H' W∧AH μ v v':=by
 obtain⟨hH,hlaid,g,gs,hfr,hcs,hnd⟩:=hm
 unfold DR at hd
 obtain⟨⟨fn,t,n,todo,ds,r,kd,rd⟩,cs1,H1⟩:=c
 simp only at hd hfr hcs hH
 split at hd
 ·rename_i x1 x2 x3 x4 x5
  cases hcs
  cases hb:Nat.beq fn f
  ·simp[hb]at hd
  ·simp only[hb,cond_true]at hd
   have hf:=Nat.eq_of_beq_eq_true hb
   split at hd
   ·rename_i v0 hres
    cases hd
    cases hfr with
    | plain _ _ _ tm _ todo' _ ds' _ _ _ rd' ht hi hdd hr=>
     cases hdd
     obtain⟨fn',v',h1,h2,h3⟩:=Kx hH ht hres
     exact⟨rfl,hf,v',⟨rfl,rfl,rfl,fn',h1,h2⟩,hH,h3⟩
   ·cases hd
 ·cases hd
noncomputable def GK:List (Nat × List Value)→Nat→AA
 | [],n=>⟨.leaf,n⟩
 | (g,cs)::r,n=>(GK r n).put g (.cells cs 0 true)
inductive OF:List Value→List Value→Prop where
 | plain (l:List Value) (h:l.all flat=true):OF l l
 | iface (te:TypeId) (pe:Value):OF [Be] [.iface te pe]
def DX (X:Ctx) (base:Env) (W0:World):Prop:=(X.laid.map Prod.fst).Nodup∧∀p∈X.laid,base.K p.1∧∃a t fz,W0.heap[p.1]? = some (.cells a t fz)∧OF p.2 a.toList
noncomputable def M5 (l:List (Nat × List Value)):Ad:=fun b=>match l.find? (fun p=>Nat.beq b p.1)with
 | some p=>some ⟨p.1,0,p.2.length,0⟩
 | none=>none
theorem G7 (l:List (Nat × List Value)) (n:Nat):(GK l n).next=n:=by
 induction l with
 | nil=>rfl
 | cons p l ih=>exact ih
theorem Gz:∀(l:List (Nat × List Value)) (n b:Nat) (o:AJ),(l.map Prod.fst).Nodup→(GK l n).get b=some o→∃cs,(b,cs)∈l∧o= .cells cs 0 true:=by
 intro l
 induction l with
 | nil=>intro n b o _ h;simp[GK,AA.get,Tr.MR]at h
 | cons p l ih=>
  intro n b o hnd h
  obtain⟨g,cs⟩:=p
  simp only[GK]at h
  rw[AA.AN]at h
  simp only[List.map_cons,List.nodup_cons]at hnd
  by_cases e:b=g
  ·subst e;rw[if_pos rfl]at h;cases h;exact⟨cs,by simp,rfl⟩
  ·rw[if_neg e]at h
   obtain⟨cs',h1,h2⟩:=ih n b o hnd.2 h
   exact⟨cs',by simp[h1],h2⟩
theorem IJ {l:List (Nat × List Value)} (_hnd:(l.map Prod.fst).Nodup) {b:Nat} {T:Bv} (h:M5 l b=some T):∃cs,(b,cs)∈l∧T=⟨b,0,cs.length,0⟩:=by
 unfold M5 at h
 split at h
 ·rename_i p hp
  cases h
  have h1:=List.find?_some hp
  have h2:=List.mem_of_find?_eq_some hp
  have e:=Nat.eq_of_beq_eq_true h1
  obtain⟨g,cs⟩:=p
  simp only at e
  subst e
  exact⟨cs,h2,rfl⟩
 ·cases h
theorem mem_unique {l:List (Nat × List Value)} (hnd:(l.map Prod.fst).Nodup) {b:Nat} {x y:List Value} (h1:(b,x)∈l) (h2:(b,y)∈l):x=y:=by
 induction l with
 | nil=>cases h1
 | cons p l ih=>
  simp only[List.map_cons,List.nodup_cons]at hnd
  rcases List.mem_cons.1 h1 with e1 | h1'<;>rcases List.mem_cons.1 h2 with e2 | h2'
  ·rw[←e1]at e2;cases e2;rfl
  ·exact absurd (List.mem_map.2 ⟨_,h2',rfl⟩) (by rw[←e1]at hnd;exact hnd.1)
  ·exact absurd (List.mem_map.2 ⟨_,h1',rfl⟩) (by rw[←e2]at hnd;exact hnd.1)
  ·exact ih hnd.2 h1' h2'
theorem D3:∀(l:List Value),l.all flat=true→A2 μ l l
 | [],_=> .nil
 | a::l,h=>by
  simp only[List.all_cons,Bool.and_eq_true]at h
  exact .cons (Ce h.1) (D3 l h.2)
theorem OF.rel {l l':List Value} (h:OF l l') (μ:Ad):A2 μ l l':=by
 cases h with
 | plain _ hf=>exact D3 _ hf
 | iface te pe=>exact .cons (.Be _) .nil
theorem Mj (hW:DX X base W0) (hmu:base.ar.le (M5 X.laid)) (hsz:∀i,base.K i→i < W0.heap.size) {n:Nat} (hn:∀p∈X.laid,p.1 < n):AP base W0 (M5 X.laid) (GK X.laid n) W0∧Bb X (M5 X.laid):=by
 obtain⟨hnd,hall⟩:=hW
 refine⟨⟨?_,?_,?_,?_,?_,hsz,fun _ _=>rfl,rfl,rfl,?_,hmu,Nat.le_refl _⟩,?_⟩
 ·intro b o hb T hT
  obtain⟨cs,h1,rfl⟩:=Gz _ _ _ _ hnd hb
  obtain⟨cs',h2,rfl⟩:=IJ hnd hT
  obtain rfl:=mem_unique hnd h1 h2
  obtain⟨_,a,t,fz,ha,hl⟩:=hall _ h1
  have hrel:=hl.rel (M5 X.laid)
  have hlen:=hrel.length
  have hlen:cs.length=a.toList.length:=hlen
  refine⟨_,ha,.cells _ _ _ true a t fz.1 fz.2 rfl ?_ ?_ (fun e=>by cases e)⟩
  ·show A2 _ cs (List.take cs.length (List.drop 0 a.toList))
   rw[List.drop_zero,hlen,List.take_length]
   exact hrel
  ·have hlen:cs.length=a.toList.length:=hlen
   have e:a.toList.length=a.size:=rfl
   show a.size=0+cs.length
   omega
 ·intro b o hb hr T hT
  obtain⟨cs,h1,rfl⟩:=Gz _ _ _ _ hnd hb
  cases hr
 ·intro b1 b2 o1 o2 _ _ T1 T2 h1 h2 _ _ hc
  obtain⟨_,_,rfl⟩:=IJ hnd h1
  obtain⟨_,_,rfl⟩:=IJ hnd h2
  exact fun _=>hc
 ·intro b hb
  rw[G7]at hb
  refine⟨?_,?_⟩
  ·cases hg:(GK X.laid n).get b with
   | none=>rfl
   | some o=>
    obtain⟨cs,h1,_⟩:=Gz _ _ _ _ hnd hg
    have:=hn _ h1
    simp only at this
    omega
  ·cases hg:M5 X.laid b with
   | none=>rfl
   | some T=>
    obtain⟨cs,h1,_⟩:=IJ hnd hg
    have:=hn _ h1
    simp only at this
    omega
 ·intro b T hT
  obtain⟨cs,h1,rfl⟩:=IJ hnd hT
  exact hsz _ (hall _ h1).1
 ·refine⟨fun _ _=>False,?_,?_⟩
  ·intro b a ro T hb
   obtain⟨cs,h1,e⟩:=Gz _ _ _ _ hnd hb
   cases e
  ·intro b a ro T hb
   obtain⟨cs,h1,e⟩:=Gz _ _ _ _ hnd hb
   cases e
 ·intro g hg
  obtain⟨p,hp,he⟩:=List.any_eq_true.1 hg
  have e:=Nat.eq_of_beq_eq_true he
  cases hm:M5 X.laid g with
  | none=>
   unfold M5 at hm
   split at hm
   ·cases hm
   ·rename_i hf
    rw[List.find?_eq_none]at hf
    exact absurd he (hf p hp)
  | some T=>
   obtain⟨cs,h1,rfl⟩:=IJ hnd hm
   exact⟨_,rfl,rfl,rfl⟩
def Env.at (base:Env) (W:World):Env:={ base with K:=fun i=>i < W.heap.size,ar:=fun _=>none }
theorem none_le (μ:Ad):Ad.le (fun _=>none) μ:=fun _ _ h=>by cases h
theorem AP.carry {W':World} (h:AP base W0 μ H W) (hs:W.heap.size≤W'.heap.size) (hold:∀i,i < W.heap.size→W'.heap[i]? = W.heap[i]?) (ho:W'.output=W.output) (hos:W'.os=W.os):AP base W0 μ H W':=
 ⟨fun b o hb T hT=>let ⟨o',h1,h2⟩:=h.obj b o hb T hT;⟨o',by rw[hold _ (h.bound b T hT)];exact h1,h2⟩,h.own,h.inj,h.fresh,fun b T hT=>Nat.lt_of_lt_of_le (h.bound b T hT) hs,fun i hi=>Nat.lt_of_lt_of_le (h.size i hi) hs,
  fun i hi=>by rw[hold i (h.size i hi)];exact h.below i hi,by rw[ho];exact h.out,by rw[hos];exact h.os,
  let ⟨φ,q⟩:=h.abs;⟨φ,fun b a ro T h1 h2=>let ⟨r1,r2⟩:=q.rep b a ro T h1 h2;⟨Cx.loc _ _ _ _ _ hs r1 (fun i hi=>hold i ((Cx.GB _ _ _ _ r1).2 i hi)),r2⟩,q.D2⟩,h.le,Nat.le_trans h.grow hs⟩
theorem DX.carry (hW:DX X base W0) (h:AP base W0 μ H W):DX X (base.at W) W:=by
 refine⟨hW.1,fun p hp=>?_⟩
 obtain⟨h1,a,t,fz,h3,h4⟩:=hW.2 p hp
 exact⟨h.size _ h1,a,t,fz,by rw[h.below _ h1];exact h3,h4⟩
theorem FP {b0:Env} {W W':World} {μ':Ad} {H':AA} (h:AP (b0.at W) W μ' H' W'):W.heap.size≤W'.heap.size:=h.grow
end
end Go.AD

namespace Go.AD
theorem Z2 {P:Program} {ops:Array Oper} {done:List Nat} {x:Oper}:GS ops (Ry P ops.toList done x):=by
 intro e he
 unfold Ry at he
 obtain⟨j,_,hj⟩:=List.mem_filterMap.1 he
 split at hj
 ·rename_i o ho
  cases hb:(Nat.beq (Bo P o) 0&& !((Iz ops.toList x).any (Nat.beq j)))
  ·rw[hb]at hj;cases hj
  ·rw[hb]at hj;cases hj
   show ops[j]? = some o
   rw[←Array.getElem?_toList];exact ho
 ·cases hj
theorem U6 {P:Program} {ops:Array Oper}:∀(f:Nat) (done:List Nat) (p:List PE),KV P ops.toList f done=some p→GS ops p:=by
 have key:∀{q:Oper × Nat→Bool} {o:Oper} {i:Nat},ops.toList.zipIdx.find? q=some (o,i)→ops[i]? = some o:=by
  intro q o i h
  have:=List.mem_of_find?_eq_some h
  have:=List.mem_zipIdx_iff_getElem?.1 this
  rw[←Array.getElem?_toList]
  exact this
 intro f
 induction f with
 | zero=>
  intro done p h
  unfold KV at h
  cases hb:Nat.beq done.length ops.toList.length
  ·rw[hb]at h;cases h
  ·rw[hb]at h;cases h;intro e he;cases he
 | succ f ih=>
  intro done p h
  unfold KV at h
  split at h
  ·rename_i o i hf
   rw[Option.map_eq_some_iff]at h
   obtain⟨r,hr,rfl⟩:=h
   intro e he
   rcases List.mem_cons.1 he with rfl | he
   ·exact key hf
   ·exact ih _ _ hr e he
  ·split at h
   ·rename_i o i hf
    rw[Option.map_eq_some_iff]at h
    obtain⟨r,hr,rfl⟩:=h
    intro e he
    rcases List.mem_cons.1 he with rfl | he
    ·exact key hf
    ·rcases List.mem_append.1 he with he | he
     ·exact Z2 e he
     ·exact ih _ _ hr e he
   ·cases h
theorem FZ {X:Ctx} (hm:X.P.follows .mixedOrders=true) (hp:X.Bj=JB X.P):FF X:=by
 refine⟨hm,fun ops p h=>?_⟩
 rw[hp]at h
 unfold JB at h
 split at h
 ·rename_i p' hg
  cases hb:(JD X.P ops&&Db X.P ops [] p')
  ·rw[hb]at h;cases h
  ·rw[hb]at h;cases h
   rw[Bool.and_eq_true]at hb
   exact⟨hb.1,U6 _ _ _ hg,hb.2⟩
 ·cases h
end Go.AD

namespace Go.AD
noncomputable def Ir (m:Tr AJ):List Nat→Tr AJ
 | []=> .leaf
 | i::r=>(Ir m r).put i (m.get i)
def KE:List CI→Bool
 | .DZ _ _::_=>false
 | _=>true
def OJ:Value→Option Nat
 | .pointer (some ⟨b,_,_⟩)=>some b
 | .slice (some ⟨b,_,_⟩) _ _=>some b
 | _=>none
noncomputable def G6 (P:Program) (ids:List Nat) (f:Ab):Bool:=
 match f.todo with
 | .DZ ops _::_=>ops.toList.all fun o=> !(Nat.beq (Bo P o) 1)||(match o.dst with
  | some d=>match OJ (look f.tmps d)with
   | some b=>ids.any (Nat.beq b)
   | none=>true
  | none=>true)
 | _=>true
noncomputable def Mx (P:Program) (ids:List Nat) (c:A5):Bool:=KE c.fr.todo&&c.cs.all fun f=>G6 P ids f
noncomputable def shrink (P:Program) (ids:List Nat) (c:A5):Option A5:=
 match c with
 | ⟨fr,cs,H⟩=>bif Mx P ids ⟨fr,cs,H⟩then some ⟨fr,cs,⟨Ir H.m ids,H.next⟩⟩else none
noncomputable def Sf (X:Ctx) (n:Nat) (ids:List Nat) (c:A5):Option A5:=
 match Xd X n c with
 | some c'=>shrink X.P ids c'
 | none=>none
noncomputable def LL:List Nat→Tr Value→Tr Value
 | [],t=>t
 | i::r,t=>(LL r t).put i (some Be)
noncomputable def forget (l:List Nat) (c:A5):Option A5:=
 match c with
 | ⟨⟨fn,t,n,todo,ds,r,kd,rd⟩,cs,H⟩=>bif KE todo then some ⟨⟨fn,LL l t,n,todo,ds,r,kd,rd⟩,cs,H⟩else none
inductive Hh (X:Ctx):A5→A5→Prop where
 | run {c c':A5} (n:Nat) (h:Xd X n c=some c'):Hh X c c'
 | shrink {c c':A5} (ids:List Nat) (h:Go.AD.shrink X.P ids c=some c'):Hh X c c'
 | forget {c c':A5} (l:List Nat) (h:Go.AD.forget l c=some c'):Hh X c c'
 | trans {c c1 c2:A5} (h:Hh X c c1) (h':Hh X c1 c2):Hh X c c2
theorem Hh.Sf {X:Ctx} {c c':A5} {n:Nat} {ids:List Nat} (h:Sf X n ids c=some c'):Hh X c c':=by
 unfold AD.Sf at h
 split at h
 ·rename_i c1 h1
  exact .trans (.run n h1) (.shrink ids h)
 ·cases h
theorem Ul (m:Tr AJ):∀(ids:List Nat) (b:Nat) (o:AJ),(Ir m ids).get b=some o→m.get b=some o:=by
 intro ids
 induction ids with
 | nil=>intro b o h;simp[Ir,Tr.MR]at h
 | cons i r ih=>
  intro b o h
  simp only[Ir]at h
  rw[Tr.AN]at h
  by_cases e:b=i
  ·subst e;rw[if_pos rfl]at h;exact h
  ·rw[if_neg e]at h;exact ih b o h
section
variable {X:Ctx} {base:Env} {W0:World} {μ:Ad} {H:AA} {W:World}
theorem AP.sub {H':AA} (h:AP base W0 μ H W) (hs:∀b o,H'.get b=some o→H.get b=some o) (hn:H'.next=H.next):AP base W0 μ H' W:=
 ⟨fun b o hb=>h.obj b o (hs b o hb),fun b o hb=>h.own b o (hs b o hb),fun b1 b2 o1 o2 h1 h2=>h.inj b1 b2 o1 o2 (hs _ _ h1) (hs _ _ h2),
  fun b hb=>(by
   have hb':H.next≤b:=by rw[←hn];exact hb
   refine⟨?_,(h.fresh b hb').2⟩
   cases hg:H'.get b with
   | none=>rfl
   | some o=>
    have:=(h.fresh b hb').1
    rw[hs _ _ hg]at this
    cases this),
  h.bound,h.size,h.below,h.out,h.os,
  let ⟨φ,q⟩:=h.abs;⟨φ,fun b' a ro T' h1 h2=>q.rep b' a ro T' (hs _ _ h1) h2,fun b' a ro T' h1 h2 b2 o2 T2 h3 h4 h5=>q.D2 b' a ro T' (hs _ _ h1) h2 b2 o2 T2 (hs _ _ h3) h4 h5⟩,h.le,h.grow⟩
theorem Vm (m:Tr AJ):∀(ids:List Nat) (b:Nat),b∈ids→(Ir m ids).get b=m.get b:=by
 intro ids
 induction ids with
 | nil=>intro b h;cases h
 | cons i r ih=>
  intro b h
  simp only[Ir,Tr.AN]
  by_cases e:b=i
  ·rw[if_pos e,e]
  ·rw[if_neg e]
   rcases List.mem_cons.1 h with h | h
   ·exact absurd h e
   ·exact ih b h
theorem R8 {P:Program} {ρ:Operand→Value} {o:Oper} {H H':AA} {v:Value} (hc:Bo P o=1) (hi:JH P ρ o H=some (v,H')):OJ v=some H.next:=by
 have hv:=TB (ρ:=ρ) hc H
 unfold JH at hi
 rw[hv]at hi
 simp only at hi
 cases ho:o.op<;>simp only[Bo,ho]at hc<;>try (first | (cases hc;done) | (split at hc<;>cases hc;done))
 all_goals simp only[K8,ho]at hi
 ·split at hi
  ·cases hi;rfl
  ·cases hi
 ·rename_i t x
  cases hn:DB (ρ x)
  ·simp[hn]at hi
  ·simp only[hn,cond_true,Option.some.injEq,Prod.mk.injEq]at hi
   obtain⟨rfl,_⟩:=hi
   rfl
 ·rename_i t len parts
  cases hn:(Nat.blt len AE&&parts.toList.all (fun p=>DB (ρ p.2)))
  ·simp only[hn,cond_false]at hi;cases hi
  ·simp only[hn,cond_true,E5]at hi
   cases hu:P.underlying t with
   | none=>simp[hu]at hi
   | some d=>
    cases d<;>simp only[hu]at hi<;>try (cases hi;done)
    rename_i e
    cases hs:C0 P e with
    | none=>simp[hs]at hi
    | some n=>
     cases hz:F4 P e with
     | none=>simp[hs,hz]at hi
     | some z=>
      simp only[hs,hz]at hi
      cases hq:Nat.beq (len * n) 0
      ·simp only[hq,cond_false]at hi
       cases hb:Nat.ble (len * n) 16777216
       ·simp only[hb,cond_false]at hi;cases hi
       ·simp only[hb,cond_true,Option.map_eq_some_iff]at hi
        obtain⟨l,_,he⟩:=hi
        cases he;rfl
      ·simp only[hq,cond_true]at hi
       split at hi
       ·cases hi;rfl
       ·cases hi
 ·simp only[Fx]at hi
  split at hi
  ·split at hi
   ·rename_i i z _ _
    rename_i l c _ _
    revert hi
    generalize (Nat.ble _ _&&Nat.ble _ _&&Nat.blt _ _)=q
    cases q
    ·intro hi;cases hi
    ·intro hi;cases hi;rfl
   ·cases hi
  ·cases hi
theorem Gi.kept {ids:List Nat} {g:List Nat} {f:Ab} {f':Frame} (h:Gi X μ H g f f') (hg:G6 X.P ids f=true):Gi X μ ⟨Ir H.m ids,H.next⟩ g f f':=by
 cases h with
 | plain fn t n tm todo todo' ds ds' r kd rd rd' ht hi hd hr=>exact .plain fn t n tm todo todo' ds ds' r kd rd rd' ht hi hd hr
 | Lw fn t n tm ops x o rest idx D G k k' ds ds' kd rd rd' ho hD hkk hd hr=>
  simp only[G6,List.all_eq_true]at hg
  refine .Lw fn t n tm ops x o rest idx D G k k' ds ds' kd rd rd' ho ⟨hD.stat,hD.wf,hD.VO,hD.KW,hD.T6,hD.YH,hD.sz,hD.tmp,?_,hD.Yf,hD.W7,hD.VN⟩ hkk hd hr
  intro i o' ho' h1 h2
  obtain⟨d,e1,e0,e2⟩:=hD.X6 i o' ho' h1 h2
  refine⟨d,e1,e0,?_⟩
  rcases e2 with e2 | e2 | ⟨e2,e3,b,hb,obj,mk,a1,a2,a3,a4,a5⟩
  ·exact .inl e2
  ·exact .inr (.inl e2)
  ·refine .inr (.inr ⟨e2,e3,b,hb,obj,mk,a1,a2,a3,a4,?_⟩)
   have hm:o'∈ops.toList:=by
    rw[←Array.getElem?_toList]at ho'
    exact List.mem_of_getElem? ho'
   have hk:=hg o' hm
   have hbl:OJ (look t d)=some b:=by
    rw[a1]
    exact R8 e3 (a2 ⟨.leaf,b⟩)
   simp only[e3,e1,hbl,Nat.beq_refl,Bool.not_true,Bool.false_or,List.any_eq_true]at hk
   obtain⟨b',hb',hbb⟩:=hk
   have hbe:=Nat.eq_of_beq_eq_true hbb
   subst hbe
   show(Ir H.m ids).get b=some obj
   rw[Vm _ _ _ hb']
   exact a5
theorem DS.kept {ids:List Nat} {gs:List Nat} {l:List Ab} {l':List Frame} (h:DS X μ H gs l l') (hg:l.all (fun f=>G6 X.P ids f)=true):DS X μ ⟨Ir H.m ids,H.next⟩ gs l l':=by
 induction h with
 | nil=>exact .nil
 | cons h _ ih=>
  simp only[List.all_cons,Bool.and_eq_true]at hg
  exact .cons (h.kept hg.1) (ih hg.2)
theorem Sp {ids:List Nat} {c c':A5} {fr:Frame} {cs:List Frame} (h:shrink X.P ids c=some c') (hm:Hi X base W0 μ c fr cs W):Hi X base W0 μ c' fr cs W:=by
 obtain⟨f,l,H⟩:=c
 unfold shrink at h
 cases hb:Mx X.P ids ⟨f,l,H⟩
 ·simp only[hb,cond_false]at h;cases h
 ·simp only[hb,cond_true]at h;cases h
  simp only[Mx,Bool.and_eq_true]at hb
  obtain⟨h1,h2,g,gs,h3,h4,h5⟩:=hm
  refine⟨h1.sub (fun b o=>Ul H.m ids b o) rfl,h2,g,gs,?_,h4.kept hb.2,h5⟩
  simp only at h3 hb
  cases h3 with
  | plain fn t n tm todo todo' ds ds' r kd rd rd' ht hi hd hr=>exact .plain fn t n tm todo todo' ds ds' r kd rd rd' ht hi hd hr
  | drawn fn t n tm ops Bj idx D G k k' ds ds' kd rd rd' hD hk hd hr=>have:=hb.1;cases this
theorem Qt {n:Nat} {tm:Array Value}:∀(l:List Nat) {t:Tr Value},En μ t n tm→En μ (LL l t) n tm:=by
 intro l
 induction l with
 | nil=>intro t h;exact h
 | cons i r ih=>
  intro t h
  have h1:=ih h
  refine⟨h1.1,fun u=>?_⟩
  simp only[LL]
  by_cases e:u=i
  ·subst e;rw[DJ];exact .Be _
  ·rw[DY _ _ e];exact h1.2 u
theorem SH {l:List Nat} {c c':A5} {fr:Frame} {cs:List Frame} (h:forget l c=some c') (hm:Hi X base W0 μ c fr cs W):Hi X base W0 μ c' fr cs W:=by
 obtain⟨⟨fn,t,n,todo,ds,r,kd,rd⟩,l1,H⟩:=c
 unfold forget at h
 simp only at h
 cases hb:KE todo
 ·simp only[hb,cond_false]at h;cases h
 ·simp only[hb,cond_true]at h;cases h
  obtain⟨h1,h2,g,gs,h3,h4,h5⟩:=hm
  refine⟨h1,h2,g,gs,?_,h4,h5⟩
  simp only at h3
  cases h3 with
  | plain _ _ _ tm _ todo' _ ds' _ _ _ rd' ht hi hd hr=>exact .plain fn _ n tm todo todo' ds ds' r kd rd rd' (Qt l ht) hi hd hr
  | drawn _ _ _ tm ops Bj idx D G k k' _ ds' _ _ rd' hD hk hd hr=>cases hb
theorem PX (hok:Dn X base W0) (hplan:FF X) {cs0:List Frame} {c c':A5} (hg:Hh X c c'):∀(μ:Ad) (fr:Frame) (cs:List Frame) (W:World),Hi X base W0 μ c fr cs W→
 ∃μ' fr1 cs1 W1,Steps X.P (lone fr (cs++cs0) W) (lone fr1 (cs1++cs0) W1)∧Hi X base W0 μ' c' fr1 cs1 W1:=by
 induction hg with
 | run n h=>intro μ fr cs W hm;exact Z3 hok hplan n _ _ μ fr cs W h hm
 | shrink ids h=>intro μ fr cs W hm;exact⟨μ,fr,cs,W,.refl _ _,Sp h hm⟩
 | forget l h=>intro μ fr cs W hm;exact⟨μ,fr,cs,W,.refl _ _,SH h hm⟩
 | trans _ _ ih1 ih2=>
  intro μ fr cs W hm
  obtain⟨μ1,fr1,cs1,W1,s1,m1⟩:=ih1 μ fr cs W hm
  obtain⟨μ2,fr2,cs2,W2,s2,m2⟩:=ih2 μ1 fr1 cs1 W1 m1
  exact⟨μ2,fr2,cs2,W2,s1.trans s2,m2⟩
theorem SO (hok:Dn X base W0) (hplan:FF X) (hH:AP base W0 μ H W) (hlaid:Bb X μ) {f:FuncId} {n:Nat} {code:Code} (he:entry X.P f=some (n,code)) {args:List Value} {args':Array Value} (ha:A2 μ args args'.toList) (hn:args.length≤n)
 {c':A5} {v:Value} {H':AA} (hrun:Hh X (GO f (CQ 0 args .leaf) n code H) c') (hd:DR X f c'=some (v,H')):
 Calls X.P f args' W fun e W'=>∃v' μ',e= .returned v'∧AP base W0 μ' H' W'∧AH μ' v v':=by
 intro cs
 obtain⟨μ',fr,cs1,W1,hs,hm⟩:=PX (cs0:=cs) hok hplan hrun μ _ [] W (Fb hH hlaid he ha hn)
 obtain⟨rfl,hf,v',h1,h2,h3⟩:=Gp hm hd
 have hs':Steps X.P (lone (Frame.enter X.P f args' .normal) cs W) (lone fr cs W1):=by simpa using hs
 exact⟨.returned v',W1,fr,⟨v',μ',rfl,h2,h3⟩,hs',hf,h1⟩
theorem Tz (Y:Ctx) (hP:Y.P=X.P) (hL:Y.laid=X.laid) (hW:DX X base W0) (hok:∀base W0,DX Y base W0→Dn Y base W0) (hplan:FF Y) {f:FuncId} {n N:Nat} {code:Code} (he:entry Y.P f=some (n,code)) {args:List Value} (hfl:args.all flat=true)
 (hn:args.length≤n) (hN:∀p∈Y.laid,p.1 < N) {c':A5} {v:Value} {H1:AA} (hrun:Hh Y (GO f (CQ 0 args .leaf) n code (GK Y.laid N)) c') (hd:DR Y f c'=some (v,H1)) (hv:flat v=true)
 (hH:AP base W0 μ H W) {args':Array Value} (ha:A2 μ args args'.toList):Calls X.P f args' W fun e W'=>∃v' μ',e= .returned v'∧AP base W0 μ' H W'∧AH μ' v v'∧Af μ H μ' H:=by
 have hW1:DX Y (base.at W) W:=by
  have:=hW.carry hH
  unfold DX at this ⊢
  rw[hL];exact this
 obtain⟨s1,s2⟩:=Mj (X:=Y) hW1 (none_le _) (fun _ hi=>hi) hN
 have hargs:args'.toList=args:=Gw args _ hfl ha
 have hc:=SO (args':=args') (hok _ _ hW1) hplan s1 s2 he (by rw[hargs];exact D3 args hfl) hn hrun hd
 rw[hP]at hc
 refine hc.mono fun e W' ⟨v',μ',h1,h2,h3⟩=>⟨v',μ,h1,hH.carry (FP h2) h2.below h2.out h2.os,?_,Af.refl _ _⟩
 rw[Eu hv h3];exact Ce hv
end
structure N7 where
 f:FuncId
 args:List Value
 v:Value
noncomputable def RK (k:N7):Ci:=fun args H=>bif Hs (HZ 8) args k.args then some (k.v,H)else none
def IN (P:Program) (laid:List (Nat × List Value)) (k:N7):Prop:=
 (∃n c,entry P k.f=some (n,c))∧∀base W0 μ H W (args':Array Value),DX ⟨P,laid,fun _=>none,JB P⟩ base W0→AP base W0 μ H W→A2 μ k.args args'.toList→
  Calls P k.f args' W fun e W'=>∃v' μ',e= .returned v'∧AP base W0 μ' H W'∧AH μ' k.v v'∧Af μ H μ' H
noncomputable def HQ:List (Nat × Value)→Tr Value
 | []=> .leaf
 | (i,v)::r=>(HQ r).put i (some v)
noncomputable def fR:List (Nat × AJ)→Tr AJ
 | []=> .leaf
 | (i,v)::r=>(fR r).put i (some v)
def K6:Code→List Nat→Code
 | c,[]=>c
 | .seq a b,i::r=>bif Nat.beq i 0 then K6 a r else K6 b r
 | .cond _ a b,i::r=>bif Nat.beq i 0 then K6 a r else K6 b r
 | .block _ b,_::r=>K6 b r
 | .loop b,_::r=>K6 b r
 | .scope b,_::r=>K6 b r
 | .rangeFunc _ _ a b,i::r=>bif Nat.beq i 0 then K6 a r else K6 b r
 | c,_::_=>c
def BH (P:Program) (f:FuncId) (l:List Nat):Code:=match entry P f with
 | some (_,c)=>K6 c l
 | none=> .skip
def opsOf:Code→Array Oper
 | .region _ ops _=>ops
 | _=>#[]
def Is (c:Code) (k:Nat):CI:= .Ik (opsOf c) ((opsOf c).toList.drop k)
def cR (P:Program) (c:Code) (k:Nat):CI:= .DZ (opsOf c) (match JB P (opsOf c)with
 | some p=>p.drop k
 | none=>[])
def XX (k:IntKind) (w:Nat):Nat→Nat→List Value
 | 0,_=>[]
 | n+1,m=> .int k (Int.ofNat (m % w))::XX k w n (m / w)
def dP (l:List Nat):ByteArray:=⟨⟨l.map UInt8.ofNat⟩⟩
def pt (b o:Nat):Value:= .pointer (some ⟨b,o,none⟩)
def sl (b o l c:Nat):Value:= .slice (some ⟨b,o,none⟩) l c
def eV (n m:Nat):List Value:=XX .u64 18446744073709551616 n m
theorem Mk {laid:List (Nat × List Value)} {N:Nat} (h:laid.all (fun p=>Nat.blt p.1 N)=true):∀p∈laid,p.1 < N:=fun p hp=>Nat.le_of_ble_eq_true (List.all_eq_true.1 h p hp)
theorem WM {P:Program} {f:FuncId} {n:Nat} {c:Code} (h:entry P f=some (n,c)):entry P f=some (n,BH P f []):=by
 have hc:K6 c []=c:=by cases c<;>rfl
 unfold BH;rw[h];show _=some (n,K6 c []);rw[hc]
noncomputable def S7 (P:Program) (laid:List (Nat × List Value)) (k:N7) (n N:Nat):Bool:=
 P.follows .mixedOrders&&k.args.all flat&&Nat.ble k.args.length n&&laid.all (fun p=>Nat.blt p.1 N)&&flat k.v&&(match entry P k.f with
  | some (m,_)=>Nat.beq m n
  | none=>false)
end Go.AD

namespace Go.AD
section
variable {X:Ctx} {base:Env} {W0:World} {μ:Ad} {H:AA} {W:World}
def NI (X:Ctx) (c c':A5):Prop:=∀(base:Env) (W0:World),Dn X base W0→FF X→∀(cs0:List Frame) (μ:Ad) (fr:Frame) (cs:List Frame) (W:World),Hi X base W0 μ c fr cs W→CW X base W0 cs0 c' (lone fr (cs++cs0) W)
theorem NI.refl (X:Ctx) (c:A5):NI X c c:=fun _ _ _ _ _ μ fr cs W hm=>⟨μ,fr,cs,W,.refl _ _,hm⟩
theorem NI.trans {c c1 c2:A5} (h:NI X c c1) (h':NI X c1 c2):NI X c c2:=by
 intro base W0 hok hplan cs0 μ fr cs W hm
 obtain⟨μ1,fr1,cs1,W1,s1,m1⟩:=h base W0 hok hplan cs0 μ fr cs W hm
 obtain⟨μ2,fr2,cs2,W2,s2,m2⟩:=h' base W0 hok hplan cs0 μ1 fr1 cs1 W1 m1
 exact⟨μ2,fr2,cs2,W2,s1.trans s2,m2⟩
theorem NI.step {c c':A5} (h:Dm X c=some c'):NI X c c':=fun _ _ hok hplan _ _ _ _ _ hm=>QG hok hplan hm h
theorem NI.fy {c c':A5} (h:Hh X c c'):NI X c c':=fun _ _ hok hplan _ μ fr cs W hm=>PX hok hplan h μ fr cs W hm
def Reach (X:Ctx) (c:A5) (Φ:A5→Prop):Prop:=∀(base:Env) (W0:World),Dn X base W0→FF X→∀(cs0:List Frame) (μ:Ad) (fr:Frame) (cs:List Frame) (W:World),Hi X base W0 μ c fr cs W→∃c',Φ c'∧CW X base W0 cs0 c' (lone fr (cs++cs0) W)
theorem Reach.here {c:A5} {Φ:A5→Prop} (h:Φ c):Reach X c Φ:=fun _ _ hok hplan cs0 μ fr cs W hm=>⟨c,h,NI.refl X c _ _ hok hplan cs0 μ fr cs W hm⟩
theorem NI.reach {c c':A5} {Φ:A5→Prop} (h:NI X c c') (hΦ:Φ c'):Reach X c Φ:=fun _ _ hok hplan cs0 μ fr cs W hm=>⟨c',hΦ,h _ _ hok hplan cs0 μ fr cs W hm⟩
theorem Reach.bind {c:A5} {Φ Ψ:A5→Prop} (h:Reach X c Φ) (h':∀c',Φ c'→Reach X c' Ψ):Reach X c Ψ:=by
 intro base W0 hok hplan cs0 μ fr cs W hm
 obtain⟨c1,p1,μ1,fr1,cs1,W1,s1,m1⟩:=h base W0 hok hplan cs0 μ fr cs W hm
 obtain⟨c2,p2,μ2,fr2,cs2,W2,s2,m2⟩:=h' c1 p1 base W0 hok hplan cs0 μ1 fr1 cs1 W1 m1
 exact⟨c2,p2,μ2,fr2,cs2,W2,s1.trans s2,m2⟩
theorem Reach.mono {c:A5} {Φ Ψ:A5→Prop} (h:Reach X c Φ) (hi:∀c',Φ c'→Ψ c'):Reach X c Ψ:=h.bind fun c' hc=> .here (hi c' hc)
theorem NI.then {c c':A5} {Φ:A5→Prop} (h:NI X c c') (h':Reach X c' Φ):Reach X c Φ:=Reach.bind (Φ:=fun d=>d=c') (h.reach rfl) fun _ e=>e ▸ h'
theorem NI.NG {fn:FuncId} {t:Tr Value} {n:Nat} {ops:Array Oper} {j:Nat} {o:Oper} {rest:List PE} {k:List CI} {ds:List Deferred} {kd:CallKind} {rd:Option Nat} {cs:List Ab} {H:AA}
 (hf:CX ops o t=some true→∃d H1,o.dst=some d∧JH X.P (Bf X t) o H=some (look t d,H1)):
 NI X ⟨⟨fn,t,n,.DZ ops (.NG j o::rest)::k,ds,false,kd,rd⟩,cs,H⟩ ⟨⟨fn,t,n,.DZ ops rest::k,ds,false,kd,rd⟩,cs,H⟩:=by
 intro base W0 hok hplan cs0 μ fr cs' W hm
 obtain⟨hH,hlaid,g,gs,hfr,hcs,hnd⟩:=hm
 simp only at hH hfr hcs
 cases hfr with
 | plain fn t n tm todo todo' ds ds' r kd rd rd' ht hi hd hrd=>cases hi;rename_i h1 _;cases h1
 | drawn fn t n tm ops Bj idx D G k k' ds ds' kd rd rd' hD hk hd hr=>
  have hoj:ops[j]? = some o:=hD.wf (.NG j o) (by simp)
  have hokp:=hD.VO
  unfold Db at hokp
  simp only[Bool.and_eq_true]at hokp
  have hwf:GS ops rest:=fun e he=>hD.wf e (by simp[he])
  refine⟨μ,_,cs',W,.refl _ _,hH,hlaid,G.map Prod.snd,gs,.drawn fn t n tm ops rest idx D G k k' ds ds' kd rd rd' ⟨hD.stat,hwf,hokp.2,hD.KW,hD.T6,hD.YH,hD.sz,hD.tmp,fun i oi hi hiD hii=>?_,hD.Yf,hD.W7,hD.VN⟩ hk hd hr,hcs,hnd⟩
  refine(hD.X6 i oi hi hiD hii).congr (fun _ _=>rfl) (fun _ _=>rfl) fun d hdd hw hc0 hf2=>?_
  rcases hf2 with hf2 | hf2
  ·simp only[lead,List.mem_cons]at hf2
   rcases hf2 with rfl | hf2
   ·rw[hoj]at hi;cases hi
    obtain⟨d2,H1,e1,e2⟩:=hf hw
    rw[hdd]at e1;cases e1
    exact .inr ⟨H1,e2⟩
   ·exact .inl hf2
  ·exact .inr hf2
end
noncomputable def ag {α:Type} (x:Option α) (p:FU):Tr α→(Tr α→Prop)→Prop:=
 FU.rec (motive:=fun _=>Tr α→(Tr α→Prop)→Prop)
  (fun t k=>Tr.casesOn (motive:=fun _=>Prop) t (k (.node .leaf x .leaf)) (fun l _ r=>k (.node l x r)))
  (fun _ ih t k=>Tr.casesOn (motive:=fun _=>Prop) t (ih .leaf fun l=>k (.node l none .leaf)) (fun l v r=>ih l fun l=>k (.node l v r)))
  (fun _ ih t k=>Tr.casesOn (motive:=fun _=>Prop) t (ih .leaf fun r=>k (.node .leaf none r)) (fun l v r=>ih r fun r=>k (.node l v r)))
  p
theorem V4 {α:Type} (x:Option α) (p:FU):∀(t:Tr α) (k:Tr α→Prop),ag x p t k=k (t.Ea x p):=by
 induction p with
 | e=>intro t k;cases t<;>rfl
 | z p ih=>intro t k;cases t<;>exact ih _ _
 | o p ih=>intro t k;cases t<;>exact ih _ _
noncomputable def YJ {α:Type} (t:Tr α) (n:Nat) (x:Option α) (k:Tr α→Prop):Prop:=ag x (FU.of n) t k
theorem OU {α:Type} (t:Tr α) (n:Nat) (x:Option α) (k:Tr α→Prop):YJ t n x k=k (t.put n x):=V4 _ _ _ _
noncomputable def Tf:Nat→List Value→Tr Value→(Tr Value→Prop)→Prop
 | _,[],t,k=>k t
 | i,v::r,t,k=>YJ t i (some v) fun t=>Tf (i+1) r t k
theorem Qm:∀(l:List Value) (i:Nat) (t:Tr Value) (k:Tr Value→Prop),Tf i l t k=k (CQ i l t)
 | [],_,_,_=>rfl
 | v::r,i,t,k=>by simp only[Tf,CQ,OU,Qm r]
noncomputable def IM (f:Ab) (v:Value):Option Ab:=
 match f with
 | ⟨fn,t,n,todo,ds,r,kd,rd⟩=>
  match todo with
  | .Ik ops (o::rest)::k=>
   match o.dst with
   | some d=>bif Nat.blt d n then some ⟨fn,t.put d (some v),n,.Ik ops rest::k,ds,r,kd,rd⟩else none
   | none=>some ⟨fn,t,n,.Ik ops rest::k,ds,r,kd,rd⟩
  | .DZ ops (.op _ o::rest)::k=>
   match o.dst with
   | some d=>bif Nat.blt d n then some ⟨fn,t.put d (some v),n,.DZ ops rest::k,ds,r,kd,rd⟩else none
   | none=>some ⟨fn,t,n,.DZ ops rest::k,ds,r,kd,rd⟩
  | .inRangeFunc l::k=>some ⟨fn,t,n,.endRangeFunc l::k,ds,r,kd,rd⟩
  | .beginRound::k=>some ⟨fn,t,n,k,ds,r,kd,rd⟩
  | _=>none
theorem Sn (f:Ab) (v:Value):Bt f v=IM f v:=by
 unfold Bt
 rw[Ia]
 rfl
noncomputable def V3 (f:Ab) (v:Value) (cs:List Ab) (H:AA) (K:A5→Prop):Prop:=
 match f with
 | ⟨fn,t,n,todo,ds,r,kd,rd⟩=>
  match todo with
  | .Ik ops (o::rest)::k=>
   match o.dst with
   | some d=>bif Nat.blt d n then YJ t d (some v) fun t=>K ⟨⟨fn,t,n,.Ik ops rest::k,ds,r,kd,rd⟩,cs,H⟩else False
   | none=>K ⟨⟨fn,t,n,.Ik ops rest::k,ds,r,kd,rd⟩,cs,H⟩
  | .DZ ops (.op _ o::rest)::k=>
   match o.dst with
   | some d=>bif Nat.blt d n then YJ t d (some v) fun t=>K ⟨⟨fn,t,n,.DZ ops rest::k,ds,r,kd,rd⟩,cs,H⟩else False
   | none=>K ⟨⟨fn,t,n,.DZ ops rest::k,ds,r,kd,rd⟩,cs,H⟩
  | _=>match IM ⟨fn,t,n,todo,ds,r,kd,rd⟩ v with
   | some f'=>K ⟨f',cs,H⟩
   | none=>False
noncomputable def NL (f:Ab) (v:Value) (cs:List Ab) (H:AA) (K:A5→Prop):Prop:=
 match v with
 | .bool b=>bif b then V3 f (.bool true) cs H K else V3 f (.bool false) cs H K
 | v=>V3 f v cs H K
noncomputable def VT.TA:VT→(Value→AA→Prop)→Prop
 | .fail,_=>False
 | .ret v H,K=>K v H
 | .test c a b,K=>bif c then a.TA K else b.TA K
theorem VT.Ff {K:Value→AA→Prop}:∀{t:VT},t.TA K→∃v H',t.run=some (v,H')∧K v H'
 | .fail,h=>by cases h
 | .ret v H,h=>⟨v,H,rfl,h⟩
 | .test c a b,h=>by
  cases c
  ·exact VT.Ff (t:=b) h
  ·exact VT.Ff (t:=a) h
noncomputable def dM (P:Program) (ρ:Operand→Value) (o:Oper) (H:AA) (K:Value→AA→Prop):Prop:=
 match RE P ρ o H with
 | some t=>t.TA K
 | none=>match K8 P ρ o H with
  | some (v,H')=>K v H'
  | none=>False
theorem VX {P:Program} {ρ:Operand→Value} {o:Oper} {H:AA} {K:Value→AA→Prop} (h:dM P ρ o H K):∃v H',JH P ρ o H=some (v,H')∧K v H':=by
 unfold dM at h
 unfold JH
 cases hv:RE P ρ o H with
 | some t=>simp only[hv]at h;exact VT.Ff h
 | none=>
  simp only[hv]at h
  split at h
  ·rename_i v H' e;exact⟨v,H',e,h⟩
  ·cases h
noncomputable def LS (X:Ctx) (f:FuncId) (args:List Value) (kind:CallKind) (fr:Ab) (cs:List Ab) (H:AA) (K:A5→Prop):Prop:=
 match B5 X f args kind H with
 | some (v,H')=>NL fr v cs H' K
 | none=>match entry X.P f with
  | some (n,c)=>bif Nat.ble args.length n then Tf 0 args .leaf fun t=>K ⟨⟨f,t,n,[.code c],[],false,kind,none⟩,fr::cs,H⟩else False
  | none=>match Fi X f args kind fr cs H with
   | some c'=>K c'
   | none=>False
abbrev GP:=List Value→AA→(Value→AA→Prop)→Prop
abbrev Pf:=FuncId→Option GP
def El (X:Ctx) (pf:Pf):Prop:=∀f F,pf f=some F→∀args H K,F args H K→∃v H',B5 X f args .normal H=some (v,H')∧K v H'
noncomputable def Re (X:Ctx) (pf:Pf) (f:FuncId) (args:List Value) (kind:CallKind) (fr:Ab) (cs:List Ab) (H:AA) (K:A5→Prop):Prop:=
 match pf f with
 | some F=>match kind with
  | .normal=>F args H fun v H'=>NL fr v cs H' K
  | kind=>LS X f args kind fr cs H K
 | none=>LS X f args kind fr cs H K
noncomputable def QZ (X:Ctx) (pf:Pf) (f:Value) (args:List Value) (fr:Ab) (cs:List Ab) (H:AA) (K:A5→Prop):Prop:=
 match f with
 | .func (.func g) first captured=>Re X pf g (first.toList++args++captured.toList) .normal fr cs H K
 | _=>match Jj X f args fr cs H with
  | some c'=>K c'
  | none=>False
noncomputable def S1 (X:Ctx) (pf:Pf) (o:Oper) (fr:Ab) (cs:List Ab) (H:AA) (K:A5→Prop):Prop:=
 match o.op with
 | .call c=>match c.callee with
  | .builtin b=>bif isRec b then(match dB fr cs H with
   | some c'=>K c'
   | none=>False)else dM X.P (Bf X fr.tmps) o H fun v H'=>NL fr v cs H' K
  | .value f=>QZ X pf (Bf X fr.tmps f) (c.args.toList.map (Bf X fr.tmps)) fr cs H K
  | _=>False
 | .defer _=>match Iq X o fr cs H with
  | some c'=>K c'
  | none=>False
 | _=>dM X.P (Bf X fr.tmps) o H fun v H'=>NL fr v cs H' K
noncomputable def Pc (ops:Array Oper) (o:Oper) (t:Tr Value) (Kt Kf:Prop):Prop:=
 match o.guard with
 | none=>Kt
 | some (j,want)=>match F5 ops j with
  | some d=>match look t d with
   | .bool b=>bif want then(bif b then Kt else Kf)else(bif b then Kf else Kt)
   | .tuple _=>Kf
   | _=>False
  | none=>Kf
noncomputable def cG (kind:CallKind) (v:Value) (cs:List Ab) (H:AA) (K:A5→Prop):Prop:=
 match cs with
 | []=>False
 | c::rest=>match kind with
  | .normal=>NL c v rest H K
  | .deferred=>bif c.ret then K ⟨c,rest,H⟩else False
  | _=>False
noncomputable def S8 (l:List PE):(List PE→Prop)→Prop:=
 List.rec (motive:=fun _=>(List PE→Prop)→Prop) (fun k=>k []) (fun e _ ih k=>match e with
  | .op i ⟨d,op,ty,pos,af,g⟩=>Nat.rec (motive:=fun _=>Prop) (ih fun r=>k (.op 0 ⟨d,op,ty,pos,af,g⟩::r)) (fun j _=>ih fun r=>k (.op (j+1) ⟨d,op,ty,pos,af,g⟩::r)) i
  | .NG i ⟨d,op,ty,pos,af,g⟩=>Nat.rec (motive:=fun _=>Prop) (ih fun r=>k (.NG 0 ⟨d,op,ty,pos,af,g⟩::r)) (fun j _=>ih fun r=>k (.NG (j+1) ⟨d,op,ty,pos,af,g⟩::r)) i) l
theorem F8:∀(l:List PE) (k:List PE→Prop),S8 l k=k l
 | [],_=>rfl
 | .op 0 o::r,k=>F8 r fun r=>k (.op 0 o::r)
 | .op (j+1) o::r,k=>F8 r fun r=>k (.op (j+1) o::r)
 | .NG 0 o::r,k=>F8 r fun r=>k (.NG 0 o::r)
 | .NG (j+1) o::r,k=>F8 r fun r=>k (.NG (j+1) o::r)
noncomputable def Fk (X:Ctx) (pf:Pf) (c:A5) (K:A5→Prop):Prop:=
 match c with
 | ⟨⟨fn,t,n,todo,ds,r,kd,rd⟩,cs,H⟩=>
  bif r then
   match ds with
   | []=>match Hm X fn t H with
    | some v=>cG kd v cs H K
    | none=>False
   | _::_=>match Jv X ⟨fn,t,n,todo,ds,r,kd,rd⟩ cs H with
    | some c'=>K c'
    | none=>False
  else
  match todo with
  | .Ik ops (o::_)::_=>Pc ops o t (S1 X pf o ⟨fn,t,n,todo,ds,r,kd,rd⟩ cs H K) (NL ⟨fn,t,n,todo,ds,r,kd,rd⟩ Go.undef cs H K)
  | .DZ ops (.op _ o::_)::_=>Pc ops o t (S1 X pf o ⟨fn,t,n,todo,ds,r,kd,rd⟩ cs H K) (NL ⟨fn,t,n,todo,ds,r,kd,rd⟩ Go.undef cs H K)
  | .DZ ops (.NG _ o::rest)::k=>Pc ops o t
   (match o.dst with
    | some d=>dM X.P (Bf X t) o H fun v _=>v=look t d∧K ⟨⟨fn,t,n,.DZ ops rest::k,ds,r,kd,rd⟩,cs,H⟩
    | none=>False)
   (K ⟨⟨fn,t,n,.DZ ops rest::k,ds,r,kd,rd⟩,cs,H⟩)
  | .code (.cond c a b)::k=>match Bf X t c with
   | .bool x=>bif x then K ⟨⟨fn,t,n,.code a::k,ds,r,kd,rd⟩,cs,H⟩else K ⟨⟨fn,t,n,.code b::k,ds,r,kd,rd⟩,cs,H⟩
   | _=>False
  | .code (.region _ ops true)::k=>match X.Bj ops with
   | some p=>S8 p fun p=>K ⟨⟨fn,t,n,.DZ ops p::k,ds,r,kd,rd⟩,cs,H⟩
   | none=>False
  | .code (.rangeFunc f params assign body)::k=>
   match rd with
   | some l=>match H.get l with
    | some (.loop q)=>
     QZ X pf (Bf X t f) [.func (.yield H.next) ⟨[]⟩ ⟨[]⟩] ⟨fn,t,n,.inRangeFunc H.next::k,ds,r,kd,rd⟩ cs
      (H.alloc (.loop ⟨.ready,none,fn,t,n,params,assign,body,q.defers⟩)) K
    | _=>False
   | none=>
    QZ X pf (Bf X t f) [.func (.yield (H.next+1)) ⟨[]⟩ ⟨[]⟩] ⟨fn,t,n,.inRangeFunc (H.next+1)::k,{ target:= .collected H.next,args:=⟨[]⟩ }::ds,r,kd,rd⟩ cs
     ((H.alloc (.deferred (some []))).alloc (.loop ⟨.ready,none,fn,t,n,params,assign,body,H.next⟩)) K
  | _=>match Dm X ⟨⟨fn,t,n,todo,ds,r,kd,rd⟩,cs,H⟩with
   | some c'=>K c'
   | none=>False
section
variable {X:Ctx}
theorem OV {f:Ab} {v:Value} {cs:List Ab} {H:AA} {K:A5→Prop} (h:V3 f v cs H K):∃f',Bt f v=some f'∧K ⟨f',cs,H⟩:=by
 rw[Sn]
 obtain⟨fn,t,n,todo,ds,r,kd,rd⟩:=f
 unfold V3 at h
 simp only at h
 split at h
 ·rename_i ops o rest k
  split at h
  ·rename_i d e
   cases hb:Nat.blt d n
   ·simp[hb]at h
   ·simp only[hb,cond_true,OU]at h
    exact⟨_,by simp only[IM,e,hb,cond_true],h⟩
  ·rename_i e;exact⟨_,by simp only[IM,e],h⟩
 ·rename_i ops i o rest k
  split at h
  ·rename_i d e
   cases hb:Nat.blt d n
   ·simp[hb]at h
   ·simp only[hb,cond_true,OU]at h
    exact⟨_,by simp only[IM,e,hb,cond_true],h⟩
  ·rename_i e;exact⟨_,by simp only[IM,e],h⟩
 ·split at h
  ·rename_i f' e;exact⟨f',e,h⟩
  ·cases h
theorem IZ {f:Ab} {v:Value} {cs:List Ab} {H:AA} {K:A5→Prop} (h:NL f v cs H K):∃f',Bt f v=some f'∧K ⟨f',cs,H⟩:=by
 unfold NL at h
 split at h
 ·rename_i b
  cases b
  ·exact OV h
  ·exact OV h
 ·exact OV h
theorem Mi {f:FuncId} {args:List Value} {kind:CallKind} {fr:Ab} {cs:List Ab} {H:AA} {K:A5→Prop} (h:LS X f args kind fr cs H K):∃c',Fi X f args kind fr cs H=some c'∧K c':=by
 unfold LS at h
 cases hi:B5 X f args kind H with
 | some p=>
  obtain⟨v,H'⟩:=p
  simp only[hi]at h
  obtain⟨f',e1,e2⟩:=IZ h
  exact⟨_,by unfold Fi;simp only[hi,e1],e2⟩
 | none=>
  simp only[hi]at h
  cases he:entry X.P f with
  | some p=>
   obtain⟨n,c⟩:=p
   simp only[he]at h
   cases hb:Nat.ble args.length n
   ·simp[hb]at h
   ·simp only[hb,cond_true,Qm]at h
    exact⟨_,by unfold Fi;simp only[hi,he,hb,cond_true],h⟩
  | none=>
   simp only[he]at h
   split at h
   ·rename_i c' e;exact⟨c',e,h⟩
   ·cases h
theorem U4 {pf:Pf} (hpf:El X pf) {f:FuncId} {args:List Value} {kind:CallKind} {fr:Ab} {cs:List Ab} {H:AA} {K:A5→Prop} (h:Re X pf f args kind fr cs H K):∃c',Fi X f args kind fr cs H=some c'∧K c':=by
 unfold Re at h
 split at h
 ·rename_i F hF
  split at h
  ·obtain⟨v,H',e1,e2⟩:=hpf f F hF _ _ _ h
   obtain⟨f',e3,e4⟩:=IZ e2
   exact⟨_,by unfold Fi;simp only[e1,e3],e4⟩
  ·exact Mi h
 ·exact Mi h
theorem Mb {pf:Pf} (hpf:El X pf) {f:Value} {args:List Value} {fr:Ab} {cs:List Ab} {H:AA} {K:A5→Prop} (h:QZ X pf f args fr cs H K):∃c',Jj X f args fr cs H=some c'∧K c':=by
 unfold QZ at h
 split at h
 ·obtain⟨c',e1,e2⟩:=U4 hpf h
  exact⟨c',by unfold Jj;exact e1,e2⟩
 ·split at h
  ·rename_i c' e;exact⟨c',e,h⟩
  ·cases h
theorem QR {pf:Pf} (hpf:El X pf) {o:Oper} {fr:Ab} {cs:List Ab} {H:AA} {K:A5→Prop} (h:S1 X pf o fr cs H K):∃c',Iq X o fr cs H=some c'∧K c':=by
 have key:dM X.P (Bf X fr.tmps) o H (fun v H'=>NL fr v cs H' K)→∃v H' f',JH X.P (Bf X fr.tmps) o H=some (v,H')∧Bt fr v=some f'∧K ⟨f',cs,H'⟩:=by
  intro h
  obtain⟨v,H',e1,e2⟩:=VX h
  obtain⟨f',e3,e4⟩:=IZ e2
  exact⟨v,H',f',e1,e3,e4⟩
 unfold S1 at h
 unfold Iq
 cases ho:o.op
 case call c=>
  simp only[ho]at h ⊢
  cases hc:c.callee with
  | builtin b=>
   simp only[hc]at h ⊢
   cases hb:isRec b
   ·simp only[hb,cond_false]at h ⊢
    obtain⟨v,H',f',e1,e2,e3⟩:=key h
    exact⟨_,by simp only[e1,e2],e3⟩
   ·simp only[hb,cond_true]at h ⊢
    split at h
    ·rename_i c' e;exact⟨c',e,h⟩
    ·cases h
  | value f=>simp only[hc]at h ⊢;exact Mb hpf h
  | invoke r m=>simp only[hc]at h
 case defer c=>
  simp only[ho]at h
  split at h
  ·rename_i c' e
   refine⟨c',?_,h⟩
   unfold Iq at e
   simp only[ho]at e ⊢
   exact e
  ·cases h
 all_goals
  simp only[ho]at h ⊢
  obtain⟨v,H',f',e1,e2,e3⟩:=key h
  exact⟨_,by simp only[e1,e2],e3⟩
theorem ND {ops:Array Oper} {o:Oper} {t:Tr Value} {Kt Kf:Prop} (h:Pc ops o t Kt Kf):(CX ops o t=some true∧Kt)∨(CX ops o t=some false∧Kf):=by
 unfold Pc at h
 unfold CX
 split at h
 ·rename_i e;exact .inl ⟨by simp only[e],h⟩
 ·rename_i j want e
  split at h
  ·rename_i d e1
   split at h
   ·rename_i b e2
    cases want<;>cases b<;>simp only[cond_true,cond_false]at h<;>simp[e,e1,e2,h]
   ·rename_i e2;exact .inr ⟨by simp only[e,e1,e2],h⟩
   ·cases h
  ·rename_i e1;exact .inr ⟨by simp only[e,e1],h⟩
theorem YK {kind:CallKind} {v:Value} {cs:List Ab} {H:AA} {K:A5→Prop} (h:cG kind v cs H K):∃c',GG kind v cs H=some c'∧K c':=by
 unfold cG at h
 unfold GG
 split at h
 ·cases h
 ·cases kind<;>simp only at h ⊢
  ·obtain⟨f',e1,e2⟩:=IZ h
   exact⟨_,by simp only[e1],e2⟩
  ·rename_i c rest
   cases hr:c.ret
   ·simp[hr]at h
   ·simp only[hr,cond_true]at h ⊢;exact⟨_,rfl,h⟩
  all_goals cases h
theorem UE {pf:Pf} (hpf:El X pf) {c:A5} {K:A5→Prop} (h:Fk X pf c K):∃c',NI X c c'∧K c':=by
 obtain⟨⟨fn,t,n,todo,ds,r,kd,rd⟩,cs,H⟩:=c
 have fall:(match Dm X ⟨⟨fn,t,n,todo,ds,r,kd,rd⟩,cs,H⟩with | some c'=>K c' | none=>False)→∃c',NI X ⟨⟨fn,t,n,todo,ds,r,kd,rd⟩,cs,H⟩ c'∧K c':=by
  intro h
  split at h
  ·rename_i c' e;exact⟨c',.step e,h⟩
  ·cases h
 unfold Fk at h
 simp only at h
 cases r with
 | true=>
  simp only[cond_true]at h
  split at h
  ·split at h
   ·rename_i v e
    obtain⟨c',e1,e2⟩:=YK h
    refine⟨c',.step ?_,e2⟩
    unfold Dm Jv
    simp only[cond_true,e,e1]
   ·cases h
  ·split at h
   ·rename_i c' e
    refine⟨c',.step ?_,h⟩
    unfold Dm
    simp only[cond_true];exact e
   ·cases h
 | false=>
  simp only[cond_false]at h
  split at h
  ·rename_i ops o l k
   rcases ND h with⟨hw,h⟩ | ⟨hw,h⟩
   ·obtain⟨c',e1,e2⟩:=QR hpf h
    refine⟨c',.step ?_,e2⟩
    unfold Dm
    simp only[cond_false,hw];exact e1
   ·obtain⟨f',e1,e2⟩:=IZ h
    refine⟨_,.step ?_,e2⟩
    unfold Dm
    simp only[cond_false,hw,e1]
  ·rename_i ops i o l k
   rcases ND h with⟨hw,h⟩ | ⟨hw,h⟩
   ·obtain⟨c',e1,e2⟩:=QR hpf h
    refine⟨c',.step ?_,e2⟩
    unfold Dm
    simp only[cond_false,hw];exact e1
   ·obtain⟨f',e1,e2⟩:=IZ h
    refine⟨_,.step ?_,e2⟩
    unfold Dm
    simp only[cond_false,hw,e1]
  ·rename_i ops j o rest k
   rcases ND h with⟨hw,h⟩ | ⟨hw,h⟩
   ·split at h
    ·rename_i d hd
     obtain⟨v,H',e1,e2,e3⟩:=VX h
     exact⟨_,.NG fun _=>⟨d,H',hd,by rw[e1,e2]⟩,e3⟩
    ·cases h
   ·exact⟨_,.NG fun hw2=>(by rw[hw]at hw2;cases hw2),h⟩
  ·rename_i cnd a b k
   split at h
   ·rename_i x e
    cases x
    ·refine⟨_,.step ?_,h⟩
     unfold Dm
     simp only[cond_false,e]
    ·refine⟨_,.step ?_,h⟩
     unfold Dm
     simp only[cond_false,cond_true,e]
   ·cases h
  ·rename_i ops k
   split at h
   ·rename_i p e
    rw[F8]at h
    refine⟨_,.step ?_,h⟩
    unfold Dm
    simp only[cond_false,e]
   ·cases h
  ·rename_i f params assign body k
   split at h
   ·rename_i l
    split at h
    ·rename_i q e
     obtain⟨c',e1,e2⟩:=Mb hpf h
     refine⟨c',.step ?_,e2⟩
     unfold Dm
     simp only[cond_false,e];exact e1
    ·cases h
   ·obtain⟨c',e1,e2⟩:=Mb hpf h
    refine⟨c',.step ?_,e2⟩
    unfold Dm
    simp only[cond_false];exact e1
  ·exact fall h
def Ac:Nat→Value→List Nat
 | 0,_=>[]
 | n+1,v=>match v with
  | .pointer (some a)=>[a.block]
  | .slice (some a) _ _=>[a.block]
  | .map (some b)=>[b]
  | .agg cs=>cs.toList.flatMap (Ac n)
  | .tuple cs=>cs.toList.flatMap (Ac n)
  | .iface _ v=>Ac n v
  | .func _ a b=>a.toList.flatMap (Ac n)++b.toList.flatMap (Ac n)
  | _=>[]
noncomputable def FD (X:Ctx) (pf:Pf) (f:FuncId) (ids:List Nat) (Q:Value→List (Option AJ)→Prop) (n:Nat):A5→Prop:=
 Nat.rec (motive:=fun _=>A5→Prop) (fun _=>False) (fun _ ih c=>match DR X f c with
  | some (v,H)=>Q v ((ids++Ac 4 v).map H.get)
  | none=>Fk X pf c ih) n
noncomputable def Cp:Pf:=fun _=>none
theorem Ax (X:Ctx):El X Cp:=fun _ _ h=>by cases h
noncomputable abbrev VC (X:Ctx) (f:FuncId) (ids:List Nat) (Q:Value→List (Option AJ)→Prop) (n:Nat):A5→Prop:=FD X Cp f ids Q n
theorem Ga {pf:Pf} (hpf:El X pf) {c:A5} {K:A5→Prop} (h:Fk X pf c K):Reach X c K:=let ⟨_,h1,h2⟩:=UE hpf h;h1.reach h2
def Bc (X:Ctx) (f:FuncId) (Q:Value→AA→Prop) (c:A5):Prop:=Reach X c fun c'=>∃v H,DR X f c'=some (v,H)∧Q v H
theorem B4 {pf:Pf} (hpf:El X pf) {f:FuncId} {ids:List Nat} {Q:Value→List (Option AJ)→Prop}:∀(n:Nat) (c:A5),FD X pf f ids Q n c→Bc X f (fun v H=>Q v ((ids++Ac 4 v).map H.get)) c:=by
 intro n
 induction n with
 | zero=>intro c h;cases h
 | succ n ih=>
  intro c h
  have h:(match DR X f c with
   | some (v,H)=>Q v ((ids++Ac 4 v).map H.get)
   | none=>Fk X pf c (FD X pf f ids Q n)):=h
  split at h
  ·rename_i v H e;exact .here ⟨v,H,e,h⟩
  ·exact(Ga hpf h).bind fun c' hc=>ih c' hc
theorem M3 {f:FuncId} {ids:List Nat} {Q:Value→List (Option AJ)→Prop} (n:Nat) (c:A5) (h:VC X f ids Q n c):Bc X f (fun v H=>Q v ((ids++Ac 4 v).map H.get)) c:=B4 (Ax X) n c h
end
end Go.AD

namespace Go.AD
abbrev Ren:=Nat→Option Nat
def C7 (f:Value→Option Value):List Value→Option (List Value)
 | []=>some []
 | v::l=>match f v,C7 f l with
  | some w,some m=>some (w::m)
  | _,_=>none
def O2 (ρ:Ren):Addr→Option Addr
 | ⟨b,o,s⟩=>match ρ b with
  | some i=>some ⟨i,o,s⟩
  | none=>none
def Bm (ρ:Ren):Nat→Value→Option Value
 | 0,_=>none
 | n+1,v=>match v with
  | .bool b=>some (.bool b)
  | .int k m=>some (.int k m)
  | .float k m=>some (.float k m)
  | .string s=>some (.string s)
  | .pointer none=>some (.pointer none)
  | .pointer (some a)=>(O2 ρ a).map fun a=> .pointer (some a)
  | .slice none l c=>some (.slice none l c)
  | .slice (some a) l c=>(O2 ρ a).map fun a=> .slice (some a) l c
  | .map none=>some (.map none)
  | .map (some b)=>(ρ b).map fun b=> .map (some b)
  | .nilFunc=>some .nilFunc
  | .nilIface=>some .nilIface
  | .iface t v=>(Bm ρ n v).map fun v=> .iface t v
  | .agg cs=>(C7 (Bm ρ n) cs.toList).map fun l=> .agg ⟨l⟩
  | .tuple cs=>(C7 (Bm ρ n) cs.toList).map fun l=> .tuple ⟨l⟩
  | .func (.func f) xs ys=>match C7 (Bm ρ n) xs.toList,C7 (Bm ρ n) ys.toList with
   | some a,some b=>some (.func (.func f) ⟨a⟩ ⟨b⟩)
   | _,_=>none
  | .chan (some 0)=>some (.chan (some 0))
  | _=>none
abbrev E9 (ρ:Ren) (v:Value):Option Value:=Bm ρ 6 v
section
variable {ρ:Ren} {μ ν:Ad}
theorem Fh {f:Value→Option Value} (hf:∀v v1 v',f v=some v1→AH μ v v'→AH ν v1 v'):∀(l l1 l':List Value),C7 f l=some l1→A2 μ l l'→A2 ν l1 l'
 | [],_,_,h,hl=>by cases h;cases hl;exact .nil
 | v::l,l1,_,h,hl=>by
  cases hl with
  | cons h1 h2=>
   simp only[C7]at h
   split at h
   ·rename_i w m e1 e2
    cases h
    exact .cons (hf _ _ _ e1 h1) (Fh hf l m _ e2 h2)
   ·cases h
theorem E1 {f:Value→Option Value} (hf:∀v v1 v',f v=some v1→AH ν v1 v'→AH μ v v'):∀(l l1 l':List Value),C7 f l=some l1→A2 ν l1 l'→A2 μ l l'
 | [],_,_,h,hl=>by cases h;cases hl;exact .nil
 | v::l,l1,l',h,hl=>by
  simp only[C7]at h
  split at h
  ·rename_i w m e1 e2
   cases h
   cases hl with
   | cons h1 h2=>exact .cons (hf _ _ _ e1 h1) (E1 hf l m _ e2 h2)
  ·cases h
theorem Dg {a a1:Addr} (h:O2 ρ a=some a1):∃b o s i,a=⟨b,o,s⟩∧ρ b=some i∧a1=⟨i,o,s⟩:=by
 obtain⟨b,o,s⟩:=a
 unfold O2 at h
 simp only at h
 split at h
 ·rename_i i e;cases h;exact⟨b,o,s,i,rfl,e,rfl⟩
 ·cases h
theorem PG (hρ:∀b i T,ρ b=some i→μ b=some T→ν i=some T):∀(n:Nat) (v v1 v':Value),Bm ρ n v=some v1→AH μ v v'→AH ν v1 v':=by
 intro n
 induction n with
 | zero=>intro v v1 v' h;cases h
 | succ n ih=>
  intro v v1 v' h hr
  cases hr with
  | Be=>simp only[Bm,Be,Option.some.injEq]at h;subst h;exact .Be _
  | bool b=>cases h;exact .bool b
  | int k m=>cases h;exact .int k m
  | float k m=>cases h;exact .float k m
  | string s=>cases h;exact .string s
  | Fj=>cases h;exact .Fj
  | B3 l c=>cases h;exact .B3 l c
  | Fm=>cases h;exact .Fm
  | nilFunc=>cases h;exact .nilFunc
  | nilIface=>cases h;exact .nilIface
  | ptr b o T hm=>
   simp only[Bm,Option.map_eq_some_iff]at h
   obtain⟨a,ha,rfl⟩:=h
   obtain⟨b1,o1,s1,i,e1,e2,rfl⟩:=Dg ha
   cases e1
   exact .ptr i o T (hρ _ _ _ e2 hm)
  | GX b o j T hm=>
   simp only[Bm,Option.map_eq_some_iff]at h
   obtain⟨a,ha,rfl⟩:=h
   obtain⟨b1,o1,s1,i,e1,e2,rfl⟩:=Dg ha
   cases e1
   exact .GX i o j T (hρ _ _ _ e2 hm)
  | slice b o l c c' o' T hm hc ho=>
   simp only[Bm,Option.map_eq_some_iff]at h
   obtain⟨a,ha,rfl⟩:=h
   obtain⟨b1,o1,s1,i,e1,e2,rfl⟩:=Dg ha
   cases e1
   exact .slice i o l c c' o' T (hρ _ _ _ e2 hm) hc ho
  | Bk b j l c c' o' T hm hc ho hr=>
   simp only[Bm,Option.map_eq_some_iff]at h
   obtain⟨a,ha,rfl⟩:=h
   obtain⟨b1,o1,s1,i,e1,e2,rfl⟩:=Dg ha
   cases e1
   exact .Bk i j l c c' o' T (hρ _ _ _ e2 hm) hc ho hr
  | Cr b j c T z hm hc=>
   simp only[Bm,Option.map_eq_some_iff]at h
   obtain⟨a,ha,rfl⟩:=h
   obtain⟨b1,o1,s1,i,e1,e2,rfl⟩:=Dg ha
   cases e1
   exact .Cr i j c T z (hρ _ _ _ e2 hm) hc
  | CU b j l c c' o' T M hm hm2 hc ho hr=>
   simp only[Bm,Option.map_eq_some_iff]at h
   obtain⟨a,ha,rfl⟩:=h
   obtain⟨b1,o1,s1,i,e1,e2,rfl⟩:=Dg ha
   cases e1
   exact .CU i j l c c' o' T M (hρ _ _ _ e2 hm) hm2 hc ho hr
  | ED b j c T z hm hc=>
   simp only[Bm,Option.map_eq_some_iff]at h
   obtain⟨a,ha,rfl⟩:=h
   obtain⟨b1,o1,s1,i,e1,e2,rfl⟩:=Dg ha
   cases e1
   exact .ED i j c T z (hρ _ _ _ e2 hm) hc
  | map b T hm=>
   simp only[Bm,Option.map_eq_some_iff]at h
   obtain⟨i,hi,rfl⟩:=h
   exact .map i T (hρ _ _ _ hi hm)
  | iface t a a' ha=>
   simp only[Bm,Option.map_eq_some_iff]at h
   obtain⟨w,hw,rfl⟩:=h
   exact .iface t w a' (ih _ _ _ hw ha)
  | agg xs xs' hx ex=>
   obtain⟨ys,he,hl⟩:=AH.Ca.1 (.agg xs xs' hx ex)
   cases he
   simp only[Bm,Option.map_eq_some_iff]at h
   obtain⟨l,hl1,rfl⟩:=h
   exact AH.Ca.2 ⟨_,rfl,Fh ih _ _ _ hl1 hl⟩
  | tuple xs xs' hx ex=>
   obtain⟨ys,he,hl⟩:=AH.CC.1 (.tuple xs xs' hx ex)
   cases he
   simp only[Bm,Option.map_eq_some_iff]at h
   obtain⟨l,hl1,rfl⟩:=h
   exact AH.CC.2 ⟨_,rfl,Fh ih _ _ _ hl1 hl⟩
  | func fn fn' xs xs' ys ys' hf hx ex hy ey=>
   obtain⟨fn2,xs2,ys2,he,hf2,D5,hy2⟩:=AH.CL.1 (.func fn fn' xs xs' ys ys' hf hx ex hy ey)
   cases he
   cases hf2 with
   | func f=>
    simp only[Bm]at h
    split at h
    ·rename_i a b e1 e2
     cases h
     exact AH.CL.2 ⟨_,_,_,rfl,.func f,Fh ih _ _ _ e1 D5,Fh ih _ _ _ e2 hy2⟩
    ·cases h
   | _=>simp[Bm]at h
theorem PC (hρ:∀b i T,ρ b=some i→ν i=some T→μ b=some T):∀(n:Nat) (v v1 v':Value),Bm ρ n v=some v1→AH ν v1 v'→AH μ v v':=by
 intro n
 induction n with
 | zero=>intro v v1 v' h;cases h
 | succ n ih=>
  intro v v1 v' h hr
  unfold Bm at h
  split at h
  ·cases h;cases hr;exact .bool _
  ·cases h;cases hr;exact .int _ _
  ·cases h;cases hr;exact .float _ _
  ·cases h;cases hr;exact .string _
  ·cases h;cases hr;exact .Fj
  ·simp only[Option.map_eq_some_iff]at h
   obtain⟨a,ha,rfl⟩:=h
   obtain⟨b1,o1,s1,i,rfl,e2,rfl⟩:=Dg ha
   cases hr with
   | ptr _ _ T hm=>exact .ptr b1 _ T (hρ _ _ _ e2 hm)
   | GX _ _ j T hm=>exact .GX b1 _ j T (hρ _ _ _ e2 hm)
  ·cases h;cases hr;exact .B3 _ _
  ·simp only[Option.map_eq_some_iff]at h
   obtain⟨a,ha,rfl⟩:=h
   obtain⟨b1,o1,s1,i,rfl,e2,rfl⟩:=Dg ha
   cases hr with
   | slice _ _ _ _ c' o' T hm hc ho=>exact .slice b1 _ _ _ c' o' T (hρ _ _ _ e2 hm) hc ho
   | Bk _ j _ _ c' o' T hm hc ho hr=>exact .Bk b1 j _ _ c' o' T (hρ _ _ _ e2 hm) hc ho hr
   | Cr _ j _ T z hm hc=>exact .Cr b1 j _ T z (hρ _ _ _ e2 hm) hc
   | CU _ j _ _ c' o' T M hm hm2 hc ho hr=>exact .CU b1 j _ _ c' o' T M (hρ _ _ _ e2 hm) hm2 hc ho hr
   | ED _ j _ T z hm hc=>exact .ED b1 j _ T z (hρ _ _ _ e2 hm) hc
  ·cases h;cases hr;exact .Fm
  ·simp only[Option.map_eq_some_iff]at h
   obtain⟨i,hi,rfl⟩:=h
   cases hr with
   | map _ T hm=>exact .map _ T (hρ _ _ _ hi hm)
  ·cases h;cases hr;exact .nilFunc
  ·cases h;cases hr;exact .nilIface
  ·simp only[Option.map_eq_some_iff]at h
   obtain⟨w,hw,rfl⟩:=h
   cases hr with
   | iface _ _ a' ha=>exact .iface _ _ a' (ih _ _ _ hw ha)
  ·simp only[Option.map_eq_some_iff]at h
   obtain⟨l,hl,rfl⟩:=h
   obtain⟨ys,rfl,hl2⟩:=AH.Ca.1 hr
   exact AH.Ca.2 ⟨_,rfl,E1 ih _ _ _ hl hl2⟩
  ·simp only[Option.map_eq_some_iff]at h
   obtain⟨l,hl,rfl⟩:=h
   obtain⟨ys,rfl,hl2⟩:=AH.CC.1 hr
   exact AH.CC.2 ⟨_,rfl,E1 ih _ _ _ hl hl2⟩
  ·split at h
   ·rename_i a b e1 e2
    cases h
    obtain⟨fn2,xs2,ys2,rfl,hf2,D5,hy2⟩:=AH.CL.1 hr
    cases hf2
    exact AH.CL.2 ⟨_,_,_,rfl,.func _,E1 ih _ _ _ e1 D5,E1 ih _ _ _ e2 hy2⟩
   ·cases h
  ·exact .Be _
  ·cases h
def HY:SK→Bool
 | .tok=>false
 | _=>true
theorem Gk (l:List (EK.C [.tok])):A3 [.tok] l=l:=by
 induction l with
 | nil=>rfl
 | cons x l ih=>rw[Cl,ih];rfl
def BN (ρ:Ren):AJ→Option AJ
 | .cells cs e ro=>(C7 (E9 ρ) cs).map fun l=> .cells l e ro
 | .vec [.tok] l ro=>(C7 (E9 ρ) l).map fun l=> .vec [.tok] l ro
 | .vec k l ro=>bif k.all HY then some (.vec k l ro)else none
 | .abs a ro=>bif a.Fv then some (.abs a ro)else none
 | _=>none
theorem HI {ρ:Ren}:∀(k:EK) (_:k.all HY=true) (l:List (EK.C k)) (ro:Bool),BN ρ (.vec k l ro)=some (.vec k l ro)
 | [],_,_,_=>rfl
 | [.tok],hk,_,_=>by cases hk
 | [.int _],_,_,_=>rfl
 | [.bool],_,_,_=>rfl
 | [.str],_,_,_=>rfl
 | s::t::r,hk,l,ro=>by
  cases s with
  | tok=>cases hk
  | _=>show(bif List.all _ HY then some (AJ.vec _ l ro)else none)=_;rw[hk];rfl
theorem M9 {ρ:Ren} {k:EK} {l:List (EK.C k)} {ro:Bool} {o1:AJ} (h:BN ρ (.vec k l ro)=some o1):
 (∃l' l1:List (EK.C [.tok]),(⟨k,l⟩:(k:EK) × List (EK.C k))=⟨[.tok],l'⟩∧C7 (E9 ρ) l'=some l1∧o1= .vec [.tok] l1 ro)∨(k.all HY=true∧o1= .vec k l ro):=by
 unfold BN at h
 split at h
 ·rename_i heq;cases heq
 ·rename_i l2 ro2 he
  cases he
  simp only[Option.map_eq_some_iff]at h
  obtain⟨l1,hl,rfl⟩:=h
  exact .inl ⟨l2,l1,rfl,hl,rfl⟩
 ·rename_i k2 l2 ro2 hne he
  injection he with e1 e2 e3
  subst e1
  cases e2
  subst e3
  cases hk:k.all HY
  ·simp[hk]at h
  ·simp only[hk,cond_true,Option.some.injEq]at h
   exact .inr ⟨rfl,h.symm⟩
 ·rename_i heq;cases heq
 ·cases h
theorem Mc {ρ:Ren} {l l1:List (EK.C [.tok])} {ro:Bool} (h:C7 (E9 ρ) l=some l1):BN ρ (.vec [.tok] l ro)=some (.vec [.tok] l1 ro):=by
 show(C7 (E9 ρ) l).map _=_
 rw[h];rfl
theorem EA {f:Value→Option Value}:∀(l l1:List Value),C7 f l=some l1→l1.length=l.length
 | [],_,h=>by cases h;rfl
 | v::l,l1,h=>by
  simp only[C7]at h
  split at h
  ·rename_i w m e1 e2;cases h;simp[EA l m e2]
  ·cases h
theorem SK.Ex (s:SK) (hs:HY s=true) (x:s.C):flat (s.enc x)=true:=by
 cases s<;>first | rfl | cases hs
theorem EK.Ex:∀(k:EK),k.all HY=true→∀(x:EK.C k),∀v∈EK.enc k x,flat v=true
 | [],_,_,v,h=>by cases h
 | [s],hk,x,v,h=>by
  simp only[EK.enc,List.mem_singleton]at h
  subst h
  exact SK.Ex s (by simpa using hk) x
 | s::t::r,hk,x,v,h=>by
  simp only[EK.enc,List.mem_cons]at h
  simp only[List.all_cons,Bool.and_eq_true]at hk
  rcases h with rfl | h
  ·exact SK.Ex s hk.1 _
  ·exact EK.Ex (t::r) (by simpa using hk.2) x.2 v (by simpa using h)
theorem KC:∀(l:List Value),(∀v∈l,flat v=true)→∀l',A2 μ l l'→A2 ν l l'
 | [],_,_,h=>by cases h;exact .nil
 | v::l,hf,_,h=>by
  cases h with
  | cons h1 h2=>
   have:=Eu (hf v (by simp)) h1
   subst this
   exact .cons (Ce (hf _ (by simp))) (KC l (fun w hw=>hf w (by simp[hw])) _ h2)
theorem OE {k:EK} (hk:k.all HY=true) (l:List (EK.C k)):∀v∈A3 k l,flat v=true:=by
 intro v hv
 simp only[A3,List.mem_flatMap]at hv
 obtain⟨x,_,hx⟩:=hv
 exact EK.Ex k hk x v hx
theorem Ps (hρ:∀b i T,ρ b=some i→μ b=some T→ν i=some T) {o o1:AJ} {T:Bv} {o':Obj} (h:BN ρ o=some o1) (hr:Cb μ T o o'):Cb ν T o1 o':=by
 unfold BN at h
 split at h
 ·simp only[Option.map_eq_some_iff]at h
  obtain⟨l,hl,rfl⟩:=h
  cases hr with
  | cells _ _ _ c t lo hi he hc hr hf=>
   have:=EA _ _ hl
   exact .cells T l _ _ c t lo hi he (by rw[this];exact Fh (PG hρ 6) _ _ _ hl hc) hr hf
 ·rename_i l ro
  simp only[Option.map_eq_some_iff]at h
  obtain⟨l1,hl,rfl⟩:=h
  have hl:C7 (E9 ρ) l=some l1:=hl
  cases hr with
  | vec _ _ _ _ hc=>
   refine .vec T [.tok] l1 ro _ ?_
   rw[Gk]at hc ⊢
   cases hc with
   | cells _ _ _ c t lo hi he hc hr hf=>
    have:=EA _ _ hl
    exact .cells T l1 _ _ c t lo hi he (by rw[this];exact Fh (PG hρ 6) _ _ _ hl hc) hr hf
  | EG _ _ _ he hr hk=>cases hl;exact .EG T _ _ _ he hr hk
 ·rename_i k l ro _
  cases hk:k.all HY
  ·simp[hk]at h
  ·simp only[hk,cond_true,Option.some.injEq]at h
   subst h
   cases hr with
   | vec _ _ _ _ hc=>cases hc with
    | cells _ _ _ c t lo hi he hc hr hf=>exact .vec T _ _ _ _ (.cells T _ _ _ c t lo hi he (KC _ (OE hk l) _ hc) hr hf)
   | EG _ _ _ he hr hk=>exact .EG T _ _ _ he hr hk
 ·rename_i a ro
  cases hx:a.Fv
  ·simp[hx]at h
  ·simp only[hx,cond_true,Option.some.injEq]at h
   subst h;cases hr;exact .abs T _ _ _
 ·cases h
theorem M1 (hρ:∀b i T,ρ b=some i→ν i=some T→μ b=some T) {o o1:AJ} {T:Bv} {o':Obj} (h:BN ρ o=some o1) (hr:Cb ν T o1 o'):Cb μ T o o':=by
 unfold BN at h
 split at h
 ·simp only[Option.map_eq_some_iff]at h
  obtain⟨l,hl,rfl⟩:=h
  cases hr with
  | cells _ _ _ c t lo hi he hc hr hf=>
   have:=EA _ _ hl
   exact .cells T _ _ _ c t lo hi he (by rw[←this];exact E1 (PC hρ 6) _ _ _ hl hc) hr hf
 ·rename_i l ro
  simp only[Option.map_eq_some_iff]at h
  obtain⟨l1,hl,rfl⟩:=h
  have hl:C7 (E9 ρ) l=some l1:=hl
  have hlen:=EA _ _ hl
  cases hr with
  | vec _ _ _ _ hc=>
   refine .vec T [.tok] l ro _ ?_
   rw[Gk]at hc ⊢
   cases hc with
   | cells _ _ _ c t lo hi he hc hr hf=>
    exact .cells T _ _ _ c t lo hi he (by rw[←hlen];exact E1 (PC hρ 6) _ _ _ hl hc) hr hf
  | EG _ _ _ he hr hk=>
   have:l=[]:=List.eq_nil_of_length_eq_zero (by rw[←hlen];rfl)
   subst this
   exact .EG T _ _ _ he hr hk
 ·rename_i k l ro _
  cases hk:k.all HY
  ·simp[hk]at h
  ·simp only[hk,cond_true,Option.some.injEq]at h
   subst h
   cases hr with
   | vec _ _ _ _ hc=>cases hc with
    | cells _ _ _ c t lo hi he hc hr hf=>exact .vec T _ _ _ _ (.cells T _ _ _ c t lo hi he (KC _ (OE hk l) _ hc) hr hf)
   | EG _ _ _ he hr hk=>exact .EG T _ _ _ he hr hk
 ·rename_i a ro
  cases hx:a.Fv
  ·simp[hx]at h
  ·simp only[hx,cond_true,Option.some.injEq]at h
   subst h;cases hr;exact .abs T _ _ _
 ·cases h
theorem C4 {o o1:AJ} (h:BN ρ o=some o1):o1.ro=o.ro∧o1.isAbs=o.isAbs∧∀a ro,o1= .abs a ro→o= .abs a ro∧a.ext=[]:=by
 unfold BN at h
 split at h
 ·simp only[Option.map_eq_some_iff]at h
  obtain⟨l,hl,rfl⟩:=h
  exact⟨rfl,rfl,fun a ro e=>by cases e⟩
 ·rename_i l ro
  simp only[Option.map_eq_some_iff]at h
  obtain⟨l1,hl,rfl⟩:=h
  exact⟨rfl,rfl,fun a ro e=>by cases e⟩
 ·rename_i k l ro _
  cases hk:k.all HY
  ·simp[hk]at h
  ·simp only[hk,cond_true,Option.some.injEq]at h
   subst h
   exact⟨rfl,rfl,fun a ro e=>by cases e⟩
 ·rename_i a ro
  cases hx:a.Fv
  ·simp[hx]at h
  ·simp only[hx,cond_true,Option.some.injEq]at h
   subst h
   exact⟨rfl,rfl,fun a2 ro2 e=>by cases e;exact⟨rfl,AX.Mt hx⟩⟩
 ·cases h
theorem Bp {o o1:AJ} (h:BN ρ o=some o1) (T:Bv):o1.void T ↔ o.void T:=by
 unfold BN at h
 split at h
 ·simp only[Option.map_eq_some_iff]at h
  obtain⟨l,hl,rfl⟩:=h
  exact Iff.rfl
 ·rename_i l ro
  simp only[Option.map_eq_some_iff]at h
  obtain⟨l1,hl,rfl⟩:=h
  have hlen:=EA _ _ (show C7 (E9 ρ) l=some l1 from hl)
  have e:l1=[] ↔ l=[]:=⟨fun e=>List.eq_nil_of_length_eq_zero (by rw[←hlen,e];rfl),fun e=>List.eq_nil_of_length_eq_zero (by rw[hlen,e];rfl)⟩
  exact and_congr e Iff.rfl
 ·rename_i k l ro _
  cases hk:k.all HY
  ·simp[hk]at h
  ·simp only[hk,cond_true,Option.some.injEq]at h
   subst h
   exact Iff.rfl
 ·rename_i a ro
  cases hx:a.Fv
  ·simp[hx]at h
  ·simp only[hx,cond_true,Option.some.injEq]at h
   subst h
   exact Iff.rfl
 ·cases h
end
end Go.AD

namespace Go.AD
def aF (Hc H H':AA) (ρ:Ren) (v vc:Value) (Hf:AA):Prop:=∃ρ':Ren,
 (∀b1 b2 i,ρ' b1=some i→ρ' b2=some i→b1=b2)∧(∀b,b < Hc.next→ρ' b=ρ b)∧(∀b i,ρ' b=some i→Hc.next≤b→H.next≤i∧i < H'.next)∧
 (∀i o,H'.get i=some o→(H.next≤i∨∃b o0,Hc.get b=some o0∧o0.ro=false∧ρ b=some i)→∃b o0,ρ' b=some i∧Hf.get b=some o0∧BN ρ' o0=some o∧o0.ro=false)∧
 E9 ρ' vc=some v
end Go.AD

namespace Go.AD
abbrev Rn:=Nat→Option Nat
def Vb (ρ:Rn):Fn→Option Fn
 | .yield l=>(ρ l).map .yield
 | f=>some f
def RG (ρ:Rn):Nat→Value→Value
 | 0,_=>Be
 | n+1,v=>match v with
  | .pointer (some ⟨b,o,s⟩)=>match ρ b with
   | some i=> .pointer (some ⟨i,o,s⟩)
   | none=>Be
  | .slice (some ⟨b,o,s⟩) l c=>match ρ b with
   | some i=> .slice (some ⟨i,o,s⟩) l c
   | none=>Be
  | .map (some b)=>match ρ b with
   | some i=> .map (some i)
   | none=>Be
  | .iface t v=> .iface t (RG ρ n v)
  | .agg cs=> .agg ⟨cs.toList.map (RG ρ n)⟩
  | .tuple cs=> .tuple ⟨cs.toList.map (RG ρ n)⟩
  | .func f xs ys=>match Vb ρ f with
   | some f'=> .func f' ⟨xs.toList.map (RG ρ n)⟩ ⟨ys.toList.map (RG ρ n)⟩
   | none=>Be
  | v=>v
abbrev Na (ρ:Rn) (v:Value):Value:=RG ρ 8 v
section
variable {ρ:Rn} {μ ν:Ad}
theorem QW (hρ:∀b i T,ρ b=some i→μ b=some T→ν i=some T) {f g f':Fn} (h:Vb ρ f=some g) (hr:GI μ f f'):GI ν g f':=by
 cases hr with
 | func f=>cases h;exact .func f
 | method n=>cases h;exact .method n
 | methodOf t n=>cases h;exact .methodOf t n
 | via t p f b=>cases h;exact .via t p f b
 | yield l T hm=>
  simp only[Vb,Option.map_eq_some_iff]at h
  obtain⟨i,hi,rfl⟩:=h
  exact .yield i T (hρ _ _ _ hi hm)
theorem FN {f:Value→Value} (hf:∀v v',AH μ v v'→AH ν (f v) v'):∀{l l':List Value},A2 μ l l'→A2 ν (l.map f) l'
 | _,_,.nil=> .nil
 | _,_,.cons h t=> .cons (hf _ _ h) (FN hf t)
theorem IB (hρ:∀b i T,ρ b=some i→μ b=some T→ν i=some T):∀(n:Nat) (v v':Value),AH μ v v'→AH ν (RG ρ n v) v':=by
 intro n
 induction n with
 | zero=>intro v v' _;exact .Be _
 | succ n ih=>
  intro v v' hr
  cases hr with
  | Be=>exact .Be _
  | bool b=>exact .bool b
  | int k m=>exact .int k m
  | float k m=>exact .float k m
  | string s=>exact .string s
  | Fj=>exact .Fj
  | B3 l c=>exact .B3 l c
  | Fm=>exact .Fm
  | nilFunc=>exact .nilFunc
  | nilIface=>exact .nilIface
  | ptr b o T hm=>
   simp only[RG]
   cases hb:ρ b with
   | none=>exact .Be _
   | some i=>exact .ptr i o T (hρ _ _ _ hb hm)
  | GX b o j T hm=>
   simp only[RG]
   cases hb:ρ b with
   | none=>exact .Be _
   | some i=>exact .GX i o j T (hρ _ _ _ hb hm)
  | slice b o l c c' o' T hm hc ho=>
   simp only[RG]
   cases hb:ρ b with
   | none=>exact .Be _
   | some i=>exact .slice i o l c c' o' T (hρ _ _ _ hb hm) hc ho
  | Bk b j l c c' o' T hm hc ho hr=>
   simp only[RG]
   cases hb:ρ b with
   | none=>exact .Be _
   | some i=>exact .Bk i j l c c' o' T (hρ _ _ _ hb hm) hc ho hr
  | Cr b j c T z hm hc=>
   simp only[RG]
   cases hb:ρ b with
   | none=>exact .Be _
   | some i=>exact .Cr i j c T z (hρ _ _ _ hb hm) hc
  | CU b j l c c' o' T M hm hm2 hc ho hr=>
   simp only[RG]
   cases hb:ρ b with
   | none=>exact .Be _
   | some i=>exact .CU i j l c c' o' T M (hρ _ _ _ hb hm) hm2 hc ho hr
  | ED b j c T z hm hc=>
   simp only[RG]
   cases hb:ρ b with
   | none=>exact .Be _
   | some i=>exact .ED i j c T z (hρ _ _ _ hb hm) hc
  | map b T hm=>
   simp only[RG]
   cases hb:ρ b with
   | none=>exact .Be _
   | some i=>exact .map i T (hρ _ _ _ hb hm)
  | iface t a a' ha=>exact .iface t _ a' (ih _ _ ha)
  | agg xs xs' hx ex=>
   obtain⟨ys,he,hl⟩:=AH.Ca.1 (.agg xs xs' hx ex)
   cases he
   exact AH.Ca.2 ⟨_,rfl,FN ih hl⟩
  | tuple xs xs' hx ex=>
   obtain⟨ys,he,hl⟩:=AH.CC.1 (.tuple xs xs' hx ex)
   cases he
   exact AH.CC.2 ⟨_,rfl,FN ih hl⟩
  | func fn fn' xs xs' ys ys' hf hx ex hy ey=>
   obtain⟨fn2,xs2,ys2,he,hf2,D5,hy2⟩:=AH.CL.1 (.func fn fn' xs xs' ys ys' hf hx ex hy ey)
   cases he
   simp only[RG]
   cases hb:Vb ρ fn with
   | none=>exact .Be _
   | some g=>exact AH.CL.2 ⟨_,_,_,rfl,QW hρ hb hf2,FN ih D5,FN ih hy2⟩
end
noncomputable def Tr.Vs (f:Value→Value) (t:Tr Value):Tr Value:=
 Tr.rec (motive:=fun _=>Tr Value) .leaf (fun _ v _ ihl ihr=> .node ihl (v.map f) ihr) t
theorem Tr.Ww (f:Value→Value) (t:Tr Value) (i:Nat):(t.Vs f).get i=(t.get i).map f:=by
 unfold Tr.get
 generalize FU.of i=p
 induction t generalizing p with
 | leaf=>cases p<;>rfl
 | node l v r ihl ihr=>
  cases p with
  | e=>rfl
  | z p=>exact ihl p
  | o p=>exact ihr p
noncomputable def Ln (f:Value→Value) (t:Tr Value):List Nat→Tr Value
 | []=> .leaf
 | i::r=>(Ln f t r).put i (some (f (look t i)))
theorem I8 (f:Value→Value) (t:Tr Value):∀(l:List Nat) (i:Nat),look (Ln f t l) i=Be∨look (Ln f t l) i=f (look t i)
 | [],i=> .inl rfl
 | j::r,i=>by
  unfold Ln look
  rw[Tr.AN]
  by_cases e:i=j
  ·subst e;rw[if_pos rfl];exact .inr rfl
  ·rw[if_neg e];exact I8 f t r i
section
variable {ρ:Rn} {μ ν:Ad}
theorem Pq (hρ:∀b i T,ρ b=some i→μ b=some T→ν i=some T) {t:Tr Value} {n:Nat} {a:Array Value} (h:En μ t n a):En ν (t.Vs (Na ρ)) n a:=by
 refine⟨h.1,fun i=>?_⟩
 have:=h.2 i
 unfold look at this ⊢
 rw[Tr.Ww]
 cases hg:t.get i with
 | none=>exact .Be _
 | some v=>rw[hg]at this;exact IB hρ 8 _ _ this
theorem U7 (hρ:∀b i T,ρ b=some i→μ b=some T→ν i=some T) {t:Tr Value} {n:Nat} {a:Array Value} (h:En μ t n a) (l:List Nat):En ν (Ln (Na ρ) t l) n a:=by
 refine⟨h.1,fun i=>?_⟩
 rcases I8 (Na ρ) t l i with e | e
 ·rw[e];exact .Be _
 ·rw[e];exact IB hρ 8 _ _ (h.2 i)
end
def Wa (ρ:Rn):CI→Option CI
 | .DZ _ _=>none
 | .inRangeFunc l=>(ρ l).map .inRangeFunc
 | .endRangeFunc l=>(ρ l).map .endRangeFunc
 | x=>some x
def Ng (ρ:Rn):List CI→Option (List CI)
 | []=>some []
 | x::r=>match Wa ρ x,Ng ρ r with
  | some y,some l=>some (y::l)
  | _,_=>none
def Zl (ρ:Rn):Target→Option Target
 | .collected b=>(ρ b).map .collected
 | .fn f ys=>(Vb ρ f).map fun g=> .fn g ⟨ys.toList.map (Na ρ)⟩
 | t=>some t
def WK (ρ:Rn):List Deferred→Option (List Deferred)
 | []=>some []
 | d::r=>match Zl ρ d.target,WK ρ r with
  | some t,some l=>some (⟨t,⟨d.args.toList.map (Na ρ)⟩⟩::l)
  | _,_=>none
def cF (ρ:Rn):Option Nat→Option (Option Nat)
 | none=>some none
 | some l=>(ρ l).map some
section
variable {ρ:Rn} {μ ν:Ad}
theorem XY (hρ:∀b i T,ρ b=some i→μ b=some T→ν i=some T) {x y:CI} {x':Item} (h:Wa ρ x=some y) (hr:GH μ x x'):GH ν y x':=by
 cases hr with
 | code c=>cases h;exact .code c
 | inBlock i=>cases h;exact .inBlock i
 | inLoop c=>cases h;exact .inLoop c
 | inScope c=>cases h;exact .inScope c
 | Ik ops l idx hh=>cases h;exact .Ik ops l idx hh
 | beginRound=>cases h;exact .beginRound
 | inRangeFunc l T hm=>
  simp only[Wa,Option.map_eq_some_iff]at h
  obtain⟨i,hi,rfl⟩:=h
  exact .inRangeFunc i T (hρ _ _ _ hi hm)
 | endRangeFunc l T hm=>
  simp only[Wa,Option.map_eq_some_iff]at h
  obtain⟨i,hi,rfl⟩:=h
  exact .endRangeFunc i T (hρ _ _ _ hi hm)
theorem Nn (hρ:∀b i T,ρ b=some i→μ b=some T→ν i=some T) {l l1:List CI} {l':List Item} (h:Ng ρ l=some l1) (hr:C3 μ l l'):C3 ν l1 l':=by
 induction hr generalizing l1 with
 | nil=>cases h;exact .nil
 | cons hx _ ih=>
  simp only[Ng]at h
  split at h
  ·rename_i y m e1 e2;cases h;exact .cons (XY hρ e1 hx) (ih e2)
  ·cases h
theorem WS (hρ:∀b i T,ρ b=some i→μ b=some T→ν i=some T) {t t1 t':Target} (h:Zl ρ t=some t1) (hr:GY μ t t'):GY ν t1 t':=by
 cases hr with
 | nil=>cases h;exact .nil
 | builtin b ts t cs=>cases h;exact .builtin b ts t cs
 | collected r T hm=>
  simp only[Zl,Option.map_eq_some_iff]at h
  obtain⟨i,hi,rfl⟩:=h
  exact .collected i T (hρ _ _ _ hi hm)
 | fn fn fn' ys ys' hf hy=>
  simp only[Zl,Option.map_eq_some_iff]at h
  obtain⟨g,hg,rfl⟩:=h
  exact .fn _ _ _ _ (QW hρ hg hf) (FN (IB hρ 8) hy)
theorem Me (hρ:∀b i T,ρ b=some i→μ b=some T→ν i=some T) {l l1 l':List Deferred} (h:WK ρ l=some l1) (hr:CF μ l l'):CF ν l1 l':=by
 induction hr generalizing l1 with
 | nil=>cases h;exact .nil
 | cons hx _ ih=>
  simp only[WK]at h
  split at h
  ·rename_i t m e1 e2;cases h;exact .cons ⟨WS hρ e1 hx.eW,FN (IB hρ 8) hx.args⟩ (ih e2)
  ·cases h
theorem PN (hρ:∀b i T,ρ b=some i→μ b=some T→ν i=some T) {x y:Option Nat} {x':Option Nat} (h:cF ρ x=some y) (hr:FL μ x x'):FL ν y x':=by
 cases hr with
 | none=>cases h;exact .none
 | some l T hm=>
  simp only[cF,Option.map_eq_some_iff]at h
  obtain⟨i,hi,rfl⟩:=h
  exact .some i T (hρ _ _ _ hi hm)
end
def Eh:SK→Bool
 | .tok=>false
 | _=>true
def cp (ρ:Rn) (l:List MapEntry):List MapEntry:=l.map fun e=>⟨Na ρ e.key,Na ρ e.val,e.born⟩
noncomputable def PL (ρ:Rn):AJ→Option AJ
 | .cells cs e ro=>some (.cells (cs.map (Na ρ)) e ro)
 | .vec [.tok] l ro=>some (.vec [.tok] (List.map (Na ρ) l) ro)
 | .vec k l ro=>bif k.all Eh then some (.vec k l ro)else none
 | .abs a ro=>bif a.Fv then some (.abs a ro)else none
 | .CP s p=>some (.CP s p)
 | .deferred none=>some (.deferred none)
 | .deferred (some l)=>(WK ρ l).map fun l=> .deferred (some l)
 | .map es clock=>some (.map (cp ρ es) clock)
 | .loop q=>(ρ q.defers).map fun d=> .loop ⟨q.state,q.pending,q.fn,q.tmps.Vs (Na ρ),q.n,q.params,q.assign,q.body,d⟩
section
variable {ρ:Rn} {μ ν:Ad}
theorem S4:∀(k:EK),k.all Eh=true→∀(x:EK.C k) (v:Value),v∈EK.enc k x→∃s y,Eh s=true∧v=SK.enc s y
 | [],_,_,v,h=>by cases h
 | [s],hk,x,v,h=>by
  simp only[EK.enc,List.mem_singleton]at h
  exact⟨s,x,by simpa using hk,h⟩
 | s::t::r,hk,x,v,h=>by
  simp only[EK.enc,List.mem_cons]at h
  have hk:Eh s=true∧(t::r).all Eh=true:=by simpa only[List.all_cons,Bool.and_eq_true] using hk
  rcases h with h | h
  ·exact⟨s,x.1,hk.1,h⟩
  ·exact S4 (t::r) hk.2 x.2 v h
theorem JY (k:EK) (hk:k.all Eh=true) (l:List (EK.C k)) {l':List Value} (h:A2 μ (A3 k l) l'):A2 ν (A3 k l) l':=by
 have hs:∀(s:SK),Eh s=true→∀(x:s.C) (v':Value),AH μ (s.enc x) v'→AH ν (s.enc x) v':=by
  intro s hs x v' h
  cases s with
  | int k=>have h:AH μ (.int k x) v':=h;cases h;exact .int _ _
  | bool=>have h:AH μ (.bool x) v':=h;cases h;exact .bool _
  | str=>have h:AH μ (.string x) v':=h;cases h;exact .string _
  | tok=>cases hs
 have key:∀(vs:List Value),(∀v∈vs,∃s x,Eh s=true∧v=SK.enc s x)→∀l',A2 μ vs l'→A2 ν vs l':=by
  intro vs
  induction vs with
  | nil=>intro _ l' h;cases h;exact .nil
  | cons v vs ih=>
   intro hv l' h
   cases h with
   | cons h1 h2=>
    obtain⟨s,x,a,rfl⟩:=hv v (by simp)
    exact .cons (hs s a x _ h1) (ih (fun w hw=>hv w (by simp[hw])) _ h2)
 refine key _ ?_ _ h
 intro v hv
 unfold A3 at hv
 rw[List.mem_flatMap]at hv
 obtain⟨x,_,hx⟩:=hv
 exact S4 k hk x v hx
theorem Uw (l:List (EK.C [.tok])):A3 [.tok] l=l:=by
 induction l with
 | nil=>rfl
 | cons x l ih=>rw[Cl,ih];rfl
theorem LP {k:EK} {l:List (EK.C k)} {ro:Bool} {o1:AJ} (h:PL ρ (.vec k l ro)=some o1):(∃l':List (EK.C [.tok]),(⟨k,l⟩:(k:EK) × List (EK.C k))=⟨[.tok],l'⟩∧o1= .vec [.tok] (List.map (Na ρ) l') ro)∨(k.all Eh=true∧o1= .vec k l ro):=by
 unfold PL at h
 split at h
 ·rename_i heq;cases heq
 ·rename_i l2 ro2 he
  cases he
  cases h
  exact .inl ⟨l2,rfl,rfl⟩
 ·rename_i k2 l2 ro2 hne he
  injection he with e1 e2 e3
  subst e1
  cases e2
  subst e3
  cases hk:k.all Eh
  ·simp[hk]at h
  ·simp only[hk,cond_true,Option.some.injEq]at h
   exact .inr ⟨rfl,h.symm⟩
 all_goals (rename_i heq;cases heq)
theorem YD (hρ:∀b i T,ρ b=some i→μ b=some T→ν i=some T) {o o1:AJ} {T:Bv} {o':Obj} (h:PL ρ o=some o1) (hr:Cb μ T o o'):Cb ν T o1 o':=by
 cases hr with
 | cells cs e ro c t lo hi he hc hs hf=>
  simp only[PL,Option.some.injEq]at h
  subst h
  refine .cells T _ e ro c t lo hi he ?_ hs hf
  rw[List.length_map]
  exact FN (IB hρ 8) hc
 | loop l a R ht hd=>
  simp only[PL,Option.map_eq_some_iff]at h
  obtain⟨d,hd1,rfl⟩:=h
  exact .loop T ⟨l.state,l.pending,l.fn,l.tmps.Vs (Na ρ),l.n,l.params,l.assign,l.body,d⟩ a R (Pq hρ ht) (hρ _ _ _ hd1 hd)
 | DA=>cases h;exact .DA T
 | deferred l l' hl=>
  simp only[PL,Option.map_eq_some_iff]at h
  obtain⟨d,hd1,rfl⟩:=h
  exact .deferred T _ _ (Me hρ hd1 hl)
 | CP s p hd=>cases h;exact .CP T s p hd
 | map es es' clock he=>
  simp only[PL,Option.some.injEq]at h
  subst h
  refine .map T _ es' clock ?_
  generalize es'.toList=q at he
  induction he with
  | nil=>exact .nil
  | cons hk hv hb _ ih=>exact .cons (IB hρ 8 _ _ hk) (IB hρ 8 _ _ hv) hb ih
 | vec k l ro o hc=>
  rcases LP h with⟨l2,e,rfl⟩ | ⟨hk,rfl⟩
  ·cases e
   refine .vec T [.tok] _ ro o' ?_
   rw[Uw]at hc ⊢
   cases hc with
   | cells cs e ro c t lo hi he hc hs hf=>
    refine .cells T _ _ ro c t lo hi he ?_ hs hf
    rw[List.length_map]
    exact FN (IB hρ 8) hc
  ·refine .vec T k l ro o' ?_
   cases hc with
   | cells cs e ro c t lo hi he hc hs hf=>exact .cells T _ _ ro c t lo hi he (JY k hk l hc) hs hf
 | EG k ro o he hr hk0=>
  rcases LP h with⟨l2,e,rfl⟩ | ⟨hk,rfl⟩
  ·cases e
   exact .EG T [.tok] ro _ he hr hk0
  ·exact .EG T k ro _ he hr hk0
 | abs a ro o=>
  simp only[PL]at h
  cases hx:a.Fv
  ·simp[hx]at h
  ·simp only[hx,cond_true,Option.some.injEq]at h
   subst h;exact .abs T a ro o'
theorem Jt {o o1:AJ} (h:PL ρ o=some o1) (T:Bv):o1.void T ↔ o.void T:=by
 cases o with
 | cells cs e ro=>cases h;exact Iff.rfl
 | vec k l ro=>
  rcases LP h with⟨l2,e,rfl⟩ | ⟨hk,rfl⟩
  ·cases e
   exact and_congr (by simp) Iff.rfl
  ·exact Iff.rfl
 | abs a ro=>
  simp only[PL]at h
  cases hx:a.Fv
  ·simp[hx]at h
  ·simp only[hx,cond_true,Option.some.injEq]at h;subst h;exact Iff.rfl
 | CP s p=>cases h;exact Iff.rfl
 | deferred d=>
  cases d with
  | none=>cases h;exact Iff.rfl
  | some l=>
   simp only[PL,Option.map_eq_some_iff]at h
   obtain⟨d,_,rfl⟩:=h
   exact Iff.rfl
 | map es clock=>cases h;exact Iff.rfl
 | loop q=>
  simp only[PL,Option.map_eq_some_iff]at h
  obtain⟨d,_,rfl⟩:=h
  exact Iff.rfl
theorem KO {o o1:AJ} (h:PL ρ o=some o1):o1.ro=o.ro∧o1.isAbs=o.isAbs∧∀a ro,o1= .abs a ro→o= .abs a ro∧a.ext=[]:=by
 cases o with
 | cells cs e ro=>cases h;exact⟨rfl,rfl,fun _ _ e=>by cases e⟩
 | vec k l ro=>
  rcases LP h with⟨l2,e,rfl⟩ | ⟨hk,rfl⟩
  ·cases e
   exact⟨rfl,rfl,fun _ _ e=>by cases e⟩
  ·exact⟨rfl,rfl,fun _ _ e=>by cases e⟩
 | abs a ro=>
  simp only[PL]at h
  cases hx:a.Fv
  ·simp[hx]at h
  ·simp only[hx,cond_true,Option.some.injEq]at h;subst h
   exact⟨rfl,rfl,fun _ _ e=>by cases e;exact⟨rfl,AX.Mt hx⟩⟩
 | CP s p=>cases h;exact⟨rfl,rfl,fun _ _ e=>by cases e⟩
 | deferred d=>
  cases d with
  | none=>cases h;exact⟨rfl,rfl,fun _ _ e=>by cases e⟩
  | some l=>
   simp only[PL,Option.map_eq_some_iff]at h
   obtain⟨d,_,rfl⟩:=h
   exact⟨rfl,rfl,fun _ _ e=>by cases e⟩
 | map es c=>cases h;exact⟨rfl,rfl,fun _ _ e=>by cases e⟩
 | loop q=>
  simp only[PL,Option.map_eq_some_iff]at h
  obtain⟨d,_,rfl⟩:=h
  exact⟨rfl,rfl,fun _ _ e=>by cases e⟩
end
def RB (b:Nat):List Nat→Nat→Option Nat
 | [],_=>none
 | i::r,k=>bif Nat.beq b i then some k else RB b r (k+1)
def O3 (N:Nat) (ids:List Nat):Rn:=fun b=>bif Nat.blt b N then some b else RB b ids N
theorem Lr {b:Nat}:∀{ids:List Nat} {k i:Nat},RB b ids k=some i→k≤i∧i < k+ids.length∧ids[i - k]? = some b
 | [],k,i,h=>by cases h
 | a::r,k,i,h=>by
  unfold RB at h
  cases hb:Nat.beq b a
  ·simp only[hb,cond_false]at h
   obtain⟨h1,h2,h3⟩:=Lr h
   refine⟨by omega,by simp only[List.length_cons];omega,?_⟩
   rw[show i - k=(i - (k+1))+1 by omega,List.getElem?_cons_succ]
   exact h3
  ·simp only[hb,cond_true,Option.some.injEq]at h
   subst h
   refine⟨Nat.le_refl _,by simp,?_⟩
   rw[Nat.sub_self,Nat.eq_of_beq_eq_true hb];rfl
def Em (N:Nat) (ids:List Nat) (i:Nat):Option Nat:=if i < N then some i else ids[i - N]?
theorem IE {N:Nat} {ids:List Nat} {b i:Nat} (h:O3 N ids b=some i):Em N ids i=some b:=by
 unfold O3 at h
 unfold Em
 cases hb:Nat.blt b N
 ·simp only[hb,cond_false]at h
  obtain⟨h1,h2,h3⟩:=Lr h
  rw[if_neg (by omega)];exact h3
 ·simp only[hb,cond_true,Option.some.injEq]at h
  subst h
  rw[if_pos (show b < N from Nat.le_of_ble_eq_true hb)]
noncomputable def O5 (ρ:Rn) (m:Tr AJ):List Nat→Option (Tr AJ)
 | []=>some .leaf
 | b::r=>match O5 ρ m r with
  | some t=>match ρ b,m.get b with
   | some i,some o=>match PL ρ o with
    | some o1=>some (t.put i (some o1))
    | none=>none
   | _,_=>none
  | none=>none
theorem DD {ρ:Rn} {m:Tr AJ}:∀{l:List Nat} {t:Tr AJ},O5 ρ m l=some t→∀i o1,t.get i=some o1→∃b o,ρ b=some i∧m.get b=some o∧PL ρ o=some o1
 | [],t,h,i,o1,hg=>by cases h;cases hg
 | b::r,t,h,i,o1,hg=>by
  simp only[O5]at h
  split at h
  ·rename_i t0 h0
   split at h
   ·rename_i j o hj ho
    split at h
    ·rename_i o2 h2
     cases h
     rw[Tr.AN]at hg
     by_cases e:i=j
     ·subst e;rw[if_pos rfl]at hg;cases hg;exact⟨b,o,hj,ho,h2⟩
     ·rw[if_neg e]at hg;exact DD h0 i o1 hg
    ·cases h
   ·cases h
  ·cases h
noncomputable def VI (ρ:Rn) (live:Option (List Nat)):Ab→Option Ab
 | ⟨fn,t,n,todo,ds,r,kd,rd⟩=>match Ng ρ todo,WK ρ ds,cF ρ rd with
  | some todo',some ds',some rd'=>some ⟨fn,match live with | some l=>Ln (Na ρ) t l | none=>t.Vs (Na ρ),n,todo',ds',r,kd,rd'⟩
  | _,_,_=>none
noncomputable def Sv (ρ:Rn):List Ab→Option (List Ab)
 | []=>some []
 | f::r=>match VI ρ none f,Sv ρ r with
  | some g,some l=>some (g::l)
  | _,_=>none
noncomputable def ew (N:Nat) (O4 ids:List Nat) (live:List Nat) (c:A5):Option A5:=
 match VI (O3 N ids) (some live) c.fr,Sv (O3 N ids) c.cs,O5 (O3 N ids) c.H.m O4 with
 | some fr,some cs,some m=>some ⟨fr,cs,⟨m,N+ids.length⟩⟩
 | _,_,_=>none
def BB (X:Ctx) (N:Nat) (c:A5) (Φ:A5→Prop):Prop:=∀(base:Env) (W0:World),(∀b T,base.ar b=some T→b < N)→Dn X base W0→FF X→∀(cs0:List Frame) (μ:Ad) (fr:Frame) (cs:List Frame) (W:World),Hi X base W0 μ c fr cs W→∃c',Φ c'∧CW X base W0 cs0 c' (lone fr (cs++cs0) W)
section
variable {X:Ctx} {N:Nat}
theorem Reach.GF {c:A5} {Φ:A5→Prop} (h:Reach X c Φ):BB X N c Φ:=fun base W0 _=>h base W0
theorem BB.here {c:A5} {Φ:A5→Prop} (h:Φ c):BB X N c Φ:=(Reach.here h).GF
theorem BB.bind {c:A5} {Φ Ψ:A5→Prop} (h:BB X N c Φ) (h':∀c',Φ c'→BB X N c' Ψ):BB X N c Ψ:=by
 intro base W0 hb hok hplan cs0 μ fr cs W hm
 obtain⟨c1,p1,μ1,fr1,cs1,W1,s1,m1⟩:=h base W0 hb hok hplan cs0 μ fr cs W hm
 obtain⟨c2,p2,μ2,fr2,cs2,W2,s2,m2⟩:=h' c1 p1 base W0 hb hok hplan cs0 μ1 fr1 cs1 W1 m1
 exact⟨c2,p2,μ2,fr2,cs2,W2,s1.trans s2,m2⟩
theorem BB.mono {c:A5} {Φ Ψ:A5→Prop} (h:BB X N c Φ) (hi:∀c',Φ c'→Ψ c'):BB X N c Ψ:=h.bind fun c' hc=> .here (hi c' hc)
theorem Kk {ρ:Rn} {l m:List CI} (h:Ng ρ l=some m):∀ops p k,l≠ .DZ ops p::k:=by
 rintro ops p k rfl
 simp[Ng,Wa]at h
theorem VL {ρ:Rn} {μ ν:Ad} {H H':AA} (hρ:∀b i T,ρ b=some i→μ b=some T→ν i=some T) {g:List Nat} {l l1:List Ab} {l':List Frame} (h:Sv ρ l=some l1) (hr:DS X μ H g l l'):DS X ν H' [] l1 l':=by
 induction hr generalizing l1 with
 | nil=>cases h;exact .nil
 | cons hf _ ih=>
  simp only[Sv]at h
  split at h
  ·rename_i f1 m e1 e2
   cases h
   refine .cons (g:=[]) (gs:=[]) ?_ (ih e2)
   cases hf with
   | plain fn t n tm todo todo' ds ds' r kd rd rd' ht hi hd hr=>
    simp only[VI]at e1
    split at e1
    ·rename_i a b c h1 h2 h3
     cases e1
     exact .plain _ _ _ _ _ _ _ _ _ _ _ _ (Pq hρ ht) (Nn hρ h1 hi) (Me hρ h2 hd) (PN hρ h3 hr)
    ·cases e1
   | Lw fn t n tm ops x o rest idx D G k k' ds ds' kd rd rd' ho hD hk hd hr=>
    simp only[VI]at e1
    split at e1
    ·rename_i a b c h1 h2 h3
     exact absurd rfl (Kk h1 _ _ _)
    ·cases e1
  ·cases h
theorem Oc {O4 ids live:List Nat} {c c':A5} {Φ:A5→Prop} (hl:(X.laid.all fun p=>Nat.blt p.1 N)=true) (_hN:N≤c.H.next) (_hids:(ids.all fun b=>Nat.blt b c.H.next)=true) (h:ew N O4 ids live c=some c') (hr:BB X N c' Φ):BB X N c Φ:=by
 intro base W0 hb hok hplan cs0 μ fr cs W hm
 suffices hs:∃μ',Hi X base W0 μ' c' fr cs W by
  obtain⟨μ',hm'⟩:=hs
  exact hr base W0 hb hok hplan cs0 μ' fr cs W hm'
 obtain⟨hH,hlaid,g,gs,hfr,hcs,hnd⟩:=hm
 unfold ew at h
 split at h
 ·rename_i fr1 cs1 m1 e1 e2 e3
  cases h
  let ν:Ad:=fun i=>(Em N ids i).bind μ
  have hν:∀b i T,O3 N ids b=some i→μ b=some T→ν i=some T:=by
   intro b i T h1 h2
   show(Em N ids i).bind μ=_
   rw[IE h1];exact h2
  have hν':∀b i T,O3 N ids b=some i→ν i=some T→μ b=some T:=by
   intro b i T h1 h2
   have h2:(Em N ids i).bind μ=some T:=h2
   rw[IE h1]at h2;exact h2
  have hlow:∀i,i < N→ν i=μ i:=by
   intro i hi
   show(Em N ids i).bind μ=_
   unfold Em
   rw[if_pos hi];rfl
  refine⟨ν,⟨?_,?_,?_,?_,?_,hH.size,hH.below,hH.out,hH.os,?_,?_,hH.grow⟩,?_,[],[],?_,VL hν e2 hcs,by simp⟩
  ·intro i o1 hi T hT
   obtain⟨b,o,r1,r2,r3⟩:=DD e3 i o1 hi
   obtain⟨o',q1,q2⟩:=hH.obj b o r2 T (hν' _ _ _ r1 hT)
   exact⟨o',q1,YD hν r3 q2⟩
  ·intro i o1 hi hro T hT hv
   obtain⟨b,o,r1,r2,r3⟩:=DD e3 i o1 hi
   exact hH.own b o r2 (by rw[←(KO r3).1];exact hro) T (hν' _ _ _ r1 hT) (fun hw=>hv ((Jt r3 T).2 hw))
  ·intro i1 i2 o1 o2 h1 h2 T1 T2 t1 t2 v1 v2 hcc hrr
   obtain⟨b1,p1,r1,r2,r3⟩:=DD e3 i1 o1 h1
   obtain⟨b2,p2,s1,s2,s3⟩:=DD e3 i2 o2 h2
   have:=hH.inj b1 b2 p1 p2 r2 s2 T1 T2 (hν' _ _ _ r1 t1) (hν' _ _ _ s1 t2) (fun hw=>v1 ((Jt r3 T1).2 hw)) (fun hw=>v2 ((Jt s3 T2).2 hw)) hcc (by rw[←(KO r3).1,←(KO s3).1];exact hrr)
   subst this
   rw[r1]at s1;cases s1;rfl
  ·intro i hi
   have hi:N+ids.length≤i:=hi
   have hnone:Em N ids i=none:=by
    unfold Em
    rw[if_neg (by omega),List.getElem?_eq_none (by omega)]
   constructor
   ·cases hg:(AA.mk m1 (N+ids.length)).get i with
    | none=>rfl
    | some o1=>
     obtain⟨b,o,r1,_⟩:=DD e3 i o1 hg
     rw[IE r1]at hnone;cases hnone
   ·show(Em N ids i).bind μ=none
    rw[hnone];rfl
  ·intro i T hT
   have hT:(Em N ids i).bind μ=some T:=hT
   cases hbk:Em N ids i with
   | none=>rw[hbk]at hT;cases hT
   | some b=>rw[hbk]at hT;exact hH.bound b T hT
  ·obtain⟨φ,q⟩:=hH.abs
   refine⟨fun i=>match Em N ids i with | some b=>φ b | none=>fun _=>False,?_,?_⟩
   ·intro i a ro T hi hT
    obtain⟨b,o,r1,r2,r3⟩:=DD e3 i _ hi
    obtain⟨this,hext⟩:=(KO r3).2.2 a ro rfl
    subst this
    simp only[IE r1]
    obtain⟨w1,w2⟩:=q.rep b a ro T r2 (hν' _ _ _ r1 hT)
    exact⟨w1.closed _ hext,w2⟩
   ·intro i a ro T hi hT i2 o2 T2 hi2 hT2 hne
    obtain⟨b,o,r1,r2,r3⟩:=DD e3 i _ hi
    obtain⟨this,hext⟩:=(KO r3).2.2 a ro rfl
    subst this
    obtain⟨b2,p2,s1,s2,s3⟩:=DD e3 i2 _ hi2
    simp only[IE r1,IE s1]
    obtain⟨u1,u2⟩:=q.D2 b a ro T r2 (hν' _ _ _ r1 hT) b2 p2 T2 s2 (hν' _ _ _ s1 hT2) (by rintro rfl;rw[r1]at s1;cases s1;exact hne rfl)
    exact⟨fun hv2=>u1 (fun hw=>hv2 ((Jt s3 T2).2 hw)),fun ea=>u2 (by rw[←(KO s3).2.1];exact ea)⟩
  ·intro b T hT
   rw[hlow b (hb b T hT)]
   exact hH.le b T hT
  ·intro gl hgl
   obtain⟨T,h1,h2⟩:=hlaid gl hgl
   have:gl < N:=by
    rw[List.any_eq_true]at hgl
    obtain⟨p,hp,hpe⟩:=hgl
    have h3:=List.all_eq_true.1 hl p hp
    rw[Nat.eq_of_beq_eq_true hpe]
    exact Nat.le_of_ble_eq_true h3
   exact⟨T,by rw[hlow gl this];exact h1,h2⟩
  ·generalize c.fr=cf at e1 hfr
   cases hfr with
   | plain fn t n tm todo todo' ds ds' r kd rd rd' ht hi hd hrr=>
    simp only[VI]at e1
    split at e1
    ·rename_i a b c h1 h2 h3
     cases e1
     exact .plain _ _ _ _ _ _ _ _ _ _ _ _ (U7 hν ht live) (Nn hν h1 hi) (Me hν h2 hd) (PN hν h3 hrr)
    ·cases e1
   | drawn fn t n tm ops Bj idx D G k k' ds ds' kd rd rd' hD hk hd hrr=>
    simp only[VI]at e1
    split at e1
    ·rename_i a b c h1 h2 h3
     exact absurd rfl (Kk h1 _ _ _)
    ·cases e1
 ·cases h
end
end Go.AD

namespace Go.AD
structure Stop where
 fn:FuncId
 depth:Nat
 len:Nat
 N:Nat
 MG:List Nat
 live:List Nat
def cT:List CI→Bool
 | .inLoop _::_=>true
 | .code (.loop _)::_=>true
 | _=>false
def Stop.here (S:Stop) (c:A5):Bool:=
 match c with
 | ⟨⟨fn,_,_,todo,_,r,_,_⟩,cs,_⟩=> !r&&cT todo&&Nat.beq fn S.fn&&Nat.beq cs.length S.depth&&Nat.beq todo.length S.len
noncomputable def ak (t:Tr Value):List Value:=
 Tr.rec (motive:=fun _=>List Value) [] (fun _ v _ l r=>l++((match v with | some x=>[x] | none=>[])++r)) t
noncomputable def Tc:AJ→List Nat
 | .cells cs _ _=>cs.flatMap (Ac 4)
 | .loop q=>q.defers::(ak q.tmps).flatMap (Ac 4)
 | .deferred (some l)=>l.flatMap fun d=>d.args.toList.flatMap (Ac 4)
 | .map es _=>es.flatMap fun e=>Ac 4 e.key++Ac 4 e.val
 | _=>[]
def Vv:CI→List Nat
 | .inRangeFunc l=>[l]
 | .endRangeFunc l=>[l]
 | _=>[]
def aO (d:Deferred):List Nat:=(match d.target with
 | .collected b=>[b]
 | .fn _ ys=>ys.toList.flatMap (Ac 4)
 | _=>[])++d.args.toList.flatMap (Ac 4)
noncomputable def cE (f:Ab):List Nat:=
 (match f.round with | some l=>[l] | none=>[])++f.defers.flatMap aO++f.todo.flatMap Vv++(ak f.tmps).flatMap (Ac 4)
noncomputable def IW (H:AA) (N:Nat):Nat→List Nat→List Nat→List Nat
 | 0,_,seen=>seen
 | f+1,todo,seen=>match todo with
  | []=>seen
  | b::r=>bif Nat.blt b N||seen.any (Nat.beq b)then IW H N f r seen else
   match H.get b with
   | some o=>IW H N f (r++Tc o) (seen++[b])
   | none=>IW H N f r seen
noncomputable def Stop.ids (S:Stop) (c:A5):List Nat:=
 IW c.H S.N 1000 ((S.live.flatMap fun i=>Ac 4 (look c.fr.tmps i))++(match c.fr.round with | some l=>[l] | none=>[])++c.fr.defers.flatMap aO++c.fr.todo.flatMap Vv++c.cs.flatMap cE++(S.MG.flatMap fun b=>match c.H.get b with | some o=>Tc o | none=>[])) []
noncomputable def Stop.can (X:Ctx) (S:Stop) (c:A5):Option A5:=
 match Dm X c with
 | some c1=>bif Nat.ble S.N c1.H.next&&(S.ids c1).all (fun b=>Nat.blt b c1.H.next)then ew S.N (S.MG++S.ids c1) (S.ids c1) S.live c1 else none
 | none=>none
noncomputable def LK (X:Ctx) (pf:Pf) (f:FuncId) (ids:List Nat) (S:Stop) (Q:Value→List (Option AJ)→Prop) (R:A5→Prop) (n:Nat):A5→Prop:=
 Nat.rec (motive:=fun _=>A5→Prop) (fun _=>False) (fun _ ih c=>match DR X f c with
  | some (v,H)=>Q v ((ids++Ac 4 v).map H.get)
  | none=>bif S.here c then(match S.can X c with
   | some c2=>R c2
   | none=>False)
   else Fk X pf c ih) n
def Ai (X:Ctx) (N:Nat) (f:FuncId) (Q:Value→AA→Prop) (c:A5):Prop:=BB X N c fun c'=>∃v H,DR X f c'=some (v,H)∧Q v H
section
variable {X:Ctx}
theorem Bc.GF {N:Nat} {f:FuncId} {Q:Value→AA→Prop} {c:A5} (h:Bc X f Q c):Ai X N f Q c:=Reach.GF h
theorem Ai.mono {N:Nat} {f:FuncId} {Q Q':Value→AA→Prop} {c:A5} (h:Ai X N f Q c) (hi:∀v H,Q v H→Q' v H):Ai X N f Q' c:=
 BB.mono h fun _ ⟨v,H,a,b⟩=>⟨v,H,a,hi v H b⟩
theorem CB {pf:Pf} (hpf:El X pf) {f:FuncId} {ids:List Nat} {S:Stop} (hl:(X.laid.all fun p=>Nat.blt p.1 S.N)=true) {Q:Value→List (Option AJ)→Prop} {R:A5→Prop} {Q':Value→AA→Prop}
 (hQ:∀v H,Q v ((ids++Ac 4 v).map H.get)→Q' v H) (hR:∀c,R c→Ai X S.N f Q' c):∀(n:Nat) (c:A5),LK X pf f ids S Q R n c→Ai X S.N f Q' c:=by
 intro n
 induction n with
 | zero=>intro c h;cases h
 | succ n ih=>
  intro c h
  have h:(match DR X f c with
   | some (v,H)=>Q v ((ids++Ac 4 v).map H.get)
   | none=>bif S.here c then(match S.can X c with
    | some c2=>R c2
    | none=>False)
    else Fk X pf c (LK X pf f ids S Q R n)):=h
  split at h
  ·rename_i v H e;exact BB.here ⟨v,H,e,hQ v H h⟩
  ·cases hs:S.here c
   ·simp only[hs,cond_false]at h
    exact BB.bind (Reach.GF (Ga hpf h)) fun c' hc=>ih c' hc
   ·simp only[hs,cond_true]at h
    split at h
    ·rename_i c2 hc
     unfold Stop.can at hc
     split at hc
     ·rename_i c1 h1
      cases hb:(Nat.ble S.N c1.H.next&&(S.ids c1).all (fun b=>Nat.blt b c1.H.next))
      ·simp only[hb,cond_false]at hc;cases hc
      ·simp only[hb,cond_true]at hc
       simp only[Bool.and_eq_true]at hb
       have hr:=Oc (X:=X) hl (Nat.le_of_ble_eq_true hb.1) hb.2 hc (hR c2 h)
       exact BB.bind (Reach.GF ((NI.step h1).reach (Φ:=fun c'=>c'=c1) rfl)) fun c' e=>e ▸ hr
     ·cases hc
    ·cases h
def At (X:Ctx) (N:Nat) (D:Nat→Prop) (f:FuncId) (Q:Value→AA→Prop) (c:A5):Prop:=
 ∀(base:Env) (W0:World),(∀b T,base.ar b=some T→b < N)→(∀b,D b→∃T,base.ar b=some T)→Dn X base W0→FF X→∀(cs0:List Frame) (μ:Ad) (fr:Frame) (cs:List Frame) (W:World),Hi X base W0 μ c fr cs W→
  ∃c',(∃v H v2 H2,DR X f c'=some (v,H)∧(∀μ1 W1 v',AH μ1 v v'→AP base W0 μ1 H W1→∃μ2,μ1.le μ2∧AP base W0 μ2 H2 W1∧AH μ2 v2 v')∧Q v2 H2)∧CW X base W0 cs0 c' (lone fr (cs++cs0) W)
theorem Ai.I3 {N:Nat} {D:Nat→Prop} {f:FuncId} {Q:Value→AA→Prop} {c:A5} (h:Ai X N f Q c):At X N D f Q c:=by
 intro base W0 hb _ hok hplan cs0 μ fr cs W hm
 obtain⟨c',⟨v,H,h1,h2⟩,h3⟩:=h base W0 hb hok hplan cs0 μ fr cs W hm
 exact⟨c',⟨v,H,v,H,h1,fun μ1 _ _ g h=>⟨μ1,Ad.le_refl _,h,g⟩,h2⟩,h3⟩
theorem At.mono {N:Nat} {D:Nat→Prop} {f:FuncId} {Q Q':Value→AA→Prop} {c:A5} (h:At X N D f Q c) (hi:∀v H,Q v H→Q' v H):At X N D f Q' c:=by
 intro base W0 hb hD hok hplan cs0 μ fr cs W hm
 obtain⟨c',⟨v,H,v2,H2,h1,h2,h3⟩,h4⟩:=h base W0 hb hD hok hplan cs0 μ fr cs W hm
 exact⟨c',⟨v,H,v2,H2,h1,h2,hi v2 H2 h3⟩,h4⟩
theorem At.sub {N:Nat} {D D':Nat→Prop} {f:FuncId} {Q:Value→AA→Prop} {c:A5} (h:At X N D f Q c) (hs:∀b,D b→D' b):At X N D' f Q c:=
 fun base W0 hb hD=>h base W0 hb fun b hb'=>hD b (hs b hb')
end
end Go.AD

namespace Go.AD
def H4:AJ→AJ
 | .cells cs e _=> .cells cs e true
 | .vec k l _=> .vec k l true
 | .abs a _=> .abs a true
 | o=>o
theorem P5 {μ:Ad} {T:Bv} {o:AJ} {o':Obj} (h:Cb μ T o o'):Cb μ T (H4 o) o':=by
 cases h with
 | cells cs e ro c t lo hi he hc hr hf=>exact .cells T cs e true c t lo hi he hc hr (fun e=>by cases e)
 | loop l a R ht hd=>exact .loop T l a R ht hd
 | DA=>exact .DA T
 | deferred l l' h=>exact .deferred T l l' h
 | CP s p hd=>exact .CP T s p hd
 | map es es' clock h=>exact .map T es es' clock h
 | vec k l ro o h=>
  refine .vec T k l true o' ?_
  cases h with
  | cells cs e ro c t lo hi he hc hr hf=>exact .cells T _ _ true c t lo hi he hc hr (fun e=>by cases e)
 | EG k ro o he hr hk=>exact .EG T k true o' he hr hk
 | abs a ro o=>exact .abs T a true o'
theorem Nv {o:AJ} {T:Bv}:(H4 o).void T ↔ o.void T:=by
 cases o with
 | abs a ro=>cases a<;>exact Iff.rfl
 | _=>exact Iff.rfl
theorem Gx {ρ:Ren} {o o1:AJ} (h:BN ρ o=some o1∨(o.ro=true∧BN ρ o=some (H4 o1))) (T:Bv):o1.void T ↔ o.void T:=by
 rcases h with h | ⟨_,h⟩
 ·exact Bp h T
 ·exact Nv.symm.trans (Bp h T)
theorem OS {ρ:Ren} {o o1:AJ} (h:BN ρ o=some o1∨(o.ro=true∧BN ρ o=some (H4 o1))) (h2:o.ro=false):o1.ro=false:=by
 rcases h with h | ⟨h,_⟩
 ·rw[(C4 h).1];exact h2
 ·rw[h2]at h;cases h
theorem FR {ρ:Ren} {a:AX} {ro:Bool} {o1:AJ} (h:BN ρ (.abs a ro)=some o1):o1= .abs a ro∧a.ext=[]:=by
 simp only[BN]at h
 cases hx:a.Fv
 ·simp[hx]at h
 ·simp only[hx,cond_true,Option.some.injEq]at h
  exact⟨h.symm,AX.Mt hx⟩
theorem Px {ρ:Ren} {a:AX} {ro:Bool} {o1:AJ} (h:BN ρ (.abs a ro)=some o1∨((AJ.abs a ro).ro=true∧BN ρ (.abs a ro)=some (H4 o1))):(∃ro1,o1= .abs a ro1)∧a.ext=[]:=by
 rcases h with h | ⟨_,h⟩
 ·obtain⟨rfl,hx⟩:=FR h
  exact⟨⟨ro,rfl⟩,hx⟩
 ·obtain⟨h,hx⟩:=FR h
  cases o1<;>simp only[H4,reduceCtorEq]at h
  cases h
  exact⟨⟨_,rfl⟩,hx⟩
theorem Sa {ρ:Ren} {o o1:AJ} (h:BN ρ o=some o1∨(o.ro=true∧BN ρ o=some (H4 o1))):o1.isAbs=o.isAbs:=by
 rcases h with h | ⟨_,h⟩
 ·exact(C4 h).2.1
 ·have:=(C4 h).2.1
  rw[←this]
  cases o1<;>rfl
open Classical in
theorem ec {X:Ctx} {base:Env} {W0:World} {μ:Ad} {H:AA} {W:World}
 (hok:∀b W0,DX X b W0→Dn X b W0) (hplan:FF X) (hW:DX X base W0) (hH:AP base W0 μ H W) (hlaid:Bb X μ)
 {f:FuncId} {n:Nat} {code:Code} (he:entry X.P f=some (n,code)) {Hc H':AA} {argsc args:List Value} {args':Array Value} {ρ:Ren} {v:Value}
 (hn:argsc.length≤n) (hargs:C7 (E9 ρ) argsc=some args) (ha:A2 μ args args'.toList)
 (hlt:∀b i,ρ b=some i→b < Hc.next) (hdom:∀b i,ρ b=some i→∃T,μ i=some T) (hinj0:∀b1 b2 i,ρ b1=some i→ρ b2=some i→b1=b2) (hnext:H.next≤H'.next)
 (hlr:∀g,X.laid.any (fun p=>Nat.beq g p.1)=true→ρ g=some g)
 (hobj:∀b o,Hc.get b=some o→∃i o1,ρ b=some i∧H.get i=some o1∧(BN ρ o=some o1∨(o.ro=true∧BN ρ o=some (H4 o1))))
 (k1:∀i,i < H.next→(∀b o,Hc.get b=some o→o.ro=false→ρ b≠some i)→H'.get i=H.get i)
 (k3:∀i,H'.next≤i→H'.get i=none)
 (hrun:At X Hc.next (fun b=>∃i,ρ b=some i) f (fun vc Hf=>aF Hc H H' ρ v vc Hf) (GO f (CQ 0 argsc .leaf) n code Hc)):
 Calls X.P f args' W fun e W'=>∃v' μ',e= .returned v'∧AP base W0 μ' H' W'∧AH μ' v v'∧Af μ H μ' H':=by
 obtain⟨φ,q⟩:=hH.abs
 have hex:∀b o,Hc.get b=some o→o.ro=false→∃i o1,ρ b=some i∧H.get i=some o1∧BN ρ o=some o1:=by
  intro b o hb hr
  obtain⟨i,o1,g1,g2,g3⟩:=hobj b o hb
  rcases g3 with g3 | ⟨g3,_⟩
  ·exact⟨i,o1,g1,g2,g3⟩
  ·rw[hr]at g3;cases g3
 have hiN:∀b i,ρ b=some i→i < H.next:=fun b i hb=>let ⟨_,hT⟩:=hdom b i hb;hH.Mz hT
 have hfree:∀b,Hc.next≤b→Hc.get b=none:=by
  intro b hb
  cases hg:Hc.get b with
  | none=>rfl
  | some o=>obtain⟨i,_,h1,_⟩:=hobj b o hg;have:=hlt b i h1;omega
 let μc:Ad:=fun b=>(ρ b).bind μ
 have hμc:∀b i T,ρ b=some i→μ i=some T→μc b=some T:=fun b i T h1 h2=>by show(ρ b).bind μ=_;rw[h1];exact h2
 have hμc':∀b T,μc b=some T→∃i,ρ b=some i∧μ i=some T:=by
  intro b T h
  have h:(ρ b).bind μ=some T:=h
  cases hb:ρ b with
  | none=>rw[hb]at h;cases h
  | some i=>rw[hb]at h;exact⟨i,rfl,h⟩
 have hbw:∀b i T,ρ b=some i→μ i=some T→μc b=some T:=hμc
 let Own:Nat→Prop:=fun i=>(∃b o j T,Hc.get b=some o∧o.ro=false∧ρ b=some j∧μ j=some T∧¬o.void T∧i=T.c)∨(∃b a j,Hc.get b=some (.abs a false)∧ρ b=some j∧φ j i)
 let Ec:Env:={ base with K:=fun i=>i < W.heap.size∧¬Own i,ar:=μc }
 have hownK:∀i,Own i→¬base.K i:=by
  rintro i (⟨b,o,j,T,h1,h2,h3,h4,hv,rfl⟩ | ⟨b,a,j,h1,h2,h3⟩) hk
  ·obtain⟨i2,o1,g1,g2,g3⟩:=hex b o h1 h2
   rw[h3]at g1;cases g1
   exact hH.own _ o1 g2 (by rw[(C4 g3).1];exact h2) T h4 (fun hw=>hv ((Bp g3 T).1 hw)) hk
  ·obtain⟨i2,o1,g1,g2,g3⟩:=hex b _ h1 rfl
   rw[h2]at g1;cases g1
   obtain⟨rfl,_⟩:=FR g3
   obtain⟨T,hT⟩:=hdom _ _ h2
   exact(q.rep _ a false T g2 hT).2 rfl i h3 hk
 have hHc:AP Ec W μc Hc W:=by
  refine⟨?_,?_,?_,?_,?_,fun i hi=>hi.1,fun _ _=>rfl,rfl,rfl,?_,Ad.le_refl _,Nat.le_refl _⟩
  ·intro b o hb T hT
   obtain⟨i,o1,g1,g2,g3⟩:=hobj b o hb
   obtain⟨i2,e1,e2⟩:=hμc' b T hT
   rw[g1]at e1;cases e1
   obtain⟨o',r1,r2⟩:=hH.obj _ o1 g2 T e2
   rcases g3 with g3 | ⟨_,g3⟩
   ·exact⟨o',r1,M1 hbw g3 r2⟩
   ·exact⟨o',r1,M1 hbw g3 (P5 r2)⟩
  ·intro b o hb hr T hT hv hk
   obtain⟨i2,e1,e2⟩:=hμc' b T hT
   exact hk.2 (.inl ⟨b,o,i2,T,hb,hr,e1,e2,hv,rfl⟩)
  ·intro b1 b2 o1 o2 h1 h2 T1 T2 m1 m2 v1 v2 hc hrr
   obtain⟨i1,e1,e2⟩:=hμc' b1 T1 m1
   obtain⟨i2,e3,e4⟩:=hμc' b2 T2 m2
   obtain⟨j1,p1,g1,g2,w1⟩:=hobj b1 o1 h1
   obtain⟨j2,p2,g3,g4,w2⟩:=hobj b2 o2 h2
   rw[e1]at g1;cases g1
   rw[e3]at g3;cases g3
   have:=hH.inj _ _ _ _ g2 g4 T1 T2 e2 e4 (fun hw=>v1 ((Gx w1 T1).1 hw)) (fun hw=>v2 ((Gx w2 T2).1 hw)) hc (hrr.imp (OS w1) (OS w2))
   subst this
   exact hinj0 b1 b2 _ e1 e3
  ·intro b hb
   refine⟨hfree b hb,?_⟩
   cases hm:μc b with
   | none=>rfl
   | some T=>obtain⟨i,e1,_⟩:=hμc' b T hm;have:=hlt _ _ e1;omega
  ·intro b T hT
   obtain⟨i,_,e2⟩:=hμc' b T hT
   exact hH.bound i T e2
  ·refine⟨fun b=>match ρ b with | some j=>φ j | none=>fun _=>False,?_,?_⟩
   ·intro b a ro T hb hT
    obtain⟨i,o1,g1,g2,g3⟩:=hobj b _ hb
    obtain⟨i2,e1,e2⟩:=hμc' b T hT
    rw[g1]at e1;cases e1
    obtain⟨⟨ro1,ho1⟩,hext⟩:=Px g3
    subst ho1
    obtain⟨r1,_⟩:=q.rep _ a ro1 T g2 e2
    simp only[g1]
    refine⟨r1.closed _ hext,fun hro i hi hk=>hk.2 (.inr ⟨b,a,_,by rw[←hro];exact hb,g1,hi⟩)⟩
   ·intro b a ro T hb hT b2 o2 T2 hb2 hT2 hne
    obtain⟨i,o1,g1,g2,g3⟩:=hobj b _ hb
    obtain⟨i2,e1,e2⟩:=hμc' b T hT
    rw[g1]at e1;cases e1
    obtain⟨⟨ro1,ho1⟩,hext⟩:=Px g3
    subst ho1
    obtain⟨j,p1,g4,g5,g6⟩:=hobj b2 _ hb2
    obtain⟨j2,e3,e4⟩:=hμc' b2 T2 hT2
    rw[g4]at e3;cases e3
    have hne2:j≠i:=by
     rintro rfl
     exact hne (hinj0 b2 b _ g4 g1)
    simp only[g1,g4]
    obtain⟨r1,r2⟩:=q.D2 _ a ro1 T g2 e2 _ p1 T2 g5 e4 hne2
    exact⟨fun hv2=>r1 (fun hw=>hv2 ((Gx g6 T2).1 hw)),fun ea=>r2 (by rw[Sa g6];exact ea)⟩
 have hlc:Bb X μc:=by
  intro g hg
  obtain⟨T,h1,h2⟩:=hlaid g hg
  exact⟨T,hμc g g T (hlr g hg) h1,h2⟩
 have hWc:DX X Ec W:=by
  refine⟨hW.1,fun p hp=>?_⟩
  obtain⟨h1,a,t,fz,h3,h4⟩:=hW.2 p hp
  exact⟨⟨hH.size _ h1,fun ho=>hownK _ ho h1⟩,a,t,fz,by rw[hH.below _ h1];exact h3,h4⟩
 have hac:A2 μc argsc args'.toList:=E1 (PC hbw 6) _ _ _ hargs ha
 intro cs
 obtain⟨c',⟨vc0,Hf0,vc,Hf,hd,hshut,ρ',hinj,hold,hnew,k2,hv⟩,μ0,fr1,cs1,W1,s1,m1⟩:=hrun Ec W (fun b T hT=>by obtain⟨i,h1,_⟩:=hμc' b T hT;exact hlt _ _ h1) (fun b ⟨i,hi⟩=>by obtain⟨T,hT⟩:=hdom b i hi;exact⟨T,hμc b i T hi hT⟩) (hok Ec W hWc) hplan cs μc _ [] W (Fb hHc hlc he hac hn)
 obtain⟨rfl,hf,v',h1,h2o,h3o⟩:=Gp m1 hd
 obtain⟨μ1,_,h2,h3⟩:=hshut _ _ _ h3o h2o
 have hs':Steps X.P (lone (Frame.enter X.P f args' .normal) cs W) (lone fr1 cs W1):=by simpa using s1
 refine⟨.returned v',W1,fr1,?_,hs',hf,h1⟩
 have hle1:μc.le μ1:=h2.le
 let μ':Ad:=fun i=>if i < H.next then μ i else if hx:∃b,ρ' b=some i∧Hc.next≤b then μ1 hx.choose else none
 have hμold:∀i,i < H.next→μ' i=μ i:=fun i hi=>by show(if _ then _ else _)=_;rw[if_pos hi]
 have hμnew:∀b i,ρ' b=some i→Hc.next≤b→μ' i=μ1 b:=by
  intro b i hb hge
  have hi:=hnew b i hb hge
  show(if i < H.next then μ i else if hx:∃b,ρ' b=some i∧Hc.next≤b then μ1 hx.choose else none)=_
  rw[if_neg (by omega)]
  have hx:∃b,ρ' b=some i∧Hc.next≤b:=⟨b,hb,hge⟩
  rw[dif_pos hx,hinj _ b i hx.choose_spec.1 hb]
 have hμno:∀i,H.next≤i→(¬∃b,ρ' b=some i∧Hc.next≤b)→μ' i=none:=by
  intro i hi hx
  show(if i < H.next then μ i else if hx:∃b,ρ' b=some i∧Hc.next≤b then μ1 hx.choose else none)=_
  rw[if_neg (by omega),dif_neg hx]
 have hle:μ.le μ':=fun i T hT=>by rw[hμold i (hH.Mz hT)];exact hT
 have hfw:∀b i T,ρ' b=some i→μ1 b=some T→μ' i=some T:=by
  intro b i T hb hT
  rcases Nat.lt_or_ge b Hc.next with hlt' | hge
  ·rw[hold b hlt']at hb
   obtain⟨T0,hT0⟩:=hdom b i hb
   have:=hle1 b T0 (hμc b i T0 hb hT0)
   rw[hT]at this;cases this
   exact hle i T hT0
  ·rw[hμnew b i hb hge];exact hT
 have hsrc:∀i o T,H'.get i=some o→μ' i=some T→(∃b o0,ρ' b=some i∧Hf.get b=some o0∧BN ρ' o0=some o∧o0.ro=false∧μ1 b=some T)∨
  (i < H.next∧H.get i=some o∧μ i=some T∧∀b o,Hc.get b=some o→o.ro=false→ρ b≠some i):=by
  intro i o T hi hT
  by_cases hc:H.next≤i∨∃b o0,Hc.get b=some o0∧o0.ro=false∧ρ b=some i
  ·obtain⟨b,o0,g1,g2,g3,g4⟩:=k2 i o hi hc
   refine .inl ⟨b,o0,g1,g2,g3,g4,?_⟩
   rcases Nat.lt_or_ge b Hc.next with hlt' | hge
   ·have g1':=g1
    rw[hold b hlt']at g1'
    have hiN':=hiN b i g1'
    rw[hμold i hiN']at hT
    exact hle1 b T (hμc b i T g1' hT)
   ·rw[←hμnew b i g1 hge];exact hT
  ·have hi1:i < H.next:=by
    rcases Nat.lt_or_ge i H.next with hh | hh
    ·exact hh
    ·exact absurd (.inl hh) hc
   have hnb:∀b o,Hc.get b=some o→o.ro=false→ρ b≠some i:=fun b o g1 g2 g3=>hc (.inr ⟨b,o,g1,g2,g3⟩)
   rw[k1 i hi1 hnb]at hi
   rw[hμold i hi1]at hT
   exact .inr ⟨hi1,hi,hT,hnb⟩
 have hkept:∀i o T,i < H.next→H.get i=some o→μ i=some T→¬o.void T→(∀b o,Hc.get b=some o→o.ro=false→ρ b≠some i)→Ec.K T.c:=by
  intro i o T hi ho hT hvo hnb
  refine⟨hH.bound i T hT,?_⟩
  rintro(⟨b,o2,j,T2,g1,g2,g3,g4,gv,g5⟩ | ⟨b,a,j,g1,g2,g3⟩)
  ·obtain⟨j2,p,e1,e2,e3⟩:=hobj b o2 g1
   rw[g3]at e1;cases e1
   have:=hH.inj i j _ _ ho e2 T T2 hT g4 hvo (fun hw=>gv ((Gx e3 T2).1 hw)) g5 (.inr (OS e3 g2))
   subst this
   exact hnb b o2 g1 g2 g3
  ·obtain⟨j2,p,e1,e2,e3⟩:=hex b _ g1 rfl
   rw[g2]at e1;cases e1
   obtain⟨rfl,_⟩:=FR e3
   obtain⟨T2,hT2⟩:=hdom _ _ g2
   have hne:i≠j:=by rintro rfl;exact hnb b _ g1 rfl g2
   exact(q.D2 j a false T2 e2 hT2 i o T ho hT hne).1 hvo g3
 have hnotK:∀b o T,Hf.get b=some o→o.ro=false→μ1 b=some T→¬o.void T→¬base.K T.c:=by
  intro b o T g1 g2 g3 gv hk
  have:=h2.own b o g1 g2 T g3 gv
  refine this ⟨hH.size _ hk,fun ho=>hownK _ ho hk⟩
 obtain⟨φ1,q1⟩:=h2.abs
 have hphiK:∀i a ro T,H.get i=some (.abs a ro)→μ i=some T→(∀b o,Hc.get b=some o→o.ro=false→ρ b≠some i)→∀j,φ i j→Ec.K j:=by
  intro i a ro T ho hT hnb j hj
  have hr:=(q.rep i a ro T ho hT).1
  refine⟨(Cx.GB _ _ _ _ hr).2 j hj,?_⟩
  rintro(⟨b,o2,j2,T2,g1,g2,g3,g4,gv,rfl⟩ | ⟨b,a2,j2,g1,g2,g3⟩)
  ·obtain⟨j3,p,e1,e2,e3⟩:=hobj b o2 g1
   rw[g3]at e1;cases e1
   have hne:j2≠i:=by rintro rfl;exact hnb b o2 g1 g2 g3
   exact(q.D2 i a ro T ho hT j2 p T2 e2 g4 hne).1 (fun hw=>gv ((Gx e3 T2).1 hw)) hj
  ·obtain⟨j3,p,e1,e2,e3⟩:=hex b _ g1 rfl
   rw[g2]at e1;cases e1
   obtain⟨rfl,_⟩:=FR e3
   obtain⟨T2,hT2⟩:=hdom _ _ g2
   have hne:j2≠i:=by rintro rfl;exact hnb b _ g1 rfl g2
   exact(q.D2 i a ro T ho hT j2 _ T2 e2 hT2 hne).2 rfl j hj g3
 refine⟨v',μ',rfl,⟨?_,?_,?_,?_,?_,?_,?_,?_,?_,?_,?_,?_⟩,PG hfw 6 _ _ _ hv h3,hle,hnext,?_⟩
 ·intro i o hi T hT
  rcases hsrc i o T hi hT with⟨b,o0,g1,g2,g3,g4,g5⟩ | ⟨g1,g2,g3,g4⟩
  ·obtain⟨o',r1,r2⟩:=h2.obj b o0 g2 T g5
   exact⟨o',r1,Ps hfw g3 r2⟩
  ·obtain⟨o',r1,r2⟩:=Cb.O4 (W':=W1) (hH.obj i o g2 T g3) h2.grow (fun hv=>h2.below _ (hkept i o T g1 g2 g3 hv g4))
   exact⟨o',r1,r2.mono hle⟩
 ·intro i o hi hr T hT hv
  rcases hsrc i o T hi hT with⟨b,o0,g1,g2,g3,g4,g5⟩ | ⟨g1,g2,g3,g4⟩
  ·exact hnotK b o0 T g2 g4 g5 (fun hw=>hv ((Bp g3 T).2 hw))
  ·exact hH.own i o g2 hr T g3 hv
 ·intro i1 i2 o1 o2 e1 e2 T1 T2 m1 m2 v1 v2 hc hrr
  rcases hsrc i1 o1 T1 e1 m1 with⟨b1,p1,g1,g2,g3,g4,g5⟩ | ⟨g1,g2,g3,g4⟩<;>rcases hsrc i2 o2 T2 e2 m2 with⟨b2,p2,f1,f2,f3,f4,f5⟩ | ⟨f1,f2,f3,f4⟩
  ·have:=h2.inj b1 b2 _ _ g2 f2 T1 T2 g5 f5 (fun hw=>v1 ((Bp g3 T1).2 hw)) (fun hw=>v2 ((Bp f3 T2).2 hw)) hc (.inl g4)
   subst this
   rw[g1]at f1;cases f1;rfl
  ·exact absurd (hc ▸ hkept i2 o2 T2 f1 f2 f3 v2 f4) (h2.own b1 p1 g2 g4 T1 g5 (fun hw=>v1 ((Bp g3 T1).2 hw)))
  ·exact absurd (hc ▸ hkept i1 o1 T1 g1 g2 g3 v1 g4) (h2.own b2 p2 f2 f4 T2 f5 (fun hw=>v2 ((Bp f3 T2).2 hw)))
  ·exact hH.inj i1 i2 _ _ g2 f2 T1 T2 g3 f3 v1 v2 hc hrr
 ·intro i hi
  refine⟨k3 i hi,hμno i (by omega) ?_⟩
  rintro⟨b,g1,g2⟩
  have:=(hnew b i g1 g2).2
  omega
 ·intro i T hT
  rcases Nat.lt_or_ge i H.next with hh | hh
  ·rw[hμold i hh]at hT
   have:=hH.bound i T hT
   have:=h2.grow
   omega
  ·by_cases hx:∃b,ρ' b=some i∧Hc.next≤b
   ·obtain⟨b,g1,g2⟩:=hx
    rw[hμnew b i g1 g2]at hT
    exact h2.bound b T hT
   ·rw[hμno i hh hx]at hT;cases hT
 ·intro i hi;have:=hH.size i hi;have:=h2.grow;omega
 ·intro i hi
  rw[h2.below i ⟨hH.size i hi,fun ho=>hownK i ho hi⟩]
  exact hH.below i hi
 ·rw[h2.out];exact hH.out
 ·rw[h2.os];exact hH.os
 ·let C:Nat→Nat→Prop:=fun b i=>ρ' b=some i∧(H.next≤i∨∃o1,Hc.get b=some o1∧o1.ro=false)
  let φ':Nat→Nat→Prop:=fun i j=>(∃b,C b i∧φ1 b j)∨((¬∃b,C b i)∧φ i j)
  have hCin:∀b i,C b i→φ' i=φ1 b:=by
   intro b i hb
   funext j
   refine propext ⟨?_,fun hj=> .inl ⟨b,hb,hj⟩⟩
   rintro(⟨b2,g1,g2⟩ | ⟨g1,_⟩)
   ·rw[hinj b b2 i hb.1 g1.1];exact g2
   ·exact absurd ⟨b,hb⟩ g1
  have hCout:∀i,i < H.next→(∀b o,Hc.get b=some o→o.ro=false→ρ b≠some i)→φ' i=φ i:=by
   intro i hi hnb
   have hno:¬∃b,C b i:=by
    rintro⟨b,g1,g2 | ⟨o1,g2,g3⟩⟩
    ·omega
    ·obtain⟨i2,_,e1,_⟩:=hobj b o1 g2
     rw[hold b (hlt _ _ e1)]at g1
     exact hnb b o1 g2 g3 g1
   funext j
   refine propext ⟨?_,fun hj=> .inr ⟨hno,hj⟩⟩
   rintro(⟨b2,g1,g2⟩ | ⟨_,g2⟩)
   ·exact absurd ⟨b2,g1⟩ hno
   ·exact g2
  have hsrc2:∀i o T,H'.get i=some o→μ' i=some T→(∃b o0,C b i∧Hf.get b=some o0∧BN ρ' o0=some o∧o0.ro=false∧μ1 b=some T)∨
   (i < H.next∧H.get i=some o∧μ i=some T∧∀b o,Hc.get b=some o→o.ro=false→ρ b≠some i):=by
   intro i o T hi hT
   rcases hsrc i o T hi hT with⟨b,o0,g1,g2,g3,g4,g5⟩ | h
   ·by_cases hc:H.next≤i∨∃b o0,Hc.get b=some o0∧o0.ro=false∧ρ b=some i
    ·refine .inl ⟨b,o0,⟨g1,?_⟩,g2,g3,g4,g5⟩
     rcases hc with hc | ⟨b2,o2,e1,e2,e3⟩
     ·exact .inl hc
     ·have:b=b2:=hinj b b2 i g1 (by rw[hold b2 (hlt _ _ e3)];exact e3)
      subst this
      exact .inr ⟨o2,e1,e2⟩
    ·have hi1:i < H.next:=by
      rcases Nat.lt_or_ge i H.next with hh | hh
      ·exact hh
      ·exact absurd (.inl hh) hc
     have hnb:∀b o,Hc.get b=some o→o.ro=false→ρ b≠some i:=fun b o g1 g2 g3=>hc (.inr ⟨b,o,g1,g2,g3⟩)
     rw[k1 i hi1 hnb]at hi
     rw[hμold i hi1]at hT
     exact .inr ⟨hi1,hi,hT,hnb⟩
   ·exact .inr h
  refine⟨φ',?_,?_⟩
  ·intro i a ro T hi hT
   rcases hsrc2 i _ T hi hT with⟨b,o0,g1,g2,g3,g4,g5⟩ | ⟨g1,g2,g3,g4⟩
   ·obtain⟨e0,hext⟩:=(C4 g3).2.2 a ro rfl
    subst e0
    obtain⟨r1,r2⟩:=q1.rep b a ro T g2 g5
    rw[hCin b i g1]
    exact⟨r1.closed _ hext,fun hro j hj hk=>r2 hro j hj ⟨hH.size j hk,fun ho=>hownK j ho hk⟩⟩
   ·obtain⟨r1,r2⟩:=q.rep i a ro T g2 g3
    rw[hCout i g1 g4]
    exact⟨(Cx.loc _ _ _ _ _ h2.grow r1 (fun j hj=>h2.below j (hphiK i a ro T g2 g3 g4 j hj))).mono hle,r2⟩
  ·intro i a ro T hi hT i2 o2 T2 hi2 hT2 hne
   rcases hsrc2 i _ T hi hT with⟨b,o0,g1,g2,g3,g4,g5⟩ | ⟨g1,g2,g3,g4⟩<;>rcases hsrc2 i2 _ T2 hi2 hT2 with⟨b2,p0,f1,f2,f3,f4,f5⟩ | ⟨f1,f2,f3,f4⟩
   ·obtain⟨e0,hext⟩:=(C4 g3).2.2 a ro rfl
    subst e0
    rw[hCin b i g1,hCin b2 i2 f1]
    have hbn:b2≠b:=by
     rintro rfl
     have:=g1.1
     rw[f1.1]at this
     cases this;exact hne rfl
    obtain⟨r1,r2⟩:=q1.D2 b a ro T g2 g5 b2 p0 T2 f2 f5 hbn
    exact⟨fun hv2=>r1 (fun hw=>hv2 ((Bp f3 T2).2 hw)),fun ea=>r2 (by rw[←(C4 f3).2.1];exact ea)⟩
   ·obtain⟨e0,hext⟩:=(C4 g3).2.2 a ro rfl
    subst e0
    rw[hCin b i g1,hCout i2 f1 f4]
    have hnk:=(q1.rep b a ro T g2 g5).2 g4
    refine⟨fun hv2 hc=>hnk _ hc (hkept i2 o2 T2 f1 f2 f3 hv2 f4),fun ea j hj hj2=>?_⟩
    obtain⟨a2,ro2,rfl⟩:=DF ea
    exact hnk _ hj (hphiK i2 a2 ro2 T2 f2 f3 f4 j hj2)
   ·rw[hCout i g1 g4,hCin b2 i2 f1]
    refine⟨fun hv2 hc=>h2.own b2 p0 f2 f4 T2 f5 (fun hw=>hv2 ((Bp f3 T2).2 hw)) (hphiK i a ro T g2 g3 g4 _ hc),fun ea j hj hj2=>?_⟩
    have ea0:p0.isAbs=true:=by rw[←(C4 f3).2.1];exact ea
    obtain⟨a2,ro2,rfl⟩:=DF ea0
    exact(q1.rep b2 a2 ro2 T2 f2 f5).2 f4 j hj2 (hphiK i a ro T g2 g3 g4 _ hj)
   ·rw[hCout i g1 g4,hCout i2 f1 f4]
    exact q.D2 i a ro T g2 g3 i2 o2 T2 f2 f3 hne
 ·exact Ad.le_trans hH.le hle
 ·have:=hH.grow;have:=h2.grow;omega
 ·intro i hi hm
  refine⟨by rw[hμold i hi];exact hm,k1 i hi ?_⟩
  intro b o g1 g2 g3
  obtain⟨T,hT⟩:=hdom b i g3
  rw[hm]at hT;cases hT
end Go.AD

namespace Go.AD
def an (P:Program) (laid:List (Nat × List Value)):Ctx:=⟨P,laid,fun _=>none,JB P⟩
def Dr (P:Program) (laid:List (Nat × List Value)) (f:FuncId) (F:Ci):Prop:=
 (∃n c,entry P f=some (n,c))∧∀base W0 μ H W (args:List Value) (args':Array Value) v H',DX (an P laid) base W0→AP base W0 μ H W→Bb (an P laid) μ→A2 μ args args'.toList→F args H=some (v,H')→
  Calls P f args' W fun e W'=>∃v' μ',e= .returned v'∧AP base W0 μ' H' W'∧AH μ' v v'∧Af μ H μ' H'
noncomputable def TW:List (FuncId × Ci)→FuncId→Option Ci
 | [],_=>none
 | p::r,f=>bif Nat.beq p.1 f then some p.2 else TW r f
noncomputable def Cf (P:Program) (laid:List (Nat × List Value)) (fs:List (FuncId × Ci)):Ctx:=⟨P,laid,TW fs,JB P⟩
theorem UA:∀{fs:List (FuncId × Ci)} {f:FuncId} {F:Ci},TW fs f=some F→(f,F)∈fs:=by
 intro fs
 induction fs with
 | nil=>intro f F h;cases h
 | cons p r ih=>
  intro f F h
  unfold TW at h
  cases hb:Nat.beq p.1 f
  ·rw[hb]at h;exact List.mem_cons_of_mem _ (ih h)
  ·rw[hb]at h;cases h
   have:=Nat.eq_of_beq_eq_true hb
   rw[←this];simp
def Au (P:Program) (laid:List (Nat × List Value)) (fs:List (FuncId × Ci)):Prop:=∀p∈fs,Dr P laid p.1 p.2
theorem Au.nil (P:Program) (laid:List (Nat × List Value)):Au P laid []:=fun _ h=>by cases h
theorem Au.cons {P:Program} {laid:List (Nat × List Value)} {f:FuncId} {F:Ci} {fs:List (FuncId × Ci)} (h:Dr P laid f F) (h':Au P laid fs):Au P laid ((f,F)::fs):=by
 intro p hp
 rcases List.mem_cons.1 hp with rfl | hp
 ·exact h
 ·exact h' p hp
theorem Au.GC {P:Program} {laid:List (Nat × List Value)} {fs:List (FuncId × Ci)} (h:Au P laid fs) (base:Env) (W0:World) (hW:DX (Cf P laid fs) base W0):Dn (Cf P laid fs) base W0:=by
 intro f F hf
 have hp:=h _ (UA hf)
 exact⟨hp.1,fun μ H W args args' v H' hH hl ha hF=>hp.2 base W0 μ H W args args' v H' hW hH hl ha hF⟩
theorem Uo {P:Program} {laid:List (Nat × List Value)} {k:N7} (h:IN P laid k):Dr P laid k.f (RK k):=by
 refine⟨h.1,?_⟩
 intro base W0 μ H W args args' v H' hW hH hl ha hF
 unfold RK at hF
 cases hb:Hs (HZ 8) args k.args
 ·rw[hb]at hF;cases hF
 ·rw[hb]at hF;cases hF
  obtain rfl:=Gm (Qi 8) _ _ hb
  exact h.2 base W0 μ H W args' hW hH ha
end Go.AD

namespace Go.AD
inductive AV where
 | flat (v:Value)
 | row (k:EK) (l:List (EK.C k))
def argsAt:Nat→List AV→List Value
 | _,[]=>[]
 | n,.flat v::r=>v::argsAt n r
 | n,.row _ l::r=> .slice (some ⟨n,0,some 0⟩) l.length AE::argsAt (n+1) r
noncomputable def OP (H:AA) (ro:Bool):List (Σ k:EK,List (EK.C k))→AA
 | []=>H
 | ⟨k,l⟩::r=>OP (H.alloc (.vec k l ro)) ro r
inductive RV where
 | one (a:AV)
 | many (l:List AV)
inductive RT where
 | fail
 | ret (r:RV)
 | test (c:Bool) (a b:RT)
def RT.run:RT→Option RV
 | .fail=>none
 | .ret r=>some r
 | .test c a b=>bif c then a.run else b.run
def RT.TA:RT→(RV→Prop)→Prop
 | .fail,_=>False
 | .ret r,K=>K r
 | .test c a b,K=>bif c then a.TA K else b.TA K
theorem RT.Ff {K:RV→Prop}:∀{t:RT},t.TA K→∃r,t.run=some r∧K r
 | .fail,h=>by cases h
 | .ret r,h=>⟨r,rfl,h⟩
 | .test c a b,h=>by
  cases c
  ·exact RT.Ff (t:=b) h
  ·exact RT.Ff (t:=a) h
def RV.list:RV→List AV
 | .one a=>[a]
 | .many l=>l
def RV.val (n:Nat):RV→Value
 | .one a=>match argsAt n [a]with
  | [v]=>v
  | _=>Be
 | .many l=> .tuple ⟨argsAt n l⟩
def nodupB:List Nat→Bool
 | []=>true
 | b::r=> !(r.any (Nat.beq b))&&nodupB r
theorem Jr {ρ:Ren}:∀(n:Nat) (v:Value),Cd n v=true→Bm ρ n v=some v:=by
 intro n
 induction n with
 | zero=>intro v h;cases h
 | succ n ih=>
  have hl:∀l:List Value,l.all (Cd n)=true→C7 (Bm ρ n) l=some l:=by
   intro l
   induction l with
   | nil=>intro _;rfl
   | cons a l ihl=>
    intro h
    simp only[List.all_cons,Bool.and_eq_true]at h
    simp only[C7,ih a h.1,ihl h.2]
  intro v h
  cases v with
  | iface t v=>simp only[Cd]at h;simp only[Bm,ih v h,Option.map_some]
  | agg cs=>simp only[Cd]at h;simp only[Bm,hl _ h,Option.map_some]
  | tuple cs=>simp only[Cd]at h;simp only[Bm,hl _ h,Option.map_some]
  | pointer a=>cases a with
   | none=>rfl
   | some a=>simp[Cd]at h
  | slice a l c=>cases a with
   | none=>rfl
   | some a=>simp[Cd]at h
  | map a=>cases a with
   | none=>rfl
   | some a=>simp[Cd]at h
  | _=>first | rfl | (simp[Cd]at h)
def posOf (b:Nat):List Nat→Option Nat
 | []=>none
 | a::r=>if b=a then some 0 else(posOf b r).map (·+1)
theorem Jd {b:Nat}:∀{l:List Nat} {j:Nat},posOf b l=some j→l[j]? = some b
 | [],_,h=>by cases h
 | a::r,j,h=>by
  unfold posOf at h
  split at h
  ·rename_i e;cases h;rw[e];rfl
  ·obtain⟨q,h1,rfl⟩:=Option.map_eq_some_iff.1 h
   rw[List.getElem?_cons_succ]
   exact Jd h1
theorem Hr {b:Nat}:∀{l:List Nat} {j:Nat},l.Nodup→l[j]? = some b→posOf b l=some j
 | [],_,_,h=>by cases h
 | a::r,0,_,h=>by
  simp only[List.getElem?_cons_zero,Option.some.injEq]at h
  unfold posOf;rw[if_pos h.symm]
 | a::r,j+1,hn,h=>by
  simp only[List.getElem?_cons_succ]at h
  have hn:=List.nodup_cons.1 hn
  have hne:b≠a:=by rintro rfl;exact hn.1 (List.mem_of_getElem? h)
  unfold posOf;rw[if_neg hne,Hr hn.2 h];rfl
theorem Ty {l:List Nat} (hn:l.Nodup) {i j b:Nat} (h1:l[i]? = some b) (h2:l[j]? = some b):i=j:=by
 have e1:=Hr hn h1
 rw[Hr hn h2]at e1
 cases e1;rfl
end Go.AD

namespace Go.AD
structure US where
 v:Value
 MG:List (Option AJ)
 news:List AJ
inductive GT where
 | fail
 | ret (x:US)
 | test (c:Bool) (a b:GT)
 | ask (p:Prop) (a:GT)
open Classical in
noncomputable def GT.run:GT→Option US
 | .fail=>none
 | .ret x=>some x
 | .test c a b=>bif c then a.run else b.run
 | .ask p a=>if p then a.run else none
def GT.TA:GT→(US→Prop)→Prop
 | .fail,_=>False
 | .ret x,K=>K x
 | .test c a b,K=>bif c then a.TA K else b.TA K
 | .ask p a,K=>p∧a.TA K
theorem GT.Ff {K:US→Prop}:∀{t:GT},t.TA K→∃x,t.run=some x∧K x
 | .fail,h=>by cases h
 | .ret x,h=>⟨x,rfl,h⟩
 | .test c a b,h=>by
  cases c
  ·exact GT.Ff (t:=b) h
  ·exact GT.Ff (t:=a) h
 | .ask p a,h=>by
  obtain⟨x,h1,h2⟩:=GT.Ff (t:=a) h.2
  exact⟨x,by simp only[GT.run];rw[if_pos h.1];exact h1,h2⟩
def Kq (laid:List (Nat × List Value)) (N:Nat) (b:Nat):Option Nat:=bif Nat.blt b N&&laid.any (fun p=>Nat.beq b p.1)then some b else none
def EZ (laid:List (Nat × List Value)) (N:Nat) (bs:List Nat):Ren:=fun b=>bif Nat.blt b N then Kq laid N b else bs[b - N]?
def P3 (laid:List (Nat × List Value)) (N:Nat) (bs:List Nat):Ren:=fun b=>bif Nat.blt b N then Kq laid N b else RB b bs N
noncomputable def Ua (ρ:Ren) (H:AA):List Nat→Option (List AJ)
 | []=>some []
 | b::r=>match H.get b with
  | some o=>match BN ρ o,Ua ρ H r with
   | some o1,some l=>some (o1::l)
   | _,_=>none
  | none=>none
noncomputable def EJ:AJ→List Nat
 | .cells cs _ _=>cs.flatMap (Ac 4)
 | .vec [.tok] l _=>List.flatMap (Ac 4) l
 | _=>[]
noncomputable def Ah (H:AA) (N:Nat):Nat→List Nat→List Nat→List Nat
 | 0,_,seen=>seen
 | f+1,todo,seen=>match todo with
  | []=>seen
  | b::r=>bif Nat.blt b N||seen.any (Nat.beq b)then Ah H N f r seen else
   match H.get b with
   | some o=>Ah H N f (EJ o++r) (seen++[b])
   | none=>Ah H N f r seen
def Dw (muts:List Bool) (j:Nat):Bool:=muts.getD j false
def Fe (muts:List Bool):Nat→List AJ→List AJ
 | _,[]=>[]
 | j,o::r=>(bif Dw muts j then o else H4 o)::Fe muts (j+1) r
noncomputable def BF (H:AA):List AJ→AA
 | []=>H
 | o::r=>BF (H.alloc o) r
noncomputable def H8 (muts:List Bool) (H:AA):Nat→List Nat→Bool
 | _,[]=>true
 | j,b::r=>(bif Dw muts j then(match H.get b with | some o=> !o.ro | none=>false)else true)&&H8 muts H (j+1) r
noncomputable def Kp (ρ:Ren) (muts:List Bool) (H:AA):Nat→List Nat→List (Option AJ)→Option AA
 | _,[],_=>some H
 | j,b::r,os=>bif Dw muts j then
  match os with
  | some o::os=>match BN ρ o with
   | some o1=>bif o1.ro then none else Kp ρ muts (H.put b o1) (j+1) r os
   | none=>none
  | none::os=>Kp ρ muts (H.del b) (j+1) r os
  | []=>Kp ρ muts (H.del b) (j+1) r []
  else Kp ρ muts H (j+1) r os.tail
noncomputable def YQ (ρ:Ren) (H:AA):List AJ→Option AA
 | []=>some H
 | o::r=>match BN ρ o with
  | some o1=>bif o1.ro then none else YQ ρ (H.alloc o1) r
  | none=>none
def FH (laid:List (Nat × List Value)) (N:Nat) (bs:List Nat) (nx k:Nat):Ren:=EZ laid N (bs++(List.range k).map (nx+·))
noncomputable def PF (laid:List (Nat × List Value)) (N:Nat) (muts:List Bool) (bs:List Nat) (H:AA) (x:US):Option (Value × AA):=
 match E9 (FH laid N bs H.next x.news.length) x.v,Kp (FH laid N bs H.next x.news.length) muts H 0 bs x.MG with
 | some v,some H1=>match YQ (FH laid N bs H.next x.news.length) H1 x.news with
  | some H2=>some (v,H2)
  | none=>none
 | _,_=>none
noncomputable def Ay (laid:List (Nat × List Value)) (N:Nat) (muts:List Bool) (G:List Value→List AJ→GT):Ci:=fun args H=>
 match C7 (E9 (P3 laid N (Ah H N 200 (args.flatMap (Ac 4)) []))) args,Ua (P3 laid N (Ah H N 200 (args.flatMap (Ac 4)) [])) H (Ah H N 200 (args.flatMap (Ac 4)) [])with
 | some argsc,some objs=>bif H8 muts H 0 (Ah H N 200 (args.flatMap (Ac 4)) [])then
  match (G argsc objs).run with
  | some x=>PF laid N muts (Ah H N 200 (args.flatMap (Ac 4)) []) H x
  | none=>none
  else none
 | _,_=>none
noncomputable def Bh (laid:List (Nat × List Value)) (N:Nat) (muts:List Bool) (G:List Value→List AJ→GT):GP:=fun args H K=>
 match C7 (E9 (P3 laid N (Ah H N 200 (args.flatMap (Ac 4)) []))) args,Ua (P3 laid N (Ah H N 200 (args.flatMap (Ac 4)) [])) H (Ah H N 200 (args.flatMap (Ac 4)) [])with
 | some argsc,some objs=>bif H8 muts H 0 (Ah H N 200 (args.flatMap (Ac 4)) [])then
  (G argsc objs).TA fun x=>match PF laid N muts (Ah H N 200 (args.flatMap (Ac 4)) []) H x with
   | some (v,H')=>K v H'
   | none=>False
  else False
 | _,_=>False
theorem Ap {X:Ctx} {laid:List (Nat × List Value)} {f:FuncId} {N:Nat} {muts:List Bool} {G:List Value→List AJ→GT} (hX:X.GC f=some (Ay laid N muts G)) {args:List Value} {H:AA} {K:Value→AA→Prop} (h:Bh laid N muts G args H K):
 ∃v H',B5 X f args .normal H=some (v,H')∧K v H':=by
 unfold Bh at h
 split at h
 ·rename_i argsc objs h1 h2
  cases hm:H8 muts H 0 (Ah H N 200 (args.flatMap (Ac 4)) [])
  ·simp only[hm,cond_false]at h
  ·simp only[hm,cond_true]at h
   obtain⟨x,hx,h3⟩:=GT.Ff h
   split at h3
   ·rename_i v H' he
    refine⟨v,H',?_,h3⟩
    unfold B5
    simp only[hX]
    unfold Ay
    simp only[h1,h2,hm,cond_true,hx,he]
   ·cases h3
 ·cases h
def Ck (laid:List (Nat × List Value)) (N m:Nat) (muts:List Bool) (x:US) (v:Value) (Hf:AA):Prop:=
 ∃ns:List Nat,ns.Nodup∧(∀b∈ns,N+m≤b)∧ns.length=x.news.length∧E9 (HX laid N m ns) x.v=some v∧
  (∀(j b:Nat) (o:AJ),ns[j]? = some b→x.news[j]? = some o→∃o1,BN (HX laid N m ns) o=some o1∧Hf.get b=some o1)∧
  (∀(j:Nat) (o:AJ),j < m→Dw muts j=true→x.MG[j]? = some (some o)→∃o1,BN (HX laid N m ns) o=some o1∧Hf.get (N+j)=some o1)
where
 HX (laid:List (Nat × List Value)) (N m:Nat) (ns:List Nat):Ren:=fun b=>if b < N then Kq laid N b else if b < N+m then some b else ns[b - (N+m)]?
end Go.AD

namespace Go.AD
theorem Ez {f g:Value→Option Value} (h:∀v w,f v=some w→g w=some v):∀(l m:List Value),C7 f l=some m→C7 g m=some l
 | [],_,e=>by cases e;rfl
 | v::l,m,e=>by
  simp only[C7]at e
  split at e
  ·rename_i w k e1 e2
   cases e
   simp only[C7,h _ _ e1,Ez h l k e2]
  ·cases e
theorem Oy {σ τ:Ren} (h:∀b c,σ b=some c→τ c=some b):∀(n:Nat) (v w:Value),Bm σ n v=some w→Bm τ n w=some v:=by
 intro n
 induction n with
 | zero=>intro v w e;cases e
 | succ n ih=>
  intro v w e
  cases v with
  | bool b=>cases e;rfl
  | int k m=>cases e;rfl
  | float k m=>cases e;rfl
  | string s=>cases e;rfl
  | pointer a=>
   cases a with
   | none=>cases e;rfl
   | some a=>
    simp only[Bm,Option.map_eq_some_iff]at e
    obtain⟨a1,h1,rfl⟩:=e
    obtain⟨b,o,s,i,rfl,h2,rfl⟩:=Dg h1
    simp only[Bm,O2,h _ _ h2,Option.map_some]
  | slice a l c=>
   cases a with
   | none=>cases e;rfl
   | some a=>
    simp only[Bm,Option.map_eq_some_iff]at e
    obtain⟨a1,h1,rfl⟩:=e
    obtain⟨b,o,s,i,rfl,h2,rfl⟩:=Dg h1
    simp only[Bm,O2,h _ _ h2,Option.map_some]
  | map a=>
   cases a with
   | none=>cases e;rfl
   | some a=>
    simp only[Bm,Option.map_eq_some_iff]at e
    obtain⟨i,h1,rfl⟩:=e
    simp only[Bm,h _ _ h1,Option.map_some]
  | nilFunc=>cases e;rfl
  | nilIface=>cases e;rfl
  | iface t v=>
   simp only[Bm,Option.map_eq_some_iff]at e
   obtain⟨w1,h1,rfl⟩:=e
   simp only[Bm,ih _ _ h1,Option.map_some]
  | agg cs=>
   simp only[Bm,Option.map_eq_some_iff]at e
   obtain⟨l,h1,rfl⟩:=e
   simp only[Bm,Ez ih _ _ h1,Option.map_some]
  | tuple cs=>
   simp only[Bm,Option.map_eq_some_iff]at e
   obtain⟨l,h1,rfl⟩:=e
   simp only[Bm,Ez ih _ _ h1,Option.map_some]
  | func f xs ys=>
   cases f with
   | func f=>
    simp only[Bm]at e
    split at e
    ·rename_i a b e1 e2
     cases e
     simp only[Bm,Ez ih _ _ e1,Ez ih _ _ e2]
    ·cases e
   | _=>simp[Bm]at e
  | chan c=>
   cases c with
   | none=>simp[Bm]at e
   | some k=>
    cases k with
    | zero=>cases e;rfl
    | succ k=>simp[Bm]at e
  | _=>simp[Bm]at e
theorem P2 {σ τ:Ren} (h:∀b c,σ b=some c→τ c=some b) {o o1:AJ} (e:BN σ o=some o1):BN τ o1=some o:=by
 cases o with
 | cells cs k ro=>
  simp only[BN,Option.map_eq_some_iff]at e
  obtain⟨l,h1,rfl⟩:=e
  simp only[BN,Ez (Oy h 6) _ _ h1,Option.map_some]
 | vec k l ro=>
  rcases M9 e with⟨l2,l1,e2,h1,rfl⟩ | ⟨hk,rfl⟩
  ·cases e2
   exact Mc (Ez (Oy h 6) _ _ h1)
  ·exact HI _ hk _ _
 | abs a ro=>
  simp only[BN]at e
  cases hx:a.Fv
  ·simp[hx]at e
  ·simp only[hx,cond_true,Option.some.injEq]at e
   subst e
   simp only[BN,hx,cond_true]
 | _=>simp[BN]at e
theorem Ee {f g k:Value→Option Value} (h:∀v w,f v=some w→g w=k v):∀(l m:List Value),C7 f l=some m→C7 g m=C7 k l
 | [],_,e=>by cases e;rfl
 | v::l,m,e=>by
  simp only[C7]at e
  split at e
  ·rename_i w q e1 e2
   cases e
   simp only[C7,h _ _ e1,Ee h l q e2]
  ·cases e
theorem Mh {σ τ υ:Ren} (h:∀b c,σ b=some c→τ c=υ b):∀(n:Nat) (v w:Value),Bm σ n v=some w→Bm τ n w=Bm υ n v:=by
 intro n
 induction n with
 | zero=>intro v w e;cases e
 | succ n ih=>
  intro v w e
  cases v with
  | bool b=>cases e;rfl
  | int k m=>cases e;rfl
  | float k m=>cases e;rfl
  | string s=>cases e;rfl
  | pointer a=>
   cases a with
   | none=>cases e;rfl
   | some a=>
    simp only[Bm,Option.map_eq_some_iff]at e
    obtain⟨a1,h1,rfl⟩:=e
    obtain⟨b,o,s,i,rfl,h2,rfl⟩:=Dg h1
    simp only[Bm,O2,h _ _ h2]
  | slice a l c=>
   cases a with
   | none=>cases e;rfl
   | some a=>
    simp only[Bm,Option.map_eq_some_iff]at e
    obtain⟨a1,h1,rfl⟩:=e
    obtain⟨b,o,s,i,rfl,h2,rfl⟩:=Dg h1
    simp only[Bm,O2,h _ _ h2]
  | map a=>
   cases a with
   | none=>cases e;rfl
   | some a=>
    simp only[Bm,Option.map_eq_some_iff]at e
    obtain⟨i,h1,rfl⟩:=e
    simp only[Bm,h _ _ h1]
  | nilFunc=>cases e;rfl
  | nilIface=>cases e;rfl
  | iface t v=>
   simp only[Bm,Option.map_eq_some_iff]at e
   obtain⟨w1,h1,rfl⟩:=e
   simp only[Bm,ih _ _ h1]
  | agg cs=>
   simp only[Bm,Option.map_eq_some_iff]at e
   obtain⟨l,h1,rfl⟩:=e
   simp only[Bm,Ee ih _ _ h1]
  | tuple cs=>
   simp only[Bm,Option.map_eq_some_iff]at e
   obtain⟨l,h1,rfl⟩:=e
   simp only[Bm,Ee ih _ _ h1]
  | func f xs ys=>
   cases f with
   | func f=>
    simp only[Bm]at e
    split at e
    ·rename_i a b e1 e2
     cases e
     simp only[Bm,Ee ih _ _ e1,Ee ih _ _ e2]
    ·cases e
   | _=>simp[Bm]at e
  | chan c=>
   cases c with
   | none=>simp[Bm]at e
   | some k=>
    cases k with
    | zero=>cases e;rfl
    | succ k=>simp[Bm]at e
  | _=>simp[Bm]at e
theorem OD {σ τ υ:Ren} (h:∀b c,σ b=some c→τ c=υ b) {o o1:AJ} (e:BN σ o=some o1):BN τ o1=BN υ o:=by
 cases o with
 | cells cs k ro=>
  simp only[BN,Option.map_eq_some_iff]at e
  obtain⟨l,h1,rfl⟩:=e
  simp only[BN,Ee (Mh h 6) _ _ h1]
 | vec k l ro=>
  rcases M9 e with⟨l2,l1,e2,h1,rfl⟩ | ⟨hk,rfl⟩
  ·cases e2
   show(C7 (E9 τ) l1).map _=(C7 (E9 υ) l2).map _
   rw[Ee (Mh h 6) _ _ h1]
  ·rw[HI _ hk,HI _ hk]
 | abs a ro=>
  simp only[BN]at e
  cases hx:a.Fv
  ·simp[hx]at e
  ·simp only[hx,cond_true,Option.some.injEq]at e
   subst e
   simp only[BN,hx,cond_true]
 | _=>simp[BN]at e
theorem KQ {ρ:Ren} {o o1:AJ} (h:BN ρ o=some o1):BN ρ (H4 o)=some (H4 o1)∧(H4 o).ro=true:=by
 cases o with
 | cells cs k ro=>
  simp only[BN,Option.map_eq_some_iff]at h
  obtain⟨l,h1,rfl⟩:=h
  exact⟨by simp only[H4,BN,h1,Option.map_some],rfl⟩
 | vec k l ro=>
  rcases M9 h with⟨l2,l1,e2,h1,rfl⟩ | ⟨hk,rfl⟩
  ·cases e2
   exact⟨Mc h1,rfl⟩
  ·exact⟨HI _ hk _ _,rfl⟩
 | abs a ro=>
  simp only[BN]at h
  cases hx:a.Fv
  ·simp[hx]at h
  ·simp only[hx,cond_true,Option.some.injEq]at h
   subst h
   exact⟨by simp only[H4,BN,hx,cond_true],rfl⟩
 | _=>simp[BN]at h
section
variable {laid:List (Nat × List Value)} {N:Nat} {bs:List Nat}
theorem Lu {b i:Nat} (h:Kq laid N b=some i):i=b∧b < N∧laid.any (fun p=>Nat.beq b p.1)=true:=by
 unfold Kq at h
 cases hc:(Nat.blt b N&&laid.any (fun p=>Nat.beq b p.1))
 ·simp only[hc,cond_false]at h;cases h
 ·simp only[hc,cond_true,Option.some.injEq]at h
  simp only[Bool.and_eq_true]at hc
  exact⟨h.symm,Nat.le_of_ble_eq_true hc.1,hc.2⟩
theorem H9 {b:Nat} (h:b < N):EZ laid N bs b=Kq laid N b:=by
 unfold EZ
 rw[show Nat.blt b N=true from Nat.ble_eq_true_of_le h];rfl
theorem Dz {b:Nat} (h:N≤b):EZ laid N bs b=bs[b - N]?:=by
 unfold EZ
 cases hb:Nat.blt b N
 ·rfl
 ·have:b < N:=Nat.le_of_ble_eq_true hb;omega
theorem RN {b c:Nat} (h:P3 laid N bs b=some c):EZ laid N bs c=some b:=by
 unfold P3 at h
 cases hb:Nat.blt b N
 ·simp only[hb,cond_false]at h
  obtain⟨h1,h2,h3⟩:=Lr h
  rw[Dz h1];exact h3
 ·simp only[hb,cond_true]at h
  obtain⟨rfl,h2,_⟩:=Lu h
  rw[H9 h2];exact h
end
theorem Q0 {ρ:Ren} {H:AA}:∀{bs:List Nat} {objs:List AJ},Ua ρ H bs=some objs→objs.length=bs.length∧∀(j b:Nat),bs[j]? = some b→∃o o1,H.get b=some o∧BN ρ o=some o1∧objs[j]? = some o1
 | [],_,h=>by cases h;exact⟨rfl,fun j b hb=>by cases hb⟩
 | a::r,objs,h=>by
  simp only[Ua]at h
  split at h
  ·rename_i o ho
   split at h
   ·rename_i o1 l h1 h2
    cases h
    obtain⟨i1,i2⟩:=Q0 h2
    refine⟨by simp[i1],fun j b hb=>?_⟩
    cases j with
    | zero=>
     simp only[List.getElem?_cons_zero,Option.some.injEq]at hb
     subst hb
     exact⟨o,o1,ho,h1,rfl⟩
    | succ j=>exact i2 j b hb
   ·cases h
  ·cases h
theorem Kd (muts:List Bool):∀(objs:List AJ) (j0 j:Nat),(Fe muts j0 objs)[j]? = (objs[j]?).map fun o=>bif Dw muts (j0+j)then o else H4 o
 | [],j0,j=>by simp[Fe]
 | o::r,j0,0=>by simp[Fe]
 | o::r,j0,j+1=>by
  simp only[Fe,List.getElem?_cons_succ]
  rw[Kd muts r (j0+1) j,show j0+1+j=j0+(j+1) by omega]
theorem Jk (muts:List Bool):∀(objs:List AJ) (j0:Nat),(Fe muts j0 objs).length=objs.length
 | [],_=>rfl
 | o::r,j0=>by simp[Fe,Jk muts r]
theorem N3:∀(l:List AJ) (H:AA),(BF H l).next=H.next+l.length
 | [],_=>rfl
 | o::r,H=>by
  simp only[BF]
  rw[N3 r]
  show H.next+1+r.length=_
  simp only[List.length_cons];omega
theorem EI:∀(l:List AJ) (H:AA) (i:Nat),(BF H l).get i=if i < H.next then H.get i else match l[i - H.next]? with | some o=>some o | none=>H.get i
 | [],H,i=>by simp only[BF,List.getElem?_nil];split<;>rfl
 | o::r,H,i=>by
  simp only[BF]
  rw[EI r]
  have hn:(H.alloc o).next=H.next+1:=rfl
  rw[hn]
  by_cases h1:i < H.next
  ·rw[if_pos (by omega),if_pos h1,AA.AQ,if_neg (by omega)]
  ·rw[if_neg h1]
   by_cases h2:i=H.next
   ·subst h2
    rw[if_pos (by omega),AA.AQ,if_pos rfl,Nat.sub_self]
    rfl
   ·rw[if_neg (by omega),show i - H.next=(i - (H.next+1))+1 by omega,List.getElem?_cons_succ,AA.AQ,if_neg h2]
theorem MK {muts:List Bool} {H:AA}:∀{bs:List Nat} {j0:Nat},H8 muts H j0 bs=true→∀(j b:Nat),bs[j]? = some b→Dw muts (j0+j)=true→∃o,H.get b=some o∧o.ro=false
 | [],_,_,j,b,hb,_=>by cases hb
 | a::r,j0,h,j,b,hb,hm=>by
  simp only[H8,Bool.and_eq_true]at h
  cases j with
  | zero=>
   simp only[List.getElem?_cons_zero,Option.some.injEq]at hb
   subst hb
   rw[Nat.add_zero]at hm
   rw[hm]at h
   simp only[cond_true]at h
   cases hg:H.get a with
   | none=>rw[hg]at h;cases h.1
   | some o=>rw[hg]at h;exact⟨o,rfl,by simpa using h.1⟩
  | succ j=>exact MK h.2 j b hb (by rw[show j0+1+j=j0+(j+1) by omega];exact hm)
theorem Ny {ρ:Ren} {muts:List Bool}:∀{bs:List Nat} {H H1:AA} {j0:Nat} {os:List (Option AJ)},Kp ρ muts H j0 bs os=some H1→bs.Nodup→
 H1.next=H.next∧(∀i,i∉bs→H1.get i=H.get i)∧(∀(j b:Nat),bs[j]? = some b→Dw muts (j0+j)=false→H1.get b=H.get b)∧
 (∀(j b:Nat) (o1:AJ),bs[j]? = some b→Dw muts (j0+j)=true→H1.get b=some o1→∃o,os[j]? = some (some o)∧BN ρ o=some o1∧o1.ro=false)
 | [],H,H1,j0,os,h,_=>by cases h;exact⟨rfl,fun _ _=>rfl,fun j b hb=>(by cases hb),fun j b o1 hb=>(by cases hb)⟩
 | a::r,H,H1,j0,os,h,hn=>by
  have hn:=List.nodup_cons.1 hn
  have step:∀(H2:AA) (os2:List (Option AJ)) (hn2:H2.next=H.next) (hg2:∀i,i≠a→H2.get i=H.get i) (hos:∀j,os2[j]? = os[j+1]?),Kp ρ muts H2 (j0+1) r os2=some H1→(Dw muts j0=false→H2.get a=H.get a)→(∀o1,Dw muts j0=true→H2.get a=some o1→∃o,os[0]? = some (some o)∧BN ρ o=some o1∧o1.ro=false)→
   H1.next=H.next∧(∀i,i∉a::r→H1.get i=H.get i)∧(∀(j b:Nat),(a::r)[j]? = some b→Dw muts (j0+j)=false→H1.get b=H.get b)∧
   (∀(j b:Nat) (o1:AJ),(a::r)[j]? = some b→Dw muts (j0+j)=true→H1.get b=some o1→∃o,os[j]? = some (some o)∧BN ρ o=some o1∧o1.ro=false):=by
   intro H2 os2 hn2 hg2 hos hb h0 h1
   obtain⟨i1,i2,i3,i4⟩:=Ny hb hn.2
   refine⟨i1.trans hn2,fun i hi=>?_,fun j b hj hm=>?_,fun j b o1 hj hm hg=>?_⟩
   ·rw[i2 i (fun h=>hi (List.mem_cons_of_mem _ h)),hg2 i (fun h=>hi (h ▸ List.mem_cons_self))]
   ·cases j with
    | zero=>
     simp only[List.getElem?_cons_zero,Option.some.injEq]at hj
     subst hj
     rw[i2 a hn.1];exact h0 hm
    | succ j=>
     have hj:r[j]? = some b:=hj
     rw[i3 j b hj (by rw[show j0+1+j=j0+(j+1) by omega];exact hm),hg2 b]
     rintro rfl;exact hn.1 (List.mem_of_getElem? hj)
   ·cases j with
    | zero=>
     simp only[List.getElem?_cons_zero,Option.some.injEq]at hj
     subst hj
     rw[i2 a hn.1]at hg
     exact h1 o1 hm hg
    | succ j=>
     have hj:r[j]? = some b:=hj
     obtain⟨o,q1,q2⟩:=i4 j b o1 hj (by rw[show j0+1+j=j0+(j+1) by omega];exact hm) hg
     rw[hos j]at q1
     exact⟨o,q1,q2⟩
  unfold Kp at h
  cases hm:Dw muts j0
  ·simp only[hm,cond_false]at h
   exact step H os.tail rfl (fun _ _=>rfl) (fun j=>by cases os<;>simp) h (fun _=>rfl) (fun o1 hh=>by rw[hm]at hh;cases hh)
  ·simp only[hm,cond_true]at h
   split at h
   ·rename_i o os2
    split at h
    ·rename_i o1 ho1
     cases hro:o1.ro
     ·simp only[hro,cond_false]at h
      exact step (H.put a o1) os2 rfl (fun i hi=>by rw[AA.AN,if_neg hi]) (fun _=>rfl) h (fun hh=>by rw[hm]at hh;cases hh) (fun o2 _ hg=>by
       rw[AA.AN,if_pos rfl]at hg;cases hg;exact⟨o,rfl,ho1,hro⟩)
     ·simp only[hro,cond_true]at h;cases h
    ·cases h
   ·rename_i os2
    exact step (H.del a) os2 rfl (fun i hi=>by rw[AA.BQ,if_neg hi]) (fun _=>rfl) h (fun hh=>by rw[hm]at hh;cases hh) (fun o2 _ hg=>by rw[AA.BQ,if_pos rfl]at hg;cases hg)
   ·exact step (H.del a) [] rfl (fun i hi=>by rw[AA.BQ,if_neg hi]) (fun _=>rfl) h (fun hh=>by rw[hm]at hh;cases hh) (fun o2 _ hg=>by rw[AA.BQ,if_pos rfl]at hg;cases hg)
theorem Py {ρ:Ren}:∀{l:List AJ} {H H1:AA},YQ ρ H l=some H1→H1.next=H.next+l.length∧(∀i,i < H.next→H1.get i=H.get i)∧(∀i o1,H.next≤i→i < H.next+l.length→H1.get i=some o1→∃o,l[i - H.next]? = some o∧BN ρ o=some o1∧o1.ro=false)∧(∀i,H.next+l.length≤i→H1.get i=H.get i)
 | [],H,H1,h=>by cases h;exact⟨rfl,fun _ _=>rfl,fun i o1 h1 h2=>by simp at h2;omega,fun _ _=>rfl⟩
 | o::r,H,H1,h=>by
  simp only[YQ]at h
  split at h
  ·rename_i o1 ho1
   cases hro:o1.ro
   ·simp only[hro,cond_false]at h
    obtain⟨i1,i2,i3,i4⟩:=Py h
    have hn:(H.alloc o1).next=H.next+1:=rfl
    rw[hn]at i1 i2 i3 i4
    simp only[List.length_cons]
    refine⟨by omega,fun i hi=>?_,fun i o2 h1 h2 hg=>?_,fun i hi=>?_⟩
    ·rw[i2 i (by omega),AA.AQ,if_neg (by omega)]
    ·by_cases e:i=H.next
     ·subst e
      rw[i2 _ (by omega),AA.AQ,if_pos rfl]at hg
      cases hg
      exact⟨o,by rw[Nat.sub_self];rfl,ho1,hro⟩
     ·obtain⟨o3,q1,q2⟩:=i3 i o2 (by omega) (by omega) hg
      exact⟨o3,by rw[show i - H.next=(i - (H.next+1))+1 by omega,List.getElem?_cons_succ];exact q1,q2⟩
    ·rw[i4 i (by omega),AA.AQ,if_neg (by omega)]
   ·simp only[hro,cond_true]at h;cases h
  ·cases h
theorem XF {μ:Ad}:∀(n:Nat) (v v':Value),AH μ v v'→∀b∈Ac n v,∃T,μ b=some T:=by
 intro n
 induction n with
 | zero=>intro v v' _ b hb;cases hb
 | succ n ih=>
  intro v v' h b hb
  have hl:∀(l l':List Value),A2 μ l l'→b∈l.flatMap (Ac n)→∃T,μ b=some T:=by
   intro l l' hr hm
   induction hr with
   | nil=>cases hm
   | cons h1 _ ihl=>
    rw[List.flatMap_cons,List.mem_append]at hm
    rcases hm with hm | hm
    ·exact ih _ _ h1 b hm
    ·exact ihl hm
  cases h with
  | Be=>simp[Ac,Be]at hb
  | ptr c o T hm=>simp only[Ac,List.mem_singleton]at hb;subst hb;exact⟨T,hm⟩
  | GX c o j T hm=>simp only[Ac,List.mem_singleton]at hb;subst hb;exact⟨T,hm⟩
  | slice c o l k k' o' T hm _ _=>simp only[Ac,List.mem_singleton]at hb;subst hb;exact⟨T,hm⟩
  | Bk c j l k k' o' T hm _ _ _=>simp only[Ac,List.mem_singleton]at hb;subst hb;exact⟨T,hm⟩
  | Cr c j k T _ hm _=>simp only[Ac,List.mem_singleton]at hb;subst hb;exact⟨T,hm⟩
  | CU c j l k k' o' T M hm _ _ _ _=>simp only[Ac,List.mem_singleton]at hb;subst hb;exact⟨T,hm⟩
  | ED c j k T _ hm _=>simp only[Ac,List.mem_singleton]at hb;subst hb;exact⟨T,hm⟩
  | map c T hm=>simp only[Ac,List.mem_singleton]at hb;subst hb;exact⟨T,hm⟩
  | iface t a a' ha=>exact ih _ _ ha b hb
  | agg xs xs' hx ex=>
   obtain⟨ys,he,hl2⟩:=AH.Ca.1 (.agg xs xs' hx ex)
   exact hl _ _ hl2 hb
  | tuple xs xs' hx ex=>
   obtain⟨ys,he,hl2⟩:=AH.CC.1 (.tuple xs xs' hx ex)
   exact hl _ _ hl2 hb
  | func fn fn' xs xs' ys ys' hf hx ex hy ey=>
   obtain⟨fn2,xs2,ys2,he,hf2,D5,hy2⟩:=AH.CL.1 (.func fn fn' xs xs' ys ys' hf hx ex hy ey)
   simp only[Ac,List.mem_append]at hb
   rcases hb with hb | hb
   ·exact hl _ _ D5 hb
   ·exact hl _ _ hy2 hb
  | _=>cases hb
theorem IK {μ:Ad} {l l':List Value} (h:A2 μ l l'):∀b∈l.flatMap (Ac 4),∃T,μ b=some T:=by
 intro b hb
 induction h with
 | nil=>cases hb
 | cons h1 _ ih=>
  rw[List.flatMap_cons,List.mem_append]at hb
  rcases hb with hb | hb
  ·exact XF 4 _ _ h1 b hb
  ·exact ih hb
theorem RP {k:EK} {l:List (EK.C k)} {ro:Bool} {c:Nat} (h:c∈EJ (.vec k l ro)):∃l':List (EK.C [.tok]),(⟨k,l⟩:(k:EK) × List (EK.C k))=⟨[.tok],l'⟩∧c∈List.flatMap (Ac 4) l':=by
 unfold EJ at h
 split at h
 ·rename_i heq;cases heq
 ·rename_i l2 ro2 he
  cases he
  exact⟨l2,rfl,h⟩
 ·cases h
theorem FY {base:Env} {W0 W:World} {μ:Ad} {H:AA} (hH:AP base W0 μ H W) {N:Nat}:∀(f:Nat) (todo seen:List Nat),(∀b∈todo,∃T,μ b=some T)→(seen.Nodup∧∀b∈seen,N≤b∧∃T,μ b=some T)→
 (Ah H N f todo seen).Nodup∧∀b∈Ah H N f todo seen,N≤b∧∃T,μ b=some T:=by
 intro f
 induction f with
 | zero=>intro todo seen _ h;exact h
 | succ f ih=>
  intro todo seen ht hs
  unfold Ah
  split
  ·exact hs
  ·rename_i b r
   cases hc:(Nat.blt b N||seen.any (Nat.beq b))
   ·simp only[cond_false]
    simp only[Bool.or_eq_false_iff]at hc
    obtain⟨T,hT⟩:=ht b (by simp)
    have hNb:N≤b:=by
     rcases Nat.lt_or_ge b N with h | h
     ·have:=Nat.ble_eq_true_of_le h
      rw[show Nat.ble (b+1) N=Nat.blt b N from rfl,hc.1]at this;cases this
     ·exact h
    split
    ·rename_i o ho
     refine ih _ _ (fun c hc2=>?_) ⟨?_,fun c hc2=>?_⟩
     ·rcases List.mem_append.1 hc2 with hc2 | hc2
      ·cases o with
       | cells cs e ro=>
        obtain⟨o',_,hr⟩:=hH.obj b _ ho T hT
        cases hr with
        | cells _ _ _ arr t lo hi he hcl hr hf=>exact IK hcl c hc2
       | vec k l ro=>
        obtain⟨l2,he,hc3⟩:=RP hc2
        cases he
        obtain⟨o',_,hr⟩:=hH.obj b _ ho T hT
        cases hr with
        | vec _ _ _ _ hc=>
         rw[Gk]at hc
         cases hc with
         | cells _ _ _ arr t lo hi he hcl hr hf=>exact IK hcl c hc3
        | EG _ _ _ _ _ _=>cases hc3
       | _=>simp[EJ]at hc2
      ·exact ht c (by simp[hc2])
     ·rw[List.nodup_append]
      refine⟨hs.1,by simp,?_⟩
      intro x hx y hy
      simp only[List.mem_singleton]at hy
      subst hy
      rintro rfl
      have:=List.any_eq_true.2 ⟨x,hx,Nat.beq_refl x⟩
      rw[hc.2]at this;cases this
     ·rcases List.mem_append.1 hc2 with hc2 | hc2
      ·exact hs.2 c hc2
      ·simp only[List.mem_singleton]at hc2;subst hc2;exact⟨hNb,T,hT⟩
    ·exact ih _ _ (fun c hc2=>ht c (by simp[hc2])) hs
   ·simp only[cond_true]
    exact ih _ _ (fun c hc2=>ht c (by simp[hc2])) hs
end Go.AD

namespace Go.AD
def CH (b nx i:Nat):Nat:=if i=0 then b else nx+(i - 1)
def D1 (b nx n:Nat) (ext:List Nat:=[]):Ren:=fun i=>if i < n then some (CH b nx i)else ext[i - n]?
def K5 (ro:Bool) (o:AJ):AJ:=if ro then H4 o else o
theorem Wo {μ:Ad} {T:Bv} {o:AJ} {o':Obj} {ro:Bool} (h:Cb μ T o o'):Cb μ T (K5 ro o) o':=by
 cases ro
 ·exact h
 ·exact P5 h
theorem Ef {ro:Bool} {o:AJ} {T:Bv}:(K5 ro o).void T ↔ o.void T:=by
 cases ro
 ·exact Iff.rfl
 ·exact Nv
theorem Ze {ro:Bool} {o:AJ} (hp:o.Gs=true) (h:o.ro=false):(K5 ro o).ro=ro:=by
 cases ro
 ·exact h
 ·cases o<;>first | rfl | cases hp
structure I6 (H:AA) (b:Nat) (ro:Bool) (objs:List AJ) (H':AA) (ext:List Nat:=[]):Prop where
 next:H'.next=H.next+(objs.length - 1)
 C2:∀x,x≠b→x < H.next→H'.get x=H.get x
 top:∀x,H'.next≤x→H'.get x=none
 obj:∀(i:Nat) (o:AJ),objs[i]? = some o→∃o1,BN (D1 b H.next objs.length ext) (K5 ro o)=some o1∧H'.get (CH b H.next i)=some o1
section
variable {base:Env} {W0:World} {μ:Ad} {H:AA} {W:World}
theorem AP.opened (h:AP base W0 μ H W) {b:Nat} {s:Pk} {ro:Bool} {T:Bv} (hb:H.get b=some (.abs (.pack s) ro)) (hm:μ b=some T):
 ∃objs,DU s objs∧∀H',I6 H b ro objs H' (D9 s)→∃μ',AP base W0 μ' H' W∧Af μ H μ' H':=by
 obtain⟨φ,q⟩:=h.abs
 obtain⟨hrep,hK⟩:=q.rep b _ ro T hb hm
 have hrep:F7 μ W s T (φ b):=hrep
 have hlt:=h.lt hb
 generalize hFb:φ b=F at hrep
 cases hrep with
 | mk _ objs ts Fs _ _ hr hl hT hroot hobj hcell hbld hmem hext hpack hdis hF=>
  refine⟨objs,hr,fun H' hH=>?_⟩
  have h0:0 < objs.length:=by
   rcases Nat.eq_zero_or_pos objs.length with h | h
   ·rw[List.getElem?_eq_none (by omega)]at hT;cases hT
   ·exact h
  let μ':Ad:=fun x=>if H.next≤x∧x < H.next+(objs.length - 1)then ts[x - H.next+1]? else μ x
  have mlow:∀x,x < H.next→μ' x=μ x:=fun x hx=>by show(if _ then _ else _)=_;rw[if_neg (by omega)]
  have mpk:∀i,i < objs.length→μ' (CH b H.next i)=ts[i]?:=by
   intro i hi
   unfold CH
   by_cases e:i=0
   ·subst e
    rw[if_pos rfl,mlow b hlt,hm,hT]
   ·rw[if_neg e]
    show(if _ then _ else _)=_
    rw[if_pos (by omega),show H.next+(i - 1) - H.next+1=i by omega]
  have mtop:∀x,H'.next≤x→μ' x=none:=by
   intro x hx
   rw[hH.next]at hx
   show(if _ then _ else _)=_
   rw[if_neg (by omega)]
   exact(h.fresh x (by omega)).2
  have mle:μ.le μ':=by
   intro x X e
   rcases Nat.lt_or_ge x H.next with hx | hx
   ·rw[mlow x hx];exact e
   ·rw[(h.fresh x hx).2]at e;cases e
  have key:∀x o1,H'.get x=some o1→(∃i o,i < objs.length∧objs[i]? = some o∧x=CH b H.next i∧BN (D1 b H.next objs.length (D9 s)) (K5 ro o)=some o1)∨(x≠b∧x < H.next∧H.get x=some o1):=by
   intro x o1 hx
   have pk:∀i,i < objs.length→x=CH b H.next i→∃i o,i < objs.length∧objs[i]? = some o∧x=CH b H.next i∧BN (D1 b H.next objs.length (D9 s)) (K5 ro o)=some o1:=by
    intro i hi e
    obtain⟨o2,r1,r2⟩:=hH.obj i _ (List.getElem?_eq_getElem hi)
    rw[←e,hx]at r2;cases r2
    exact⟨i,_,hi,List.getElem?_eq_getElem hi,e,r1⟩
   by_cases e:x=b
   ·exact .inl (pk 0 h0 (by unfold CH;rw[if_pos rfl];exact e))
   ·rcases Nat.lt_or_ge x H.next with D5 | D5
    ·exact .inr ⟨e,D5,by rw[←hH.C2 x e D5];exact hx⟩
    ·rcases Nat.lt_or_ge x H'.next with hx3 | hx3
     ·rw[hH.next]at hx3
      exact .inl (pk (x - H.next+1) (by omega) (by unfold CH;rw[if_neg (by omega)];omega))
     ·rw[hH.top x hx3]at hx;cases hx
  have pinj:∀i j,i < objs.length→j < objs.length→CH b H.next i=CH b H.next j→i=j:=by
   intro i j hi hj e
   unfold CH at e
   by_cases e1:i=0
   ·by_cases e2:j=0
    ·omega
    ·rw[if_pos e1,if_neg e2]at e;omega
   ·by_cases e2:j=0
    ·rw[if_neg e1,if_pos e2]at e;omega
    ·rw[if_neg e1,if_neg e2]at e;omega
  have own:∀i o T',objs[i]? = some o→ts[i]? = some T'→(¬o.void T'→Fs i T'.c)∧(∀x,Fs i x→F x):=by
   intro i o T' ho ht
   have hi:i < objs.length:=(List.getElem?_eq_some_iff.1 ho).1
   refine⟨?_,fun x hx=>(hF x).2 ⟨i,hi,hx⟩⟩
   cases hab:o.isAbs
   ·exact fun hv=>(hcell i o T' ho ht hab _).2 ⟨rfl,hv⟩
   ·obtain⟨a,r,rfl⟩:=DF hab
    cases a with
    | Tw t e l=>exact fun _=>(ES.GB (hbld i t e l r T' ho ht)).1
    | pack s'=>exact fun _=>(F7.GB (hpack i s' r T' ho ht)).1
    | mem k L=>exact fun hv=>absurd trivial hv
  have rep:∀i a r T',objs[i]? = some (.abs a r)→ts[i]? = some T'→Cx μ a T' (Fs i) W:=by
   intro i a r T' ho ht
   cases a with
   | Tw t e l=>exact hbld i t e l r T' ho ht
   | pack s'=>exact hpack i s' r T' ho ht
   | mem k L=>exact hmem i k L r T' ho ht
  have absOf:∀{o:AJ} {a:AX} {r:Bool},BN (D1 b H.next objs.length (D9 s)) (K5 ro o)=some (.abs a r)→∃r0,o= .abs a r0∧(r0=false→r=ro):=by
   intro o a r e
   have e1:=((C4 e).2.2 a r rfl).1
   cases ro
   ·exact⟨r,e1,fun h=>h⟩
   ·cases o<;>first | (cases e1;done) | skip
    rename_i a0 r0
    have e1:AJ.abs a0 true= .abs a r:=e1
    cases e1
    exact⟨r0,rfl,fun _=>rfl⟩
  refine⟨μ',⟨?_,?_,?_,?_,?_,h.size,h.below,h.out,h.os,?_,Ad.le_trans h.le mle,h.grow⟩,⟨mle,by rw[hH.next];omega,?_⟩⟩
  ·intro x o1 hx T' hT'
   rcases key x o1 hx with⟨i,o,hi,ho,rfl,hr1⟩ | ⟨hxb,hxl,D5⟩
   ·rw[mpk i hi]at hT'
    obtain⟨_,_,o',r1,r2⟩:=hobj i o T' ho hT'
    refine⟨o',r1,Ps (μ:=MQ μ ts (D9 s)) (fun p j X hp hX=>?_) hr1 (Wo r2)⟩
    unfold D1 at hp
    split at hp
    ·rename_i hpl
     cases hp
     rw[TQ (by omega)]at hX
     rw[mpk p hpl];exact hX
    ·rename_i hpl
     unfold MQ at hX
     rw[if_neg (by omega),hl,hp]at hX
     exact mle _ _ hX
   ·rw[mlow x hxl]at hT'
    obtain⟨o',r1,r2⟩:=h.obj x o1 D5 T' hT'
    exact⟨o',r1,r2.mono mle⟩
  ·intro x o1 hx hro T' hT' hv
   rcases key x o1 hx with⟨i,o,hi,ho,rfl,hr1⟩ | ⟨hxb,hxl,D5⟩
   ·rw[mpk i hi]at hT'
    obtain⟨g1,g2,_⟩:=hobj i o T' ho hT'
    have e1:ro=false:=by rw[←Ze (ro:=ro) g2 g1,←(C4 hr1).1];exact hro
    obtain⟨f1,f2⟩:=own i o T' ho hT'
    exact hK e1 _ (by rw[hFb];exact f2 _ (f1 (fun hw=>hv (((Bp hr1 T').trans Ef).2 hw))))
   ·rw[mlow x hxl]at hT'
    exact h.own x o1 D5 hro T' hT' hv
  ·intro x y o1 o2 hx hy T1 T2 h1 h2 v1 v2 hc hrr
   rcases key x o1 hx with⟨i,o,hi,ho,rfl,hr1⟩ | ⟨hxb,hxl,D5⟩
   ·rcases key y o2 hy with⟨j,p,hj,hp,rfl,hr2⟩ | ⟨hyb,hyl,hy2⟩
    ·rw[mpk i hi]at h1
     rw[mpk j hj]at h2
     have f1:=(own i o T1 ho h1).1 (fun hw=>v1 (((Bp hr1 T1).trans Ef).2 hw))
     have f2:=(own j p T2 hp h2).1 (fun hw=>v2 (((Bp hr2 T2).trans Ef).2 hw))
     rw[hc]at f1
     rw[hdis i j _ hi hj f1 f2]
    ·rw[mpk i hi]at h1
     rw[mlow y hyl]at h2
     obtain⟨f1,f2⟩:=own i o T1 ho h1
     have f1:=f1 (fun hw=>v1 (((Bp hr1 T1).trans Ef).2 hw))
     have:=(q.D2 b _ ro T hb hm y o2 T2 hy2 h2 hyb).1 v2
     rw[hFb,←hc]at this
     exact absurd (f2 _ f1) this
   ·rcases key y o2 hy with⟨j,p,hj,hp,rfl,hr2⟩ | ⟨hyb,hyl,hy2⟩
    ·rw[mpk j hj]at h2
     rw[mlow x hxl]at h1
     obtain⟨f1,f2⟩:=own j p T2 hp h2
     have f1:=f1 (fun hw=>v2 (((Bp hr2 T2).trans Ef).2 hw))
     have:=(q.D2 b _ ro T hb hm x o1 T1 D5 h1 hxb).1 v1
     rw[hFb,hc]at this
     exact absurd (f2 _ f1) this
    ·rw[mlow x hxl]at h1
     rw[mlow y hyl]at h2
     exact h.inj x y o1 o2 D5 hy2 T1 T2 h1 h2 v1 v2 hc hrr
  ·intro x hx
   exact⟨hH.top x hx,mtop x hx⟩
  ·intro x T' hT'
   have hx:H.next≤x∧x < H.next+(objs.length - 1)∨μ x=some T':=by
    by_cases c:H.next≤x∧x < H.next+(objs.length - 1)
    ·exact .inl c
    ·right
     have:(if H.next≤x∧x < H.next+(objs.length - 1)then ts[x - H.next+1]? else μ x)=some T':=hT'
     rwa [if_neg c]at this
   rcases hx with hx | hx
   ·have:(if H.next≤x∧x < H.next+(objs.length - 1)then ts[x - H.next+1]? else μ x)=some T':=hT'
    rw[if_pos hx]at this
    have hi:x - H.next+1 < objs.length:=by omega
    obtain⟨_,_,o',r1,_⟩:=hobj (x - H.next+1) _ T' (List.getElem?_eq_getElem hi) this
    exact F0 r1
   ·exact h.bound x T' hx
  ·refine⟨fun x=>if x=b then Fs 0 else if H.next≤x then Fs (x - H.next+1)else φ x,?_,?_⟩
   all_goals
    have hφ:∀i,i < objs.length→(if CH b H.next i=b then Fs 0 else if H.next≤CH b H.next i then Fs (CH b H.next i - H.next+1)else φ (CH b H.next i))=Fs i:=by
     intro i hi
     unfold CH
     by_cases e:i=0
     ·subst e;simp
     ·rw[if_neg e,if_neg (by omega),if_pos (by omega),show H.next+(i - 1) - H.next+1=i by omega]
    have hφ2:∀x,x≠b→x < H.next→(if x=b then Fs 0 else if H.next≤x then Fs (x - H.next+1)else φ x)=φ x:=fun x e hx=>by rw[if_neg e,if_neg (by omega)]
   ·intro x a r T' hx hT'
    rcases key x _ hx with⟨i,o,hi,ho,rfl,hr1⟩ | ⟨hxb,hxl,D5⟩
    ·simp only[hφ i hi]
     rw[mpk i hi]at hT'
     obtain⟨r0,rfl,hr0⟩:=absOf hr1
     refine⟨(rep i a r0 T' ho hT').mono mle,fun hr y hy=>?_⟩
     have g1:=(hobj i _ T' ho hT').1
     exact hK (by rw[←hr0 g1];exact hr) y (by rw[hFb];exact(own i _ T' ho hT').2 y hy)
    ·simp only[hφ2 x hxb hxl]
     rw[mlow x hxl]at hT'
     obtain⟨w1,w2⟩:=q.rep x a r T' D5 hT'
     exact⟨w1.mono mle,w2⟩
   ·intro x a r T' hx hT' y o2 T2 hy hT2 hne
    rcases key x _ hx with⟨i,o,hi,ho,rfl,hr1⟩ | ⟨hxb,hxl,D5⟩
    ·rw[mpk i hi]at hT'
     simp only[hφ i hi]
     rcases key y o2 hy with⟨j,p,hj,hp,rfl,hr2⟩ | ⟨hyb,hyl,hy2⟩
     ·rw[mpk j hj]at hT2
      simp only[hφ j hj]
      have hij:i≠j:=fun e=>hne (by rw[e])
      exact⟨fun hv2 e=>hij (hdis i j _ hi hj e ((own j p T2 hp hT2).1 (fun hw=>hv2 (((Bp hr2 T2).trans Ef).2 hw)))),fun _ z hz hz2=>hij (hdis i j z hi hj hz hz2)⟩
     ·rw[mlow y hyl]at hT2
      simp only[hφ2 y hyb hyl]
      have hf:=q.D2 b _ ro T hb hm y o2 T2 hy2 hT2 hyb
      rw[hFb]at hf
      exact⟨fun hv2 e=>hf.1 hv2 ((own i o T' ho hT').2 _ e),fun hab z hz hz2=>hf.2 hab z ((own i o T' ho hT').2 _ hz) hz2⟩
    ·rw[mlow x hxl]at hT'
     simp only[hφ2 x hxb hxl]
     rcases key y o2 hy with⟨j,p,hj,hp,rfl,hr2⟩ | ⟨hyb,hyl,hy2⟩
     ·rw[mpk j hj]at hT2
      simp only[hφ j hj]
      have hf:=(q.D2 x a r T' D5 hT' b _ T hb hm (Ne.symm hxb)).2 rfl
      rw[hFb]at hf
      exact⟨fun hv2 e=>hf _ e ((own j p T2 hp hT2).2 _ ((own j p T2 hp hT2).1 (fun hw=>hv2 (((Bp hr2 T2).trans Ef).2 hw)))),fun _ z hz hz2=>hf z hz ((own j p T2 hp hT2).2 z hz2)⟩
     ·rw[mlow y hyl]at hT2
      simp only[hφ2 y hyb hyl]
      exact q.D2 x a r T' D5 hT' y o2 T2 hy2 hT2 hne
  ·intro x hx hn
   rw[mlow x hx]
   refine⟨hn,?_⟩
   have:x≠b:=by rintro rfl;rw[hm]at hn;cases hn
   exact hH.C2 x this hx
end
end Go.AD

namespace Go.AD
theorem QA {a:AX} {r:Bool} {T:Bv} (h:¬(AJ.abs a r).void T):¬(AJ.abs a false).void T:=by cases a<;>exact h
def U9 (bs ext:List Nat):Ren:=fun i=>if i < bs.length then bs[i]? else ext[i - bs.length]?
theorem E4 (bs:List Nat):U9 bs []=fun i=>bs[i]?:=by
 funext i
 unfold U9
 split
 ·rfl
 ·rename_i h
  rw[List.getElem?_eq_none (l:=bs) (by omega)];rfl
open Classical in
structure dX (H:AA) (s:Pk) (bs:List Nat) (H':AA):Prop where
 next:H'.next=H.next
 root:∀b,bs[0]? = some b→H'.get b=some (.abs (.pack s) false)
 rest:∀i b,0 < i→bs[i]? = some b→H'.get b=none
 C2:∀x,x∉bs→H'.get x=H.get x
section
variable {base:Env} {W0:World} {μ:Ad} {H:AA} {W:World}
theorem AP.shut (h:AP base W0 μ H W) {s:Pk} {objs:List AJ} {bs:List Nat} (hr:DU s objs) (hnd:bs.Nodup) (hlen:bs.length=objs.length) (hne:objs≠[])
 (hmap:∀b∈bs,∃T,μ b=some T) (hobj:∀(i b:Nat) (o:AJ),bs[i]? = some b→objs[i]? = some o→∃o1,H.get b=some o1∧o1.ro=false∧o1.Gs=true∧BN (U9 bs (D9 s)) o=some o1)
 {H':AA} (hS:dX H s bs H') (hroot:∀o T,objs[0]? = some o→¬o.void T):AP base W0 μ H' W∧Af μ H μ H':=by
 obtain⟨φ,q⟩:=h.abs
 have h0:0 < objs.length:=List.length_pos_iff.2 hne
 let tg:Nat→Bv:=fun b=>(μ b).getD ⟨0,0,0,0⟩
 have htg:∀b∈bs,μ b=some (tg b):=by
  intro b hb
  obtain⟨T,hT⟩:=hmap b hb
  show μ b=some ((μ b).getD _)
  rw[hT];rfl
 let ts:List Bv:=bs.map tg
 have hts:∀(i b:Nat),bs[i]? = some b→ts[i]? = some (tg b):=fun i b hb=>by show(bs.map tg)[i]? = _;rw[List.getElem?_map,hb];rfl
 have tsl:ts.length=objs.length:=by show(bs.map tg).length=_;rw[List.length_map,hlen]
 have bat:∀(i:Nat),i < objs.length→∃b,bs[i]? = some b:=fun i hi=>⟨_,List.getElem?_eq_getElem (by omega)⟩
 have mem:∀{i b:Nat},bs[i]? = some b→b∈bs:=fun hb=>List.mem_of_getElem? hb
 have tsb:∀(i:Nat) (T':Bv),ts[i]? = some T'→∃b,bs[i]? = some b∧T'=tg b∧μ b=some T':=by
  intro i T' ht
  have ht:(bs.map tg)[i]? = some T':=ht
  rw[List.getElem?_map]at ht
  cases hb:bs[i]? with
  | none=>rw[hb]at ht;cases ht
  | some b=>rw[hb]at ht;cases ht;exact⟨b,rfl,rfl,htg b (mem hb)⟩
 have uniq:∀(i j b:Nat),bs[i]? = some b→bs[j]? = some b→i=j:=by
  intro i j b hi hj
  obtain⟨hi1,hi2⟩:=List.getElem?_eq_some_iff.1 hi
  obtain⟨hj1,hj2⟩:=List.getElem?_eq_some_iff.1 hj
  have hp:=List.pairwise_iff_getElem.1 hnd
  rcases Nat.lt_trichotomy i j with hh | hh | hh
  ·exact absurd (hi2.trans hj2.symm) (hp i j hi1 hj1 hh)
  ·exact hh
  ·exact absurd (hj2.trans hi2.symm) (hp j i hj1 hi1 hh)
 let Fs:Nat→Nat→Prop:=fun i x=>∃b o,bs[i]? = some b∧H.get b=some o∧((o.isAbs=true∧φ b x)∨(o.isAbs=false∧x=(tg b).c∧¬o.void (tg b)))
 have oab:∀(i b:Nat) (o:AJ),bs[i]? = some b→objs[i]? = some o→∃o1,H.get b=some o1∧o1.ro=false∧o1.Gs=true∧BN (U9 bs (D9 s)) o=some o1∧o.isAbs=o1.isAbs∧o.ro=false:=by
  intro i b o hb ho
  obtain⟨o1,r1,r2,r3,r4⟩:=hobj i b o hb ho
  obtain⟨e1,e2,e3⟩:=C4 r4
  exact⟨o1,r1,r2,r3,r4,e2.symm,by rw[←e1];exact r2⟩
 have Fs_cell:∀(i b:Nat) (o1:AJ),bs[i]? = some b→H.get b=some o1→o1.isAbs=false→∀x,Fs i x ↔ (x=(tg b).c∧¬o1.void (tg b)):=by
  intro i b o1 hb hg hab x
  constructor
  ·rintro⟨b2,o2,g1,g2,g3⟩
   rw[hb]at g1;cases g1
   rw[hg]at g2;cases g2
   rcases g3 with⟨g3,_⟩ | ⟨_,g3⟩
   ·rw[hab]at g3;cases g3
   ·exact g3
  ·intro e;exact⟨b,o1,hb,hg,.inr ⟨hab,e⟩⟩
 have Fs_abs:∀(i b:Nat) (o1:AJ),bs[i]? = some b→H.get b=some o1→o1.isAbs=true→∀x,Fs i x ↔ φ b x:=by
  intro i b o1 hb hg hab x
  constructor
  ·rintro⟨b2,o2,g1,g2,g3⟩
   rw[hb]at g1;cases g1
   rw[hg]at g2;cases g2
   rcases g3 with⟨_,g3⟩ | ⟨g3,_⟩
   ·exact g3
   ·rw[hab]at g3;cases g3
  ·intro e;exact⟨b,o1,hb,hg,.inl ⟨hab,e⟩⟩
 have oro:∀(i b:Nat) (o1:AJ),i < objs.length→bs[i]? = some b→H.get b=some o1→o1.ro=false:=by
  intro i b o1 hi hb hg
  obtain⟨o2,r1,r2,_⟩:=oab i b _ hb (List.getElem?_eq_getElem hi)
  rw[hg]at r1;cases r1
  exact r2
 have apart:∀b1 o1 b2 o2,b1≠b2→H.get b1=some o1→H.get b2=some o2→(o1.ro=false∨o2.ro=false)→∀T1 T2,μ b1=some T1→μ b2=some T2→∀x,((o1.isAbs=true∧φ b1 x)∨(o1.isAbs=false∧x=T1.c∧¬o1.void T1))→((o2.isAbs=true∧φ b2 x)∨(o2.isAbs=false∧x=T2.c∧¬o2.void T2))→False:=by
  intro b1 o1 b2 o2 hne12 g1 g2 hrr T1 T2 m1 m2 x p1 p2
  rcases p1 with⟨a1,p1⟩ | ⟨a1,p1,v1⟩
  ·obtain⟨a,r,rfl⟩:=DF a1
   rcases p2 with⟨a2,p2⟩ | ⟨a2,p2,v2⟩
   ·exact(q.D2 b1 a r T1 g1 m1 b2 o2 T2 g2 m2 (Ne.symm hne12)).2 a2 x p1 p2
   ·rw[p2]at p1;exact(q.D2 b1 a r T1 g1 m1 b2 o2 T2 g2 m2 (Ne.symm hne12)).1 v2 p1
  ·rcases p2 with⟨a2,p2⟩ | ⟨a2,p2,v2⟩
   ·obtain⟨a,r,rfl⟩:=DF a2
    have hf:=q.D2 b2 a r T2 g2 m2 b1 o1 T1 g1 m1 hne12
    rw[p1]at p2;exact hf.1 v1 p2
   ·exact hne12 (h.inj b1 b2 o1 o2 g1 g2 T1 T2 m1 m2 v1 v2 (by rw[←p1,←p2]) hrr)
 have root:∀(i b:Nat) (o1:AJ),bs[i]? = some b→H.get b=some o1→¬o1.void (tg b)→Fs i (tg b).c:=by
  intro i b o1 hb hg hv
  cases hab:o1.isAbs
  ·exact(Fs_cell i b o1 hb hg hab _).2 ⟨rfl,hv⟩
  ·obtain⟨a,r,rfl⟩:=DF hab
   exact(Fs_abs i b _ hb hg rfl _).2 ((Cx.GB _ _ _ _ (q.rep b a r _ hg (htg b (mem hb))).1).1 (QA hv))
 obtain⟨b0,hb0⟩:=bat 0 h0
 let F:Nat→Prop:=fun x=>∃i,i < objs.length∧Fs i x
 have hrep:F7 μ W s (tg b0) F:=by
  refine .mk s objs ts Fs _ F hr tsl (hts 0 b0 hb0) (fun o ho=>hroot o _ ho) ?_ ?_ ?_ ?_ ?_ ?_ ?_ (fun x=>Iff.rfl)
  ·intro i o T' ho ht
   obtain⟨b,hb,rfl,hm⟩:=tsb i T' ht
   obtain⟨o1,r1,r2,r3,r4,r5,r6⟩:=oab i b o hb ho
   obtain⟨o',s1,s2⟩:=h.obj b o1 r1 _ hm
   refine⟨r6,?_,o',s1,M1 (ν:=μ) (fun p j X hp hX=>?_) r4 s2⟩
   ·cases o1<;>cases o<;>first | rfl | (simp[BN]at r4;done) | (cases r3;done) | skip
    all_goals (simp[BN]at r4)
   ·unfold U9 at hp
    split at hp
    ·rename_i hpl
     rw[TQ (by omega),hts p j hp]
     have:=htg j (mem hp)
     rw[hX]at this;exact this.symm
    ·rename_i hpl
     unfold MQ
     rw[if_neg (by omega),tsl,←hlen,hp]
     exact hX
  ·intro i o T' ho ht hab x
   obtain⟨b,hb,rfl,hm⟩:=tsb i T' ht
   obtain⟨o1,r1,r2,r3,r4,r5,r6⟩:=oab i b o hb ho
   rw[Fs_cell i b o1 hb r1 (by rw[←r5];exact hab) x]
   exact and_congr_right fun _=>not_congr (Bp r4 _)
  ·intro i t e l r T' ho ht
   obtain⟨b,hb,rfl,hm⟩:=tsb i T' ht
   obtain⟨o1,r1,r2,r3,r4,r5,r6⟩:=oab i b _ hb ho
   obtain⟨rfl,_⟩:=FR r4
   have h1:=(q.rep b _ r _ r1 hm).1
   have h2:Fs i=φ b:=funext fun x=>propext (Fs_abs i b _ hb r1 rfl x)
   rw[h2];exact h1
  ·intro i k L r T' ho ht
   obtain⟨b,hb,rfl,hm⟩:=tsb i T' ht
   obtain⟨o1,r1,r2,r3,r4,r5,r6⟩:=oab i b _ hb ho
   obtain⟨rfl,_⟩:=FR r4
   have h1:=(q.rep b _ r _ r1 hm).1
   have h2:Fs i=φ b:=funext fun x=>propext (Fs_abs i b _ hb r1 rfl x)
   rw[h2];exact h1
  ·intro i s' r ho
   obtain⟨b,hb⟩:=bat i (List.getElem?_eq_some_iff.1 ho).1
   obtain⟨o1,r1,r2,r3,r4,r5,r6⟩:=oab i b _ hb ho
   exact(FR r4).2
  ·intro i s' r T' ho ht
   obtain⟨b,hb,rfl,hm⟩:=tsb i T' ht
   obtain⟨o1,r1,r2,r3,r4,r5,r6⟩:=oab i b _ hb ho
   obtain⟨rfl,_⟩:=FR r4
   have h1:=(q.rep b _ r _ r1 hm).1
   have h2:Fs i=φ b:=funext fun x=>propext (Fs_abs i b _ hb r1 rfl x)
   rw[h2];exact h1
  ·rintro i j x hi hj ⟨b1,o1,g1,g2,g3⟩ ⟨b2,o2,k1,k2,k3⟩
   rcases Nat.decEq i j with hij | hij
   ·exfalso
    have hne12:b1≠b2:=by rintro rfl;exact hij (uniq i j b1 g1 k1)
    exact apart b1 o1 b2 o2 hne12 g2 k2 (.inl (oro i b1 o1 hi g1 g2)) _ _ (htg b1 (mem g1)) (htg b2 (mem k1)) x g3 k3
   ·exact hij
 have hb0m:=htg b0 (mem hb0)
 obtain⟨o00,ho00⟩:∃o,objs[0]? = some o:=⟨_,List.getElem?_eq_getElem h0⟩
 obtain⟨o01,hg0,hro0,_,hr01,_,_⟩:=oab 0 b0 o00 hb0 ho00
 have hv01:∀T,¬o01.void T:=fun T hw=>hroot o00 T ho00 ((Bp hr01 T).1 hw)
 have key:∀x o1,H'.get x=some o1→(x=b0∧o1= .abs (.pack s) false)∨(x∉bs∧H.get x=some o1):=by
  intro x o1 hx
  by_cases hxb:x∈bs
  ·obtain⟨i,hi,e⟩:=List.getElem_of_mem hxb
   have hi':bs[i]? = some x:=by rw[List.getElem?_eq_getElem hi,e]
   by_cases e0:i=0
   ·subst e0
    rw[hb0]at hi';cases hi'
    rw[hS.root b0 hb0]at hx;cases hx
    exact .inl ⟨rfl,rfl⟩
   ·rw[hS.rest i x (by omega) hi']at hx;cases hx
  ·exact .inr ⟨hxb,by rw[←hS.C2 x hxb];exact hx⟩
 have Fown:∀x,F x→¬base.K x:=by
  rintro x ⟨i,hi,b,o1,g1,g2,g3⟩
  obtain⟨o,ho⟩:∃o,objs[i]? = some o:=⟨_,List.getElem?_eq_getElem hi⟩
  obtain⟨o2,r1,r2,r3,r4,r5,r6⟩:=oab i b o g1 ho
  rw[g2]at r1;cases r1
  rcases g3 with⟨a,g3⟩ | ⟨a,g3,gv⟩
  ·obtain⟨a',r,rfl⟩:=DF a
   exact(q.rep b a' r _ g2 (htg b (mem g1))).2 r2 x g3
  ·rw[g3];exact h.own b o1 g2 r2 _ (htg b (mem g1)) gv
 have Fout:∀x,F x→∀y o2 T2,y∉bs→H.get y=some o2→μ y=some T2→((o2.isAbs=true∧φ y x)∨(o2.isAbs=false∧x=T2.c∧¬o2.void T2))→False:=by
  rintro x ⟨i,hi,b,o1,g1,g2,g3⟩ y o2 T2 hy hg hm hp
  exact apart b o1 y o2 (by rintro rfl;exact hy (mem g1)) g2 hg (.inl (oro i b o1 hi g1 g2)) _ _ (htg b (mem g1)) hm x g3 hp
 have hroot2:F (tg b0).c:=⟨0,h0,root 0 b0 o01 hb0 hg0 (hv01 _)⟩
 have cOf:∀y o2 T2,H.get y=some o2→μ y=some T2→¬o2.void T2→((o2.isAbs=true∧φ y T2.c)∨(o2.isAbs=false∧T2.c=T2.c∧¬o2.void T2)):=by
  intro y o2 T2 hg hm hv
  cases hab:o2.isAbs
  ·exact .inr ⟨rfl,rfl,hv⟩
  ·obtain⟨a,r,rfl⟩:=DF hab
   exact .inl ⟨rfl,(Cx.GB _ _ _ _ (q.rep y a r T2 hg hm).1).1 (QA hv)⟩
 refine⟨⟨?_,?_,?_,?_,h.bound,h.size,h.below,h.out,h.os,?_,h.le,h.grow⟩,⟨Ad.le_refl _,by rw[hS.next];exact Nat.le_refl _,?_⟩⟩
 ·intro x o1 hx T' hT'
  rcases key x o1 hx with⟨rfl,rfl⟩ | ⟨hxb,D5⟩
  ·obtain⟨o',r1,_⟩:=h.obj _ _ hg0 T' hT'
   exact⟨o',r1,.abs T' _ _ _⟩
  ·exact h.obj x o1 D5 T' hT'
 ·intro x o1 hx hro T' hT' hv
  rcases key x o1 hx with⟨rfl,rfl⟩ | ⟨hxb,D5⟩
  ·exact h.own _ _ hg0 hro0 T' hT' (hv01 _)
  ·exact h.own x o1 D5 hro T' hT' hv
 ·intro x y o1 o2 hx hy T1 T2 h1 h2 v1 v2 hc hrr
  rcases key x o1 hx with⟨rfl,rfl⟩ | ⟨hxb,D5⟩
  ·rcases key y o2 hy with⟨rfl,rfl⟩ | ⟨hyb,hy2⟩
   ·rfl
   ·exact h.inj _ y _ o2 hg0 hy2 T1 T2 h1 h2 (hv01 _) v2 hc (.inl hro0)
  ·rcases key y o2 hy with⟨rfl,rfl⟩ | ⟨hyb,hy2⟩
   ·exact h.inj x _ o1 _ D5 hg0 T1 T2 h1 h2 v1 (hv01 _) hc (.inr hro0)
   ·exact h.inj x y o1 o2 D5 hy2 T1 T2 h1 h2 v1 v2 hc hrr
 ·intro x hx
  rw[hS.next]at hx
  refine⟨?_,(h.fresh x hx).2⟩
  have:x∉bs:=fun hm=>by
   have:=htg x hm
   rw[(h.fresh x hx).2]at this;cases this
  rw[hS.C2 x this];exact(h.fresh x hx).1
 ·refine⟨fun x=>if x=b0 then F else φ x,?_,?_⟩
  ·intro x a r T' hx hT'
   rcases key x _ hx with⟨rfl,e⟩ | ⟨hxb,D5⟩
   ·cases e
    rw[hb0m]at hT';cases hT'
    simp only[if_true]
    exact⟨hrep,fun _=>Fown⟩
   ·have:x≠b0:=by rintro rfl;exact hxb (mem hb0)
    simp only[if_neg this]
    exact q.rep x a r T' D5 hT'
  ·intro x a r T' hx hT' y o2 T2 hy hT2 hne2
   rcases key x _ hx with⟨rfl,e⟩ | ⟨hxb,D5⟩
   ·cases e
    rcases key y o2 hy with⟨rfl,_⟩ | ⟨hyb,hy2⟩
    ·exact absurd rfl hne2
    ·simp only[if_true,if_neg hne2]
     exact⟨fun hv2 e=>Fout _ e y o2 T2 hyb hy2 hT2 (cOf y o2 T2 hy2 hT2 hv2),fun hab z hz hz2=>Fout z hz y o2 T2 hyb hy2 hT2 (.inl ⟨hab,hz2⟩)⟩
   ·have hxn:x≠b0:=by rintro rfl;exact hxb (mem hb0)
    rcases key y o2 hy with⟨rfl,e⟩ | ⟨hyb,hy2⟩
    ·rw[hb0m]at hT2;cases hT2
     simp only[if_true,if_neg hxn]
     exact⟨fun _ e=>Fout _ hroot2 x _ T' hxb D5 hT' (.inl ⟨rfl,e⟩),fun _ z hz hz2=>Fout z hz2 x _ T' hxb D5 hT' (.inl ⟨rfl,hz⟩)⟩
    ·have hyn:y≠b0:=by rintro rfl;exact hyb (mem hb0)
     simp only[if_neg hxn,if_neg hyn]
     exact q.D2 x a r T' D5 hT' y o2 T2 hy2 hT2 hne2
 ·intro x hx hn
  refine⟨hn,hS.C2 x fun hm=>?_⟩
  have:=htg x hm
  rw[hn]at this;cases this
end
end Go.AD

namespace Go.AD
theorem ZO {laid:List (Nat × List Value)} {N:Nat} {bs:List Nat} {nx k b:Nat} (h:b < N):FH laid N bs nx k b=Kq laid N b:=H9 h
theorem YU {laid:List (Nat × List Value)} {N:Nat} {bs:List Nat} {nx k b:Nat} (h:N≤b) (h2:b < N+bs.length):FH laid N bs nx k b=bs[b - N]?:=by
 unfold FH
 rw[Dz h,List.getElem?_append_left (by omega)]
theorem aE {laid:List (Nat × List Value)} {N:Nat} {bs:List Nat} {nx k b:Nat} (h:N+bs.length≤b) (h2:b < N+bs.length+k):FH laid N bs nx k b=some (nx+(b - (N+bs.length))):=by
 unfold FH
 rw[Dz (by omega),List.getElem?_append_right (by omega),List.getElem?_map,List.getElem?_range (by omega)]
 simp only[Option.map_some,Option.some.injEq]
 omega
theorem BZ {P:Program} {laid:List (Nat × List Value)} {fs:List (FuncId × Ci)} (hfs:Au P laid fs) (hm:P.follows .mixedOrders=true) {f:FuncId} {n N:Nat} (he:entry P f=some (n,BH P f [])) (hN:(laid.all fun p=>Nat.blt p.1 N)=true)
 {muts:List Bool} {G:List Value→List AJ→GT} (hG:∀argsc objs x,(G argsc objs).run=some x→(∀(j:Nat) (o:AJ),objs[j]? = some o→Dw muts j=true→o.ro=false)→
  argsc.length≤n∧At (Cf P laid fs) (N+objs.length) (fun b=>N≤b∧b < N+objs.length) f (fun v Hf=>Ck laid N objs.length muts x v Hf) (GO f (CQ 0 argsc .leaf) n (BH P f []) (BF ⟨.leaf,N⟩ (Fe muts 0 objs)))):
 Dr P laid f (Ay laid N muts G):=by
 refine⟨⟨n,_,he⟩,?_⟩
 intro base W0 μ H W args args' v H' hW hH hl ha hF
 unfold Ay at hF
 generalize hbs:Ah H N 200 (args.flatMap (Ac 4)) []=bs at hF
 have hreach:=FY hH (N:=N) 200 (args.flatMap (Ac 4)) [] (IK ha) ⟨List.nodup_nil,fun b hb=>by cases hb⟩
 rw[hbs]at hreach
 obtain⟨hnd,hbs2⟩:=hreach
 split at hF
 rotate_left
 ·cases hF
 rename_i argsc objs h1 h2
 cases hmu:H8 muts H 0 bs
 ·simp only[hmu,cond_false]at hF;cases hF
 simp only[hmu,cond_true]at hF
 split at hF
 rotate_left
 ·cases hF
 rename_i x hx
 unfold PF at hF
 split at hF
 rotate_left
 ·cases hF
 rename_i va Hb e1 e2
 split at hF
 rotate_left
 ·cases hF
 rename_i H2 e3
 cases hF
 obtain⟨ol,oget⟩:=Q0 h2
 obtain⟨n1,n2,n3,n4⟩:=Py e3
 obtain⟨b1,b2,b3,b4⟩:=Ny e2 hnd
 have hbsAt:∀(j b:Nat),bs[j]? = some b→N≤b∧∃T,μ b=some T:=fun j b hb=>hbs2 b (List.mem_of_getElem? hb)
 have hro:∀(j:Nat) (o:AJ),objs[j]? = some o→Dw muts j=true→o.ro=false:=by
  intro j o ho hmj
  have hj:j < bs.length:=by
   rcases Nat.lt_or_ge j objs.length with h | h
   ·omega
   ·rw[List.getElem?_eq_none h]at ho;cases ho
  obtain⟨p,p1,q1,q2,q3⟩:=oget j bs[j] (List.getElem?_eq_getElem hj)
  obtain⟨p',r1,r2⟩:=MK hmu j bs[j] (List.getElem?_eq_getElem hj) (by rw[Nat.zero_add];exact hmj)
  rw[q1]at r1;cases r1
  rw[ho]at q3;cases q3
  rw[(C4 q2).1];exact r2
 obtain⟨g1,g2⟩:=hG argsc objs x hx hro
 have hout:∀b i,EZ laid N bs b=some i→(b < N∧laid.any (fun p=>Nat.beq b p.1)=true∧i=b)∨(N≤b∧bs[b - N]? = some i):=by
  intro b i hb
  rcases Nat.lt_or_ge b N with h | h
  ·rw[H9 h]at hb
   obtain⟨rfl,_,h3⟩:=Lu hb
   exact .inl ⟨h,h3,rfl⟩
  ·rw[Dz h]at hb;exact .inr ⟨h,hb⟩
 have hdomb:∀b i,EZ laid N bs b=some i→∃T,μ i=some T:=by
  intro b i hb
  rcases hout b i hb with⟨_,h4,rfl⟩ | ⟨_,h4⟩
  ·obtain⟨T,h3,_⟩:=hl i h4;exact⟨T,h3⟩
  ·exact(hbsAt _ _ h4).2
 have hinj:∀b1 b2 i,EZ laid N bs b1=some i→EZ laid N bs b2=some i→b1=b2:=by
  intro c1 c2 i q1 q2
  rcases hout c1 i q1 with⟨a1,_,a3⟩ | ⟨a1,a2⟩<;>rcases hout c2 i q2 with⟨d1,_,d3⟩ | ⟨d1,d2⟩
  ·omega
  ·have:=(hbsAt _ _ d2).1;omega
  ·have:=(hbsAt _ _ a2).1;omega
  ·have:=Ty hnd a2 d2;omega
 have hiN:∀b i,EZ laid N bs b=some i→i < H.next:=fun b i hb=>let ⟨_,hT⟩:=hdomb b i hb;hH.Mz hT
 have hHn:(BF ⟨.leaf,N⟩ (Fe muts 0 objs)).next=N+bs.length:=by rw[N3,Jk,ol]
 have hlt:∀b i,EZ laid N bs b=some i→b < (BF ⟨.leaf,N⟩ (Fe muts 0 objs)).next:=by
  intro b i hb
  rw[hHn]
  rcases hout b i hb with⟨h4,_,_⟩ | ⟨h4,h5⟩
  ·omega
  ·have:b - N < bs.length:=by
    rcases Nat.lt_or_ge (b - N) bs.length with h | h
    ·exact h
    ·rw[List.getElem?_eq_none h]at h5;cases h5
   omega
 have hHg:∀b o,(BF ⟨.leaf,N⟩ (Fe muts 0 objs)).get b=some o→N≤b∧∃o0,objs[b - N]? = some o0∧o=(bif Dw muts (b - N)then o0 else H4 o0):=by
  intro b o hb
  rw[EI]at hb
  simp only at hb
  by_cases h4:b < N
  ·rw[if_pos h4]at hb;cases hb
  ·rw[if_neg h4,Kd,Nat.zero_add]at hb
   cases hq:objs[b - N]? with
   | none=>rw[hq]at hb;cases hb
   | some o0=>rw[hq]at hb;simp only[Option.map_some,Option.some.injEq]at hb;exact⟨by omega,o0,rfl,hb.symm⟩
 have hroV:∀b o,(BF ⟨.leaf,N⟩ (Fe muts 0 objs)).get b=some o→o.ro=false→Dw muts (b - N)=true:=by
  intro b o hb hr
  obtain⟨h4,o0,h5,rfl⟩:=hHg b o hb
  cases hmm:Dw muts (b - N)
  ·rw[hmm]at hr
   simp only[cond_false]at hr
   have hj:b - N < bs.length:=by
    rcases Nat.lt_or_ge (b - N) objs.length with h | h
    ·omega
    ·rw[List.getElem?_eq_none h]at h5;cases h5
   obtain⟨p,p1,q1,q2,q3⟩:=oget (b - N) _ (List.getElem?_eq_getElem hj)
   rw[h5]at q3;cases q3
   have:=(KQ (P2 (fun _ _ h=>RN h) q2)).2
   rw[hr]at this;cases this
  ·rfl
 refine ec (X:=Cf P laid fs) (fun b W0 hW=>hfs.GC b W0 hW) (FZ hm rfl) hW hH hl he (Hc:=BF ⟨.leaf,N⟩ (Fe muts 0 objs)) (argsc:=argsc) (ρ:=EZ laid N bs) g1 (Ez (Oy (fun _ _ h=>RN h) 6) _ _ h1) ha hlt hdomb hinj
  (by rw[n1,b1];omega) (fun g hg=>?_) (fun b o hb=>?_) (fun i hi hno=>?_) (fun i hi=>?_) ?_
 ·have hg:laid.any (fun p=>Nat.beq g p.1)=true:=hg
  have hgN:g < N:=by
   obtain⟨p,hp1,hp2⟩:=List.any_eq_true.1 hg
   have:=List.all_eq_true.1 hN p hp1
   rw[Nat.eq_of_beq_eq_true hp2];exact Nat.le_of_ble_eq_true this
  rw[H9 hgN]
  unfold Kq
  rw[show Nat.blt g N=true from Nat.ble_eq_true_of_le hgN,hg];rfl
 ·obtain⟨h4,o0,h5,rfl⟩:=hHg b o hb
  have hj:b - N < bs.length:=by
   rcases Nat.lt_or_ge (b - N) objs.length with h | h
   ·omega
   ·rw[List.getElem?_eq_none h]at h5;cases h5
  obtain⟨p,p1,q1,q2,q3⟩:=oget (b - N) _ (List.getElem?_eq_getElem hj)
  rw[h5]at q3;cases q3
  have hinv:=P2 (τ:=EZ laid N bs) (fun _ _ h=>RN h) q2
  refine⟨bs[b - N],p,by rw[Dz h4];exact List.getElem?_eq_getElem hj,q1,?_⟩
  cases hmm:Dw muts (b - N)
  ·exact .inr ⟨(KQ hinv).2,(KQ hinv).1⟩
  ·exact .inl hinv
 ·rw[n2 i (by rw[b1];exact hi)]
  by_cases hi2:i∈bs
  ·obtain⟨j,hj,hje⟩:=List.getElem_of_mem hi2
   have hjb:bs[j]? = some i:=by rw[List.getElem?_eq_getElem hj,hje]
   refine b3 j i hjb ?_
   cases hmm:Dw muts (0+j)
   ·rfl
   ·exfalso
    rw[Nat.zero_add]at hmm
    obtain⟨p,p1,q1,q2,q3⟩:=oget j i hjb
    have hg:(BF ⟨.leaf,N⟩ (Fe muts 0 objs)).get (N+j)=some p1:=by
     rw[EI]
     simp only
     rw[if_neg (by omega),Kd,Nat.zero_add,show N+j - N=j by omega,q3]
     simp only[Option.map_some,hmm,cond_true]
    exact hno (N+j) p1 hg (hro j p1 q3 hmm) (by rw[Dz (by omega),show N+j - N=j by omega];exact hjb)
  ·exact b2 i hi2
 ·rw[n1,b1]at hi
  rw[n4 i (by rw[b1];exact hi)]
  have hge:H.next≤i:=by omega
  have hnb:i∉bs:=by
   intro hb
   obtain⟨_,T,hT⟩:=hbs2 i hb
   have:=hH.Mz hT;omega
  rw[b2 i hnb]
  exact(hH.fresh i hge).1
 ·rw[hHn,←ol]
  refine(g2.mono fun vc Hf ⟨ns,m1,m2,m3,m4,m5,m6⟩=>?_).sub fun b hb=>⟨bs[b - N]'(by omega),by rw[Dz hb.1];exact List.getElem?_eq_getElem _⟩
  have hcomp:∀c r,Ck.HX laid N objs.length ns c=some r→(if r < N+objs.length then EZ laid N bs r else(posOf r ns).map (H.next+·))=FH laid N bs H.next x.news.length c:=by
   intro c r hc
   unfold Ck.HX at hc
   by_cases c1:c < N
   ·rw[if_pos c1]at hc
    obtain⟨rfl,_,_⟩:=Lu hc
    rw[if_pos (by omega),H9 c1,ZO c1]
   ·rw[if_neg c1]at hc
    by_cases c2:c < N+objs.length
    ·rw[if_pos c2]at hc
     cases hc
     rw[if_pos c2,Dz (by omega),YU (by omega) (by omega)]
    ·rw[if_neg c2]at hc
     have hj:c - (N+objs.length) < ns.length:=by
      rcases Nat.lt_or_ge (c - (N+objs.length)) ns.length with h | h
      ·exact h
      ·rw[List.getElem?_eq_none h]at hc;cases hc
     have hge:=m2 r (List.mem_of_getElem? hc)
     rw[if_neg (by omega),Hr m1 hc,aE (by omega) (by omega),ol];rfl
  refine⟨fun b=>if b < N+objs.length then EZ laid N bs b else(posOf b ns).map (H.next+·),?_,?_,?_,?_,?_⟩
  ·intro c1 c2 i q1 q2
   by_cases d1:c1 < N+objs.length<;>by_cases d2:c2 < N+objs.length
   ·simp only[d1,d2,if_true]at q1 q2;exact hinj c1 c2 i q1 q2
   ·simp only[d1,d2,if_true,if_false]at q1 q2
    obtain⟨j,_,rfl⟩:=Option.map_eq_some_iff.1 q2
    have:=hiN _ _ q1;omega
   ·simp only[d1,d2,if_true,if_false]at q1 q2
    obtain⟨j,_,rfl⟩:=Option.map_eq_some_iff.1 q1
    have:=hiN _ _ q2;omega
   ·simp only[d1,d2,if_false]at q1 q2
    obtain⟨j1,w1,w2⟩:=Option.map_eq_some_iff.1 q1
    obtain⟨j2,w3,w4⟩:=Option.map_eq_some_iff.1 q2
    have:j1=j2:=by omega
    subst this
    have:=Jd w1
    rw[Jd w3]at this;cases this;rfl
  ·intro b hb
   rw[hHn,←ol]at hb
   simp only[hb,if_true]
  ·intro b i hb hge
   rw[hHn,←ol]at hge
   simp only[show ¬b < N+objs.length by omega,if_false]at hb
   obtain⟨j,w1,rfl⟩:=Option.map_eq_some_iff.1 hb
   have:=Jd w1
   have hj:j < ns.length:=by
    rcases Nat.lt_or_ge j ns.length with h | h
    ·exact h
    ·rw[List.getElem?_eq_none h]at this;cases this
   rw[n1,b1];omega
  ·intro i o hi hc
   by_cases hge:H.next≤i
   ·have hiu:i < H.next+x.news.length:=by
     rcases Nat.lt_or_ge i (H.next+x.news.length)with h | h
     ·exact h
     ·rw[n4 i (by rw[b1];exact h)]at hi
      have hnb:i∉bs:=by
       intro hb
       obtain⟨_,T,hT⟩:=hbs2 i hb
       have:=hH.Mz hT;omega
      rw[b2 i hnb,(hH.fresh i hge).1]at hi;cases hi
    obtain⟨o0,w1,w2,w3⟩:=n3 i o (by rw[b1];exact hge) (by rw[b1];exact hiu) hi
    rw[b1]at w1
    have hj:i - H.next < ns.length:=by omega
    have hb:=List.getElem?_eq_getElem hj
    obtain⟨o1,y1,y2⟩:=m5 (i - H.next) _ o0 hb w1
    have hge2:=m2 _ (List.mem_of_getElem? hb)
    have hro1:BN (fun b=>if b < N+objs.length then EZ laid N bs b else(posOf b ns).map (H.next+·)) o1=some o:=by
     rw[OD (υ:=FH laid N bs H.next x.news.length) hcomp y1];exact w2
    refine⟨ns[i - H.next],o1,?_,y2,hro1,by rw[←(C4 hro1).1];exact w3⟩
    simp only[show ¬ns[i - H.next] < N+objs.length by omega,if_false]
    rw[Hr m1 hb]
    show some (H.next+(i - H.next))=some i
    congr 1;omega
   ·rcases hc with hc | ⟨b,o0,q1,q2,q3⟩
    ·exact absurd hc hge
    ·have hmm:=hroV b o0 q1 q2
     obtain⟨q4,p0,q5,q6⟩:=hHg b o0 q1
     rw[Dz q4]at q3
     rw[n2 i (by rw[b1];omega)]at hi
     obtain⟨o2,w1,w2,w3⟩:=b4 (b - N) i o q3 (by rw[Nat.zero_add];exact hmm) hi
     have hj:b - N < objs.length:=by
      rcases Nat.lt_or_ge (b - N) objs.length with h | h
      ·exact h
      ·rw[List.getElem?_eq_none h]at q5;cases q5
     obtain⟨o1,y1,y2⟩:=m6 (b - N) o2 hj hmm w1
     rw[show N+(b - N)=b by omega]at y2
     have hro1:BN (fun b=>if b < N+objs.length then EZ laid N bs b else(posOf b ns).map (H.next+·)) o1=some o:=by
      rw[OD (υ:=FH laid N bs H.next x.news.length) hcomp y1];exact w2
     refine⟨b,o1,?_,y2,hro1,by rw[←(C4 hro1).1];exact w3⟩
     simp only[show b < N+objs.length by omega,if_true]
     rw[Dz q4];exact q3
  ·rw[show E9 _ vc=E9 (FH laid N bs H.next x.news.length) x.v from Mh hcomp 6 _ _ m4]
   exact e1
theorem QI {P:Program} {laid:List (Nat × List Value)} {fs:List (FuncId × Ci)} (hfs:Au P laid fs) (hm:P.follows .mixedOrders=true) {f:FuncId} {n N:Nat} (he:entry P f=some (n,BH P f [])) (hN:(laid.all fun p=>Nat.blt p.1 N)=true)
 {muts:List Bool} {G:List Value→List AJ→GT} (hG:∀argsc objs x,(G argsc objs).run=some x→(∀(j:Nat) (o:AJ),objs[j]? = some o→Dw muts j=true→o.ro=false)→
  argsc.length≤n∧Ai (Cf P laid fs) (N+objs.length) f (fun v Hf=>Ck laid N objs.length muts x v Hf) (GO f (CQ 0 argsc .leaf) n (BH P f []) (BF ⟨.leaf,N⟩ (Fe muts 0 objs)))):
 Dr P laid f (Ay laid N muts G):=
 BZ hfs hm he hN fun argsc objs x hx hro=>⟨(hG argsc objs x hx hro).1,(hG argsc objs x hx hro).2.I3⟩
end Go.AD

namespace Go.AD
noncomputable def NR:List Nat→AA→AA
 | [],H=>H
 | b::r,H=>NR r (H.del b)
theorem Nd:∀(r:List Nat) (H:AA),(NR r H).next=H.next
 | [],_=>rfl
 | b::r,H=>Nd r (H.del b)
theorem Mr:∀(r:List Nat) (H:AA) (x:Nat),(NR r H).get x=if x∈r then none else H.get x
 | [],H,x=>by simp[NR]
 | b::r,H,x=>by
  rw[NR,Mr r (H.del b) x,AA.BQ]
  by_cases h1:x∈r
  ·simp[h1]
  ·by_cases h2:x=b
   ·simp[h2]
   ·simp[h1,h2]
noncomputable def C1 (s:Pk):List Nat→AA→AA
 | [],H=>H
 | b::r,H=>(NR r H).put b (.abs (.pack s) false)
theorem B0 {s:Pk} {bs:List Nat} {H:AA} (hnd:bs.Nodup):dX H s bs (C1 s bs H):=by
 cases bs with
 | nil=>exact⟨rfl,fun b h=>(by cases h),fun i b _ h=>(by cases h),fun x _=>rfl⟩
 | cons b r=>
  have hbr:b∉r:=(List.nodup_cons.1 hnd).1
  refine⟨?_,?_,?_,?_⟩
  ·show(NR r H).next=H.next
   exact Nd r H
  ·intro b' hb'
   cases hb'
   show((NR r H).put b _).get b=_
   rw[AA.AN,if_pos rfl]
  ·intro i b' hi hb'
   cases i with
   | zero=>omega
   | succ i=>
    have hm:b'∈r:=List.mem_of_getElem? (i:=i) hb'
    show((NR r H).put b _).get b'=_
    rw[AA.AN,if_neg (by rintro rfl;exact hbr hm),Mr,if_pos hm]
  ·intro x hx
   simp only[List.mem_cons,not_or]at hx
   show((NR r H).put b _).get x=_
   rw[AA.AN,if_neg hx.1,Mr,if_neg hx.2]
inductive B7 (D:Nat→Prop) (v:Value):AA→AA→Prop where
 | refl (H:AA):B7 D v H H
 | step {H H2:AA} (s:Pk) (objs:List AJ) (bs rs:List Nat) (hr:DU s objs) (hne:objs≠[]) (hlen:bs.length=objs.length) (hnd:bs.Nodup) (hrs:∀b∈rs,b∈Ac 4 v∨D b)
  (hreach:∀b∈bs,b∈Ah H 0 200 rs []) (hobj:∀(i b:Nat) (o:AJ),bs[i]? = some b→objs[i]? = some o→∃o1,H.get b=some o1∧o1.ro=false∧o1.Gs=true∧BN (U9 bs (D9 s)) o=some o1) (hroot:∀o T,objs[0]? = some o→¬o.void T)
  (k:B7 D v (C1 s bs H) H2):B7 D v H H2
theorem B7.ok {D:Nat→Prop} {v:Value} {H H2:AA} (h:B7 D v H H2) {base:Env} {W0 W:World} {μ:Ad} {v':Value} (hD:∀b,D b→∃T,base.ar b=some T) (hv:AH μ v v'):AP base W0 μ H W→AP base W0 μ H2 W:=by
 induction h with
 | refl H=>exact fun h=>h
 | step s objs bs rs hr hne hlen hnd hrs hreach hobj hroot k ih=>
  intro hH
  refine ih (hH.shut hr hnd hlen hne (fun b hb=>?_) hobj (B0 hnd) hroot).1
  have hr2:=FY hH (N:=0) 200 rs [] (fun b hb=>?_) ⟨List.nodup_nil,fun b hb=>by cases hb⟩
  ·exact(hr2.2 b (hreach b hb)).2
  ·rcases hrs b hb with hb | hb
   ·exact IK (A2.cons hv .nil) b (by simpa using hb)
   ·obtain⟨T,hT⟩:=hD b hb
    exact⟨T,hH.le b T hT⟩
section
variable {X:Ctx} {N:Nat} {D:Nat→Prop} {f:FuncId} {Q Q':Value→AA→Prop}
theorem At.opened {c:A5} {b:Nat} {s:Pk} {ro:Bool} (hD:D b) (hb:c.H.get b=some (.abs (.pack s) ro)) (hp:∀ops p k,c.fr.todo≠ .DZ ops p::k)
 (h:∀objs,DU s objs→∃H',I6 c.H b ro objs H' (D9 s)∧At X N D f Q ⟨c.fr,c.cs,H'⟩):At X N D f Q c:=by
 intro base W0 hb0 hDm hok hplan cs0 μ fr cs W hm
 obtain⟨T,hT⟩:=hDm b hD
 obtain⟨hH,hlaid,g,gs,hfr,hcs,hnd⟩:=hm
 obtain⟨objs,hr,ho⟩:=hH.opened hb (hH.le b T hT)
 obtain⟨H',hO,hrun⟩:=h objs hr
 obtain⟨μ',hH',hE⟩:=ho H' hO
 refine hrun base W0 hb0 hDm hok hplan cs0 μ' fr cs W ⟨hH',hlaid.mono hE.le,g,gs,?_,hcs.mono (hE.keeps _),hnd⟩
 obtain⟨f0,cs1,H1⟩:=c
 cases hfr with
 | plain fn t n tm todo todo' ds ds' r kd rd rd' ht hi hd hr=>exact .plain fn t n tm todo todo' ds ds' r kd rd rd' (ht.mono hE.le) (hi.mono hE.le) (hd.mono hE.le) (hr.mono hE.le)
 | drawn fn t n tm ops Bj idx D G k k' ds ds' kd rd rd' hD hk hd hr=>exact absurd rfl (hp ops Bj k)
theorem At.shut {c:A5} (h:At X N D f Q c) (hq:∀v H,Q v H→∃H2,B7 D v H H2∧Q' v H2):At X N D f Q' c:=by
 intro base W0 hb0 hDm hok hplan cs0 μ fr cs W hm
 obtain⟨c',⟨v,H,v1,H1,h1,h2,h3⟩,h4⟩:=h base W0 hb0 hDm hok hplan cs0 μ fr cs W hm
 obtain⟨H2,k1,k2⟩:=hq v1 H1 h3
 refine⟨c',⟨v,H,v1,H2,h1,fun μ1 W1 v' hv hH=>?_,k2⟩,h4⟩
 obtain⟨μ2,g0,g1,g2⟩:=h2 μ1 W1 v' hv hH
 exact⟨μ2,g0,k1.ok hDm g2 g1,g2⟩
theorem At.tell {c:A5} (h:At X N D f Q c) (hq:∀v H,Q v H→∃v2 H2,(∀(base:Env) (W0:World) (μ:Ad) (W:World) (v':Value),(∀b,D b→∃T,μ b=some T)→AH μ v v'→AP base W0 μ H W→∃μ2,μ.le μ2∧AP base W0 μ2 H2 W∧AH μ2 v2 v')∧Q' v2 H2):At X N D f Q' c:=by
 intro base W0 hb0 hDm hok hplan cs0 μ fr cs W hm
 obtain⟨c',⟨v,H,v1,H1,h1,h2,h3⟩,h4⟩:=h base W0 hb0 hDm hok hplan cs0 μ fr cs W hm
 obtain⟨v2,H2,k1,k2⟩:=hq v1 H1 h3
 refine⟨c',⟨v,H,v2,H2,h1,fun μ1 W1 v' hv hH=>?_,k2⟩,h4⟩
 obtain⟨μ2,g0,g1,g2⟩:=h2 μ1 W1 v' hv hH
 obtain⟨μ3,f0,f1,f2⟩:=k1 base W0 μ2 W1 v' (fun b hb=>by obtain⟨T,hT⟩:=hDm b hb;exact⟨T,g1.le b T hT⟩) g2 g1
 exact⟨μ3,Ad.le_trans g0 f0,f1,f2⟩
theorem At.told {c:A5} (h:At X N D f Q c) (hq:∀v H,Q v H→∃H2,(∀(base:Env) (W0:World) (μ:Ad) (W:World),AP base W0 μ H W→AP base W0 μ H2 W)∧Q' v H2):At X N D f Q' c:=
 h.tell fun v H q=>let ⟨H2,k1,k2⟩:=hq v H q;⟨v,H2,fun base W0 μ W _ _ hv hH=>⟨μ,Ad.le_refl _,k1 base W0 μ W hH,hv⟩,k2⟩
theorem At.row {c:A5} {k:EK} (h:At X N D f Q c) (hq:∀v H,Q v H→∃b n l,v= .slice (some ⟨b,0,none⟩) n (AE+n)∧H.get b=some (.cells (A3 k l) k.length false)∧Q' (.slice (some ⟨b,0,some 0⟩) n AE) (H.put b (.vec k l false))) (hk0:k.length≠0:=by decide):At X N D f Q' c:=by
 intro base W0 hb0 hDm hok hplan cs0 μ fr cs W hm
 obtain⟨c',⟨v,H,v1,H1,h1,h2,h3⟩,h4⟩:=h base W0 hb0 hDm hok hplan cs0 μ fr cs W hm
 obtain⟨b,n,l,rfl,hg,k2⟩:=hq v1 H1 h3
 refine⟨c',⟨v,H,_,_,h1,fun μ1 W1 v' hv hH=>?_,k2⟩,h4⟩
 obtain⟨μ2,g0,g1,g2⟩:=h2 μ1 W1 v' hv hH
 have g3:=g1.NB hg
 exact⟨μ2,g0,g3,L3 (j:=0) hk0 (Nat.le_refl _) (fun T hT=>g3.elem (by rw[AA.AN,if_pos rfl]) hT) (by rw[Nat.zero_mul];exact HU g2)⟩
end
end Go.AD

namespace Go.AD
noncomputable def ax (sz bytes b off len i n:Nat) (new:List Value) (H:AA):Option (Value × AA):=
 match H.get b with
 | some (.cells cs e false)=>
  let C2:=(cs.drop off).take (len * sz)
  bif Nat.beq C2.length (len * sz)&&Nat.beq e sz&&C2.all CG&&new.all CG&&Nat.ble ((2 * (len+n)+192) * bytes) 281474976710656&&Nat.ble (len+n) 4611686018427387904 then
   some (.slice (some ⟨H.next,0,none⟩) (len+n) (AE+(len+n)),(H.del b).alloc (.cells (C2.take (i * sz)++(new++C2.drop (i * sz))) sz false))
  else none
 | _=>none
def Qz (o:Option AJ):Bool:=
 match o with
 | some (.cells _ e false)=> !(Nat.beq e 1)
 | _=>false
noncomputable def Le (sz bytes:Nat):Ci:=fun args H=>
 match args with
 | [.slice (some ⟨b,off,none⟩) len cap,.int .i64 (.ofNat i),.slice (some ⟨vb,voff,none⟩) m vcap]=>
  bif Nat.ble AE cap&&Nat.blt i len&& !(Nat.beq vb b)&& !(Nat.beq m 0)&&Qz (H.get vb)then
   match DL sz (.slice (some ⟨vb,voff,none⟩) m vcap) H with
   | some (n,new)=>ax sz bytes b off len i n new H
   | none=>none
  else none
 | _=>none
end Go.AD

namespace Go.AD
theorem Df (c:Nat) (t:TypeId) (fz:Nat × Nat):∀(l:List Value) (o:Nat) (a:Array Value) (w:World),w.heap[c]? = some (.cells a t fz)→o+l.length≤a.size→
 ∃a':Array Value,(w.setCells c o l).heap[c]? = some (.cells a' t fz)∧a'.toList=BL a.toList o l∧a'.size=a.size∧(w.setCells c o l).heap.size=w.heap.size∧(∀i,i≠c→(w.setCells c o l).heap[i]? = w.heap[i]?)∧(w.setCells c o l).output=w.output∧(w.setCells c o l).os=w.os:=by
 intro l
 induction l with
 | nil=>intro o a w hw _;exact⟨a,hw,by rw[HO],rfl,rfl,fun _ _=>rfl,rfl,rfl⟩
 | cons v l ih=>
  intro o a w hw hlen
  simp only[List.length_cons]at hlen
  have hw1:(w.setCell ⟨c,o,none⟩ v).heap[c]? = some (.cells (a.setIfInBounds o v) t fz):=by
   simp only[World.setCell,Array.getElem?_modify,if_true,hw]
   rfl
  obtain⟨a',r1,r2,r2b,r3,r4,r5,r6⟩:=ih (o+1) (a.setIfInBounds o v) (w.setCell ⟨c,o,none⟩ v) hw1 (by simp;omega)
  refine⟨a',r1,?_,by rw[r2b];simp,?_,?_,r5,r6⟩
  ·rw[r2,E7 _ _ _ _ (by simp;omega),Array.toList_setIfInBounds]
  ·show((w.setCell ⟨c,o,none⟩ v).setCells c (o+1) l).heap.size=_
   rw[r3];simp[World.setCell]
  ·intro i hi
   show((w.setCell ⟨c,o,none⟩ v).setCells c (o+1) l).heap[i]? = _
   rw[r4 i hi]
   simp only[World.setCell,Array.getElem?_modify]
   rw[if_neg (Ne.symm hi)]
def Qd (P:Program) (f:FuncId) (k:Nat):Prop:=∀(b off n c i vb voff m vc:Nat) (cs vs:List Value) (w:World),i < n→0 < m→n+m≤c→c≤9223372036854775807→vb≠b→
 cs.length=n * k→vs.length=m * k→
 (∀j v,cs[j]? = some v→w.cell? ⟨b,off+j,none⟩=some v)→(∀j,j < (n+m) * k→(w.cell? ⟨b,off+j,none⟩).isSome=true)→(∀j,j < (n+m) * k→w.frozen? ⟨b,off+j,none⟩=false)→
 (∀j v,vs[j]? = some v→w.cell? ⟨vb,voff+j,none⟩=some v)→(∀v∈cs,v.oneCell'=true)→(∀v∈vs,v.oneCell'=true)→
 ∀(tA tB:TypeId) (kA kB:Nat),w.shape? vb=some (tA,kA)→w.shape? b=some (tB,kB)→kB≠0→w.frozen? ⟨vb,voff,none⟩=false→w.frozen? ⟨vb,kA,none⟩=false→
 Calls P f #[.slice (some ⟨b,off,none⟩) n c,.int .i64 i,.slice (some ⟨vb,voff,none⟩) m vc] w fun e w'=>
  e= .returned (.slice (some ⟨b,off,none⟩) (n+m) c)∧w'=(w.drew.setCells b (off+(i+m) * k) (cs.drop (i * k))).setCells b (off+i * k) vs
def Su (P:Program) (f:FuncId) (k B:Nat) (E:TypeId):Prop:=∀(b off n c i vb voff m vc:Nat) (cs vs:List Value) (w:World),i < n→0 < m→n≤c→c < n+m→(2 * (n+m)+192) * B≤281474976710656→
 cs.length=n * k→vs.length=m * k→
 (∀j v,cs[j]? = some v→w.cell? ⟨b,off+j,none⟩=some v)→
 (∀j v,vs[j]? = some v→w.cell? ⟨vb,voff+j,none⟩=some v)→(∀v∈cs,v.oneCell'=true)→(∀v∈vs,v.oneCell'=true)→
 Calls P f #[.slice (some ⟨b,off,none⟩) n c,.int .i64 i,.slice (some ⟨vb,voff,none⟩) m vc] w fun e w'=>
  ∃(G:Nat) (ROW:Array Value),n+m≤G∧ROW.size=G * k∧ROW.toList.take (i * k)=cs.take (i * k)∧e= .returned (.slice (some ⟨w.heap.size,0,none⟩) (n+m) G)∧G≤9223372036854775807∧
   w'=(((w.alloc (.cells ROW E)).drew.setCells w.heap.size (i * k) vs).drew).setCells w.heap.size ((i+m) * k) (cs.drop (i * k))
theorem IH (A B D:List Value) (y:Nat):BL (A++B) (A.length+y) D=A++BL B y D:=by
 unfold BL
 rw[List.take_append,List.take_of_length_le (by omega),List.append_assoc]
 congr 1
 rw[show A.length+y - A.length=y by omega]
 congr 2
 rw[show A.length+y+D.length=A.length+(y+D.length) by omega,List.drop_append]
 rw[List.drop_eq_nil_of_le (by omega),List.nil_append,show A.length+(y+D.length) - A.length=y+D.length by omega]
theorem VB (A D V:List Value) (x y:Nat) (hxy:x+V.length=y) (hy:y+D.length≤A.length):(BL (BL A y D) x V).take (x+V.length+D.length)=A.take x++(V++D):=by
 unfold BL
 have h1:(A.take y++(D++A.drop (y+D.length))).take x=A.take x:=by
  rw[List.take_append_of_le_length (by rw[List.length_take];omega),List.take_take,Nat.min_eq_left (by omega)]
 have h2:(A.take y++(D++A.drop (y+D.length))).drop (x+V.length)=D++A.drop (y+D.length):=by
  rw[hxy,List.drop_append,List.drop_eq_nil_of_le (by rw[List.length_take];omega),List.nil_append,List.length_take,Nat.min_eq_left (by omega),Nat.sub_self,List.drop_zero]
 rw[h1,h2,←List.append_assoc,←List.append_assoc,←List.append_assoc,List.take_append_of_le_length (by simp;omega),List.take_of_length_le (by simp;omega),List.append_assoc]
theorem Sg (A D V:List Value) (x y:Nat) (hxy:x+V.length=y) (hy:y+D.length≤A.length):(BL (BL A x V) y D).take (x+V.length+D.length)=A.take x++(V++D):=by
 unfold BL
 have h1:(A.take x++(V++A.drop (x+V.length))).take y=A.take x++V:=by
  rw[←List.append_assoc,List.take_append_of_le_length (by simp;omega),List.take_of_length_le (by simp;omega)]
 rw[h1,←List.append_assoc,List.take_append_of_le_length (by simp;omega),List.take_of_length_le (by simp;omega),List.append_assoc]
section
variable {P:Program} {laid:List (Nat × List Value)}
theorem Hj {W:World} {c:Nat} {arr:Array Value} {t:TypeId} {fz:Nat × Nat} (hob:W.heap[c]? = some (.cells arr t fz)) {d n j:Nat} {v:Value} (h:((arr.toList.drop d).take n)[j]? = some v):W.cell? ⟨c,d+j,none⟩=some v:=by
 rw[List.getElem?_take]at h
 split at h
 ·rw[List.getElem?_drop]at h
  simp only[World.cell?,hob]
  simpa using h
 ·cases h
theorem Hu {μ:Ad} {l l':List Value} (h:A2 μ l l') (hok:l.all CG=true):∀v∈l',v.oneCell'=true:=by
 intro q hq
 obtain⟨k,hk,rfl⟩:=List.getElem_of_mem hq
 have hl:=h.length
 have hk2:k < l.length:=by omega
 exact G4 (h.idx k hk2 hk) (List.all_eq_true.1 hok _ (List.getElem_mem hk2))
theorem Sr {f:FuncId} {k B:Nat} {E:TypeId} (hent:∃n c,entry P f=some (n,c)) (hk0:0 < k) (hk1:k≠1) (hS:Qd P f k) (hG:Su P f k B E):Dr P laid f (Le k B):=by
 refine⟨hent,?_⟩
 intro base W0 μ H W args args' v H' hW h hl ha hF
 unfold Le at hF
 split at hF
 ·rename_i b off len cap i vb voff m vcap
  cases hc0:(Nat.ble AE cap&&Nat.blt i len&& !(Nat.beq vb b)&& !(Nat.beq m 0)&&Qz (H.get vb))
  ·simp only[hc0,cond_false]at hF;cases hF
  simp only[hc0,cond_true]at hF
  simp only[Bool.and_eq_true,Bool.not_eq_true']at hc0
  obtain⟨⟨⟨⟨g1,g2⟩,g3⟩,g4⟩,g5⟩:=hc0
  have g1:=Nat.le_of_ble_eq_true g1
  have g2:i < len:=Nat.le_of_ble_eq_true g2
  have g3:vb≠b:=by rintro rfl;rw[Nat.beq_refl]at g3;cases g3
  have g4:m≠0:=by rintro rfl;cases g4
  generalize hq:args'.toList=q at ha
  cases ha with
  | cons h1 ha=>cases ha with
   | cons h2 ha=>cases ha with
    | cons h3 ha=>
     cases ha
     cases h2
     cases h1 with
     | slice _ _ _ _ cap' o' T hm hcr ho=>
      cases h3 with
      | slice _ _ _ _ vcap' vo' T2 hm2 hcr2 ho2=>
       have hargs:args'=#[.slice (some ⟨T.c,o',none⟩) len cap',.int .i64 (Int.ofNat i),.slice (some ⟨T2.c,vo',none⟩) m vcap']:=by rw[←Array.toList_inj,hq]
       subst hargs
       have hcr':cap - AE≤cap'∧len≤cap'∧off+cap' * T.e≤T.r∧(T.e=1∨cap'≤9223372036854775807):=by
        rcases hcr with⟨c1,c2⟩ | ⟨c1,c2,c3,c4,c5⟩
        ·omega
        ·exact⟨c2,c3,c4,c5⟩
       obtain⟨c2,c3,c4,c5⟩:=hcr'
       have hoo:o'=T.d+off:=by
        rcases ho with ho | ⟨e1,_⟩
        ·exact ho
        ·omega
       subst hoo
       have hoo2:vo'=T2.d+voff:=by
        rcases ho2 with ho | ⟨e1,_⟩
        ·exact ho
        ·omega
       subst hoo2
       split at hF
       ·rename_i n new hsrc
        have hmk:m * k≠0:=Nat.mul_ne_zero g4 (by omega)
        unfold DL at hsrc
        simp only at hsrc
        cases hz:Nat.beq (m * k) 0
        ·simp only[hz,cond_false]at hsrc
         split at hsrc
         ·rename_i vcs ve vro hgetv
          cases hll:Nat.beq ((vcs.drop voff).take (m * k)).length (m * k)
          ·simp only[hll,cond_false]at hsrc;cases hsrc
          simp only[hll,cond_true,Option.some.injEq,Prod.mk.injEq]at hsrc
          obtain⟨rfl,rfl⟩:=hsrc
          have hvlen:=Nat.eq_of_beq_eq_true hll
          have hvro:vro=false∧ve≠1:=by
           rw[hgetv]at g5
           unfold Qz at g5
           cases vro
           ·refine⟨rfl,?_⟩
            rintro rfl
            simp at g5
           ·simp at g5
          obtain⟨rfl,hve⟩:=hvro
          unfold ax at hF
          split at hF
          ·rename_i cs e hget
           simp only at hF
           cases hbb:(Nat.beq ((cs.drop off).take (len * k)).length (len * k)&&Nat.beq e k&&((cs.drop off).take (len * k)).all CG&&((vcs.drop voff).take (m * k)).all CG&&Nat.ble ((2 * (len+m)+192) * B) 281474976710656&&Nat.ble (len+m) 4611686018427387904)
           ·simp only[hbb,cond_false]at hF;cases hF
           simp only[hbb,cond_true,Option.some.injEq,Prod.mk.injEq]at hF
           obtain⟨rfl,rfl⟩:=hF
           simp only[Bool.and_eq_true]at hbb
           obtain⟨⟨⟨⟨⟨b1,b2⟩,b3⟩,b4⟩,b5⟩,b6⟩:=hbb
           have b1:=Nat.eq_of_beq_eq_true b1
           have b2:=Nat.eq_of_beq_eq_true b2
           have b5:=Nat.le_of_ble_eq_true b5
           have b6:=Nat.le_of_ble_eq_true b6
           subst b2
           obtain⟨ob,hob,hor⟩:=h.obj b _ hget T hm
           obtain⟨ov,hov,horv⟩:=h.obj vb _ hgetv T2 hm2
           cases hor with
           | cells _ _ _ arr t lo hi2 hTe hcl hsz hfz=>
            cases horv with
            | cells _ _ _ varr vt vlo vhi hTe2 hclv hszv hfzv=>
             have hTc:T2.c≠T.c:=fun e1=>g3 (h.inj vb b _ _ hgetv hget T2 T hm2 hm id id e1 (.inr rfl))
             rw[←hTe]at c4 c5
             have hold:A2 μ ((cs.drop off).take (len * e)) ((arr.toList.drop (T.d+off)).take (len * e)):=by
              have:=(hcl.drop off).take (len * e)
              rw[List.drop_take,List.drop_drop,List.take_take,Nat.min_eq_left (by rw[List.length_take,List.length_drop]at b1;omega)]at this
              exact this
             have hnew:A2 μ ((vcs.drop voff).take (m * e)) ((varr.toList.drop (T2.d+voff)).take (m * e)):=by
              have:=(hclv.drop voff).take (m * e)
              rw[List.drop_take,List.drop_drop,List.take_take,Nat.min_eq_left (by rw[List.length_take,List.length_drop]at hvlen;omega)]at this
              exact this
             have hlo:=hold.length
             have hln:=hnew.length
             generalize hO:(cs.drop off).take (len * e)=O at hold hlo b1 b3 ⊢
             generalize hV:(vcs.drop voff).take (m * e)=V at hnew hln hvlen b4 ⊢
             generalize hO':(arr.toList.drop (T.d+off)).take (len * e)=O' at hold hlo
             generalize hV':(varr.toList.drop (T2.d+voff)).take (m * e)=V' at hnew hln
             have hcsC:∀j v,O'[j]? = some v→W.cell? ⟨T.c,T.d+off+j,none⟩=some v:=fun j v hj=>Hj hob (by rw[hO'];exact hj)
             have hvsC:∀j v,V'[j]? = some v→W.cell? ⟨T2.c,T2.d+voff+j,none⟩=some v:=fun j v hj=>Hj hov (by rw[hV'];exact hj)
             have h1O:=Hu hold b3
             have h1V:=Hu hnew b4
             have hie:i * e≤len * e:=Nat.mul_le_mul_right _ (by omega)
             have hmul:(i+m) * e=i * e+m * e:=Nat.add_mul _ _ _
             have hmul2:(len+m) * e=len * e+m * e:=Nat.add_mul _ _ _
             obtain⟨hdel,hdelE⟩:=h.del hm
             have hrel:A2 μ (O.take (i * e)++(V++O.drop (i * e))) (O'.take (i * e)++(V'++O'.drop (i * e))):=(hold.take _).append (hnew.append (hold.drop _))
             have hrl:(O.take (i * e)++(V++O.drop (i * e))).length=len * e+m * e:=by
              simp only[List.length_append,List.length_take,List.length_drop];omega
             have hdl:(O'.drop (i * e)).length=len * e - i * e:=by rw[List.length_drop];omega
             have hvsz:T2.d+voff+m * e≤varr.size:=by
              have:=hclv.length
              have hx:((varr.toList.drop (T2.d+voff)).take (m * e)).length=m * e:=by rw[hV'];omega
              rw[List.length_take,List.length_drop,Array.length_toList]at hx
              omega
             by_cases hfit:len+m≤cap'
             ·have hce:(len+m) * e≤cap' * e:=Nat.mul_le_mul_right _ hfit
              refine Calls.mono (hS T.c (T.d+off) len cap' i T2.c (T2.d+voff) m vcap' O' V' W g2 (by omega) hfit (by omega) hTc (by omega) (by omega) hcsC ?_ ?_ hvsC h1O h1V vt t varr.size arr.size ?_ ?_ ?_ ?_ ?_) ?_
              ·intro j hj
               simp only[World.cell?,hob]
               rw[Array.getElem?_eq_getElem (by omega)];rfl
              ·intro j hj
               have:=hfz rfl (T.d+off+j) (.inl (by omega))
               simp only[World.frozen?,hob,Bool.and_eq_false_iff,decide_eq_false_iff_not]
               omega
              ·simp only[World.shape?,hov]
              ·simp only[World.shape?,hob]
              ·have:0 < (len+m) * e:=Nat.mul_pos (by omega) hk0
               omega
              ·have:=hfzv rfl (T2.d+voff) (.inl (by have:0 < m * e:=Nat.pos_of_ne_zero hmk;omega))
               simp only[World.frozen?,hov,Bool.and_eq_false_iff,decide_eq_false_iff_not]
               omega
              ·have:=hfzv rfl varr.size (.inr ⟨rfl,hve⟩)
               simp only[World.frozen?,hov,Bool.and_eq_false_iff,decide_eq_false_iff_not]
               omega
              ·rintro ex W' ⟨rfl,rfl⟩
               obtain⟨a1,r1,r2,r2b,r3,r4,r5,r6⟩:=Df T.c t (lo,hi2) (O'.drop (i * e)) (T.d+off+(i+m) * e) arr W.drew hob (by omega)
               obtain⟨a2,s1,s2,s2b,s3,s4,s5,s6⟩:=Df T.c t (lo,hi2) V' (T.d+off+i * e) a1 _ r1 (by omega)
               obtain⟨φ,q⟩:=h.abs
               have hmap:=hdel.HJ (T:=⟨T.c,T.d+off,T.r - off,e⟩) (o:= .cells (O.take (i * e)++(V++O.drop (i * e))) e false) (W':=(W.drew.setCells T.c (T.d+off+(i+m) * e) (O'.drop (i * e))).setCells T.c (T.d+off+i * e) V')
                (by rw[s3,r3];exact Nat.le_refl _) (fun j _ hj=>by rw[s4 j hj,r4 j hj];rfl)
                (fun b' p T' hb' hm' hv=>by
                 intro e1
                 obtain⟨e2,hb2⟩:=AA.A9 hb'
                 exact e2 (h.inj b' b _ _ hb2 hget T' T hm' hm hv id e1 (.inr rfl)))
                ⟨φ,⟨fun b' a ro T' h1 h2=>q.rep b' a ro T' (AA.A9 h1).2 h2,fun b' a ro T' h1 h2 b2 o2 T2 h3 h4 h5=>q.D2 b' a ro T' (AA.A9 h1).2 h2 b2 o2 T2 (AA.A9 h3).2 h4 h5⟩,
                 fun b' a ro h1 ⟨T',h2⟩=>(q.D2 b' a ro T' (AA.A9 h1).2 h2 b _ T hget hm (Ne.symm (AA.A9 h1).1)).1 id⟩
                s1 (h.own b _ hget rfl T hm id) ?_ (by rw[s5,r5];rfl) (by rw[s6,r6];rfl)
               ·exact⟨_,_,rfl,hmap.1,.slice H.next 0 _ _ _ _ ⟨T.c,T.d+off,T.r - off,e⟩ (Ad.Ak _ _ _) (.inr ⟨by omega,by omega,hfit,by show 0+cap' * e≤T.r - off;omega,by show e=1∨_;omega⟩) (.inl rfl),hdelE.trans hmap.2⟩
               ·refine .cells ⟨T.c,T.d+off,T.r - off,e⟩ _ _ false _ t lo hi2 rfl ?_ ?_ ?_
                ·show A2 μ _ (List.take _ (List.drop (T.d+off) a2.toList))
                 have hA:arr.toList=arr.toList.take (T.d+off)++arr.toList.drop (T.d+off):=(List.take_append_drop _ _).symm
                 have hAl:(arr.toList.take (T.d+off)).length=T.d+off:=by rw[List.length_take,Array.length_toList];omega
                 generalize hA0:arr.toList.take (T.d+off)=A0 at hA hAl
                 generalize hA1:arr.toList.drop (T.d+off)=A1 at hA hO'
                 have hA1l:(len+m) * e≤A1.length:=by rw[←hA1,List.length_drop,Array.length_toList];omega
                 have hs2:a2.toList=A0++BL (BL A1 ((i+m) * e) (O'.drop (i * e))) (i * e) V':=by
                  rw[s2,r2,hA]
                  rw[show T.d+off+(i+m) * e=A0.length+(i+m) * e by omega,IH]
                  rw[show T.d+off+i * e=A0.length+i * e by omega,IH]
                 rw[hs2,hrl,List.drop_left' hAl]
                 have hup:=VB A1 (O'.drop (i * e)) V' (i * e) ((i+m) * e) (by omega) (by omega)
                 rw[show i * e+V'.length+(O'.drop (i * e)).length=len * e+m * e by omega]at hup
                 rw[hup,show A1.take (i * e)=O'.take (i * e) by rw[←hO',List.take_take,Nat.min_eq_left hie]]
                 exact hrel
                ·show a2.size=T.d+off+(T.r - off)
                 omega
                ·intro _ j hj
                 refine hfz rfl j ?_
                 have:a2.size=arr.size:=by omega
                 rw[←this];exact hj
             ·refine Calls.mono (hG T.c (T.d+off) len cap' i T2.c (T2.d+voff) m vcap' O' V' W g2 (by omega) c3 (by omega) b5 (by omega) (by omega) hcsC hvsC h1O h1V) ?_
              rintro ex W' ⟨G,ROW,z1,z2,z3,rfl,z4,rfl⟩
              have hGe:(len+m) * e≤G * e:=Nat.mul_le_mul_right _ z1
              have hal:(W.alloc (.cells ROW E)).drew.heap[W.heap.size]? = some (.cells ROW E (0,0)):=by
               show(W.heap.push _)[W.heap.size]? = _
               simp
              obtain⟨a1,r1,r2,r2b,r3,r4,r5,r6⟩:=Df W.heap.size E (0,0) V' (i * e) ROW (W.alloc (.cells ROW E)).drew hal (by omega)
              obtain⟨a2,s1,s2,s2b,s3,s4,s5,s6⟩:=Df W.heap.size E (0,0) (O'.drop (i * e)) ((i+m) * e) a1 (((W.alloc (.cells ROW E)).drew.setCells W.heap.size (i * e) V').drew) r1 (by omega)
              have hpush:(W.alloc (.cells ROW E)).drew.heap.size=W.heap.size+1:=by
               show(W.heap.push _).size=_
               simp
              obtain⟨φ,q⟩:=hdel.abs
              have hmap:=hdel.HJ (T:=⟨W.heap.size,0,G * e,e⟩) (o:= .cells (O.take (i * e)++(V++O.drop (i * e))) e false) (W':=(((W.alloc (.cells ROW E)).drew.setCells W.heap.size (i * e) V').drew).setCells W.heap.size ((i+m) * e) (O'.drop (i * e)))
               (by
                rw[s3]
                show W.heap.size≤((W.alloc (.cells ROW E)).drew.setCells W.heap.size (i * e) V').heap.size
                rw[r3,hpush];omega)
               (fun j hjl hj=>by
                rw[s4 j hj]
                show((W.alloc (.cells ROW E)).drew.setCells W.heap.size (i * e) V').heap[j]? = _
                rw[r4 j hj]
                show(W.heap.push _)[j]? = _
                rw[Array.getElem?_push,if_neg (by omega)])
               (fun b' p T' hb' hm' _=>by have:=hdel.bound b' T' hm';show T'.c≠W.heap.size;omega)
               ⟨φ,q,fun b' a ro hb' ⟨T',hm'⟩ hc=>by
                have:=(Cx.GB _ _ _ _ (q.rep b' a ro T' hb' hm').1).2 _ hc
                exact absurd this (Nat.lt_irrefl _)⟩
               s1 (fun hk=>absurd (hdel.size _ hk) (Nat.lt_irrefl _)) ?_ (by rw[s5];show((W.alloc (.cells ROW E)).drew.setCells W.heap.size (i * e) V').output=_;rw[r5];rfl) (by rw[s6];show((W.alloc (.cells ROW E)).drew.setCells W.heap.size (i * e) V').os=_;rw[r6];rfl)
              ·exact⟨_,_,rfl,hmap.1,.slice H.next 0 _ _ _ _ ⟨W.heap.size,0,G * e,e⟩ (Ad.Ak _ _ _) (.inr ⟨by omega,by omega,z1,by show 0+G * e≤G * e;omega,.inr z4⟩) (.inl rfl),hdelE.trans hmap.2⟩
              ·refine .cells ⟨W.heap.size,0,G * e,e⟩ _ _ false _ E 0 0 rfl ?_ ?_ (fun _ j _=>by omega)
               ·show A2 μ _ (List.take _ (List.drop 0 a2.toList))
                rw[List.drop_zero,s2,r2,hrl]
                have hup:=Sg ROW.toList (O'.drop (i * e)) V' (i * e) ((i+m) * e) (by omega) (by have e5:ROW.toList.length=ROW.size:=Array.length_toList;rw[e5];omega)
                rw[show i * e+V'.length+(O'.drop (i * e)).length=len * e+m * e by omega]at hup
                rw[hup,z3]
                exact hrel
               ·show a2.size=0+G * e
                omega
          ·cases hF
         ·cases hsrc
        ·exact absurd (Nat.eq_of_beq_eq_true hz) hmk
       ·cases hF
 ·cases hF
end
end Go.AD

namespace Go.AD
theorem UL {P:Program} {laid:List (Nat × List Value)} {fs:List (FuncId × Ci)} (hfs:Au P laid fs) {k:N7} {n N:Nat} (hs:S7 P laid k n N=true)
 {c':A5} {H1:AA} (hrun:Hh (Cf P laid fs) (GO k.f (CQ 0 k.args .leaf) n (BH P k.f []) (GK laid N)) c') (hd:DR (Cf P laid fs) k.f c'=some (k.v,H1)):IN P laid k:=by
 simp only[S7,Bool.and_eq_true]at hs
 obtain⟨⟨⟨⟨⟨h1,h2⟩,h3⟩,h4⟩,h5⟩,h6⟩:=hs
 have he:entry P k.f=some (n,BH P k.f []):=by
  cases h:entry P k.f with
  | none=>rw[h]at h6;cases h6
  | some p=>
   obtain⟨m,c⟩:=p
   rw[h]at h6
   rw[←Nat.eq_of_beq_eq_true h6]
   rw[←h];exact WM h
 exact⟨⟨n,_,he⟩,fun _ _ _ _ _ _ hW hH ha=>Tz (X:=⟨P,laid,fun _=>none,JB P⟩) (Cf P laid fs) rfl rfl hW (fun base W0 hW=>hfs.GC base W0 hW) (FZ h1 rfl) he h2 (Nat.le_of_ble_eq_true h3) (Mk h4) hrun hd h5 hH ha⟩
end Go.AD

set_option maxRecDepth 1000000
namespace Go.AD
open Go.Proofs
abbrev AT:EK:=[.str,.str]
def cH:List Value:=[.int .u64 1,.int .u64 10,.int .u64 100,.int .u64 1000,.int .u64 10000,.int .u64 100000,.int .u64 1000000,.int .u64 10000000,.int .u64 100000000,.int .u64 1000000000,.int .u64 10000000000,.int .u64 100000000000,.int .u64 1000000000000,.int .u64 10000000000000,.int .u64 100000000000000,.int .u64 1000000000000000,.int .u64 10000000000000000,.int .u64 100000000000000000,.int .u64 1000000000000000000,.int .u64 10000000000000000000]
noncomputable def AM:List (Nat × List Value):=[(0,[.string ⟨#[97]⟩,.string ⟨#[98]⟩,.string ⟨#[99]⟩,.string ⟨#[97,98]⟩,.string ⟨#[107,49]⟩]),(2,cH),(5,[Be]),(6,[Be])]
noncomputable def X0:Ctx:=Cf Tryz.prog AM []
noncomputable def st (f:FuncId) (n:Nat) (args:List Value) (H:AA):A5:=GO f (CQ 0 args .leaf) n (BH Tryz.prog f []) H
noncomputable def X3 (b:Nat):Value:= .func (.func Hn) ⟨[]⟩ ⟨[.pointer (some ⟨b,0,none⟩)]⟩
noncomputable def ch (l:List (EK.C AT)) (k:ByteArray):AA:=BF ⟨.leaf,9⟩ [.vec AT l true,.cells [.string k] 0 true]
noncomputable def SA (l:List (EK.C AT)) (k:ByteArray) (n:Nat) (low high:Int):A5:=
 ⟨⟨BI,HQ [(0,.slice (some ⟨9,0,some 0⟩) n AE),(1,X3 10),(5,.int .i64 low),(6,.int .i64 high)],27,[.code (BH Tryz.prog 71 [1,1,0,0,0]),.inLoop (BH Tryz.prog 71 [1,1,0,0,0]),.inBlock 0,.code (BH Tryz.prog 71 [1,1,1])],[],false,.normal,none⟩,[],ch l k⟩
def ZI:Stop:=⟨BI,0,3,11,[9,10],[0,1,5,6]⟩
theorem YY (l:List (EK.C AT)) (k:ByteArray) (n:Nat) (Q:Value→List (Option AJ)→Prop) (R:A5→Prop):LK X0 Cp BI [] ZI Q R 100 (st BI 27 [.slice (some ⟨9,0,some 0⟩) n AE,X3 10] (ch l k))=(
 (R (SA l k n 0 (Int.ofNat n)))):=by kernel_rfl
theorem bY (l:List (EK.C AT)) (k:ByteArray) (n:Nat) (low high:Int) (Q:Value→List (Option AJ)→Prop) (R:A5→Prop):LK X0 Cp BI [] ZI Q R 200 (SA l k n low high)=(
 (bif decide (low < high)then(bif decide (0≤IntKind.wrap .i64 (Int.tdiv (IntKind.wrap .i64 (low+high)) 2))&&Nat.blt (Int.toNat (IntKind.wrap .i64 (Int.tdiv (IntKind.wrap .i64 (low+high)) 2))) n then(bif Nat.blt (0+Int.toNat (IntKind.wrap .i64 (Int.tdiv (IntKind.wrap .i64 (low+high)) 2))) (List.length l)then(bif !Op.bytesLess (ByteArray.toList (Prod.fst (List.getD l (0+Int.toNat (IntKind.wrap .i64 (Int.tdiv (IntKind.wrap .i64 (low+high)) 2))) (EK.AU AT)))) (ByteArray.toList k)then(R (SA l k n low (IntKind.wrap .i64 (Int.tdiv (IntKind.wrap .i64 (low+high)) 2))))else(R (SA l k n (IntKind.wrap .i64 (IntKind.wrap .i64 (Int.tdiv (IntKind.wrap .i64 (low+high)) 2)+1)) high)))else False)else False)else(Q (.int .i64 low) []))):=by kernel_rfl
theorem Yl (k:ByteArray) (Q:Value→List (Option AJ)→Prop):FD X0 Cp BI [] Q 100 (st BI 27 [.slice none 0 0,X3 9] (BF ⟨.leaf,9⟩ [.cells [.string k] 0 true]))=(
 (Q (.int .i64 0) [])):=by kernel_rfl
end Go.AD

namespace Go.AD
theorem wrap64 {x:Int} (h1: -9223372036854775808≤x) (h2:x≤9223372036854775807):IntKind.wrap .i64 x=x:=by
 show(if (true&&decide (x % 18446744073709551616≥9223372036854775808))=true then x % 18446744073709551616 - 18446744073709551616 else x % 18446744073709551616)=x
 simp only[Bool.true_and,decide_eq_true_eq]
 split<;>omega
theorem AY {p:Prop} [Decidable p] {A B:Prop} (h1:p→A) (h2:¬p→B):(bif decide p then A else B):=by
 by_cases h:p
 ·rw[decide_eq_true h];exact h1 h
 ·rw[decide_eq_false h];exact h2 h
theorem AF {b:Bool} {A B:Prop} (h:b=true) (h1:A):(bif b then A else B):=by rw[h];exact h1
theorem Cm {b:Bool} {A B:Prop} (h:b=false) (h1:B):(bif b then A else B):=by rw[h];exact h1
theorem As {b:Bool} {A B:Prop} (h1:b=true→A) (h2:b=false→B):(bif b then A else B):=by
 cases b
 ·exact h2 rfl
 ·exact h1 rfl
end Go.AD

namespace Go.AD
open Go.Proofs
def Gy (a b:ByteArray):Bool:=Op.bytesLess a.toList b.toList
theorem KB:∀l:List UInt8,Op.bytesLess l l=false:=by
 intro l
 induction l with
 | nil=>rfl
 | cons a l ih=>simp[Op.bytesLess,ih]
theorem LJ:∀a b c:List UInt8,Op.bytesLess a b=true→Op.bytesLess b c=true→Op.bytesLess a c=true:=by
 intro a
 induction a with
 | nil=>intro b c h1 h2;cases c with
  | nil=>cases b<;>simp[Op.bytesLess]at h2
  | cons=>rfl
 | cons x a ih=>
  intro b c h1 h2
  cases b with
  | nil=>simp[Op.bytesLess]at h1
  | cons y b=>cases c with
   | nil=>simp[Op.bytesLess]at h2
   | cons z c=>
    simp only[Op.bytesLess,Bool.or_eq_true,Bool.and_eq_true,decide_eq_true_eq,beq_iff_eq]at h1 h2 ⊢
    rcases h1 with h1 | ⟨rfl,h1⟩
    ·rcases h2 with h2 | ⟨rfl,h2⟩
     ·exact .inl (UInt8.lt_trans h1 h2)
     ·exact .inl h1
    ·rcases h2 with h2 | ⟨rfl,h2⟩
     ·exact .inl h2
     ·exact .inr ⟨rfl,ih b c h1 h2⟩
theorem KT {a b c:ByteArray} (h1:Gy a b=true) (h2:Gy b c=true):Gy a c=true:=LJ _ _ _ h1 h2
def A8 (l:List (EK.C AT)):Prop:=l.Pairwise fun x y=>Gy x.1 y.1=true
def AO (l:List (EK.C AT)) (k:ByteArray):Nat:=(l.takeWhile fun x=>Gy x.1 k).length
theorem Ly (l:List (EK.C AT)) (k:ByteArray):AO l k≤l.length:=by
 induction l with
 | nil=>exact Nat.le_refl _
 | cons x l ih=>
  unfold AO at *
  rw[List.takeWhile_cons]
  split
  ·simp only[List.length_cons];omega
  ·simp
theorem Uu {l:List (EK.C AT)} (hs:A8 l) (k:ByteArray):∀(i:Nat) (h:i < l.length),Gy (l[i]).1 k=true ↔ i < AO l k:=by
 induction l with
 | nil=>intro i h;cases h
 | cons x l ih=>
  have hs':=List.pairwise_cons.1 hs
  have hr:AO (x::l) k=if Gy x.1 k then AO l k+1 else 0:=by
   unfold AO
   rw[List.takeWhile_cons]
   split<;>rfl
  intro i h
  rw[hr]
  cases i with
  | zero=>
   by_cases c:Gy x.1 k=true
   ·simp[c]
   ·simp[c]
  | succ i=>
   have:=ih hs'.2 i (by simpa using h)
   by_cases c:Gy x.1 k=true
   ·rw[if_pos c]
    show Gy (l[i]'(by simpa using h)).1 k=true ↔ _
    rw[this];omega
   ·rw[if_neg c]
    show Gy (l[i]'(by simpa using h)).1 k=true ↔ _
    constructor
    ·intro hk
     exact absurd (KT (hs'.1 _ (List.getElem_mem (by simpa using h))) hk) c
    ·intro hz;omega
theorem WT {l:List (EK.C AT)} (hs:A8 l) (k:ByteArray) (hn:l.length < 4611686018427387904):∀(m low high:Nat),high - low=m→low≤AO l k→AO l k≤high→high≤l.length→
 Ai X0 11 BI (fun v _=>v= .int .i64 (AO l k)) (SA l k l.length low high):=by
 intro m
 induction m using Nat.strongRecOn with
 | _ m ih=>
  intro low high hm h1 h2 h3
  refine CB (Ax X0) (ids:=[]) (S:=ZI) (by kernel_rfl) (Q:=fun v _=>v= .int .i64 (AO l k))
   (R:=fun c=>∃low' high':Nat,c=SA l k l.length low' high'∧high' - low' < m∧low'≤AO l k∧AO l k≤high'∧high'≤l.length) (fun v H h=>h) (fun c ⟨low',high',e,g1,g2,g3,g4⟩=>by rw[e];exact ih _ g1 low' high' rfl g2 g3 g4) 200 _ ?_
  rw[bY]
  refine AY (fun h=>?_) (fun h=>?_)
  ·have hlt:low < high:=by omega
   rw[wrap64 (x:=(low:Int)+high) (by omega) (by omega)]
   have hmid:Int.tdiv ((low:Int)+(high:Int)) 2=((low+high) / 2:Nat):=by
    rw[Int.tdiv_eq_ediv_of_nonneg (by omega)];omega
   rw[hmid,wrap64 (x:=(((low+high) / 2:Nat):Int)) (by omega) (by omega)]
   generalize hM:(low+high) / 2=M
   have hM1:low≤M∧M < high:=by omega
   have hb:Nat.blt (Int.toNat (M:Int)) l.length=true:=Nat.ble_eq_true_of_le (by rw[Int.toNat_natCast];omega)
   have e1:(decide ((0:Int)≤(M:Int))&&Nat.blt (Int.toNat (M:Int)) l.length)=true:=by rw[hb];simp
   have e2:Nat.blt (0+Int.toNat (M:Int)) l.length=true:=by rw[Nat.zero_add];exact hb
   have hg:List.getD l (0+Int.toNat (M:Int)) (EK.AU AT)=l[M]'(by omega):=by
    rw[Int.toNat_natCast,Nat.zero_add,List.getD_eq_getElem?_getD,List.getElem?_eq_getElem (by omega)];rfl
   refine AF e1 (AF e2 ?_)
   rw[hg]
   have hiff:=Uu hs k M (by omega)
   refine As (fun hc=>?_) (fun hc=>?_)
   ·have hc:Gy (l[M]'(by omega)).1 k=false:=by simpa [Gy] using hc
    have:¬M < AO l k:=fun hlt=>by rw[hiff.2 hlt]at hc;cases hc
    exact⟨low,M,rfl,by omega,h1,by omega,by omega⟩
   ·have hc:Gy (l[M]'(by omega)).1 k=true:=by simpa [Gy] using hc
    have:=hiff.1 hc
    rw[wrap64 (x:=(M:Int)+1) (by omega) (by omega)]
    exact⟨M+1,high,rfl,by omega,by omega,h2,h3⟩
  ·show Value.int .i64 _=_
   have:low=AO l k:=by omega
   rw[this]
noncomputable def PA (args:List Value) (objs:List AJ):GT:=
 match args,objs with
 | [.slice (some ⟨9,0,some 0⟩) n c,.func (.func 72) ⟨[]⟩ ⟨[.pointer (some ⟨10,0,none⟩)]⟩],[.vec [.str,.str] l _,.cells [.string k] 0 _]=> .ask (n=l.length∧c=AE∧A8 l∧l.length < 4611686018427387904) (.ret ⟨.int .i64 (AO l k),[],[]⟩)
 | [.slice none 0 0,.func (.func 72) ⟨[]⟩ ⟨[.pointer (some ⟨9,0,none⟩)]⟩],[.cells [.string _] 0 _]=> .ret ⟨.int .i64 0,[],[]⟩
 | _,_=> .fail
theorem Gl {laid:List (Nat × List Value)} {N m:Nat} {v:Value} {Hf:AA} {MG:List (Option AJ)} (hv:Cd 6 v=true):Ck laid N m [] ⟨v,MG,[]⟩ v Hf:=
 ⟨[],List.nodup_nil,fun b hb=>(by cases hb),rfl,Jr 6 v hv,fun j b o hj=>(by cases hj),fun j o _ hm=>(by cases hm)⟩
theorem Uv:Dr Tryz.prog AM BI (Ay AM 9 [] PA):=by
 refine QI (fs:=[]) (Au.nil _ _) (by kernel_rfl) (n:=27) (by kernel_rfl) (by kernel_rfl) fun argsc objs x hx _=>?_
 unfold PA at hx
 split at hx
 ·rename_i n c l ro k ro2 _
  simp only[GT.run]at hx
  split at hx
  ·rename_i hc
   cases hx
   obtain⟨rfl,rfl,hs,hn⟩:=hc
   refine⟨by simp,?_⟩
   have h0:Ai X0 11 BI (fun v _=>v= .int .i64 (AO l k)) (st BI 27 [.slice (some ⟨9,0,some 0⟩) l.length AE,X3 10] (ch l k)):=by
    refine CB (Ax X0) (ids:=[]) (S:=ZI) (by kernel_rfl) (Q:=fun _ _=>False) (R:=fun c=>c=SA l k l.length 0 (l.length:Int)) (fun v H h=>h.elim) (fun c h=>by
     rw[h]
     exact WT hs k hn l.length 0 l.length (by omega) (by omega) (Ly l k) (Nat.le_refl _)) 100 _ ?_
    rw[YY]
    rfl
   refine Ai.mono (Q:=fun v _=>v= .int .i64 (AO l k)) h0 fun v H h=>?_
   subst h
   exact Gl (by rfl)
  ·cases hx
 ·rename_i k ro _
  cases hx
  refine⟨by simp,?_⟩
  have h0:Ai X0 10 BI (fun v _=>v= .int .i64 0) (st BI 27 [.slice none 0 0,X3 9] (BF ⟨.leaf,9⟩ [.cells [.string k] 0 true])):=
   Bc.GF (B4 (Ax X0) (ids:=[]) (Q:=fun v _=>v= .int .i64 0) 100 _ (by rw[Yl]))
  refine Ai.mono (Q:=fun v _=>v= .int .i64 0) h0 fun v H h=>?_
  subst h
  exact Gl (by rfl)
 ·cases hx
end Go.AD
